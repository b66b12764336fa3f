/- store: what is kept by ids. -/
import Derived.Test.YtlbjmgpbgkiejaaGreatDoorPrimK
import Derived.Test.YtlbjmgpbgkiejaaGreatDoorStoLaw
import Derived.Test.YtlbjmgpbgkiejaaGreatDoorMK
namespace Go.Ab
noncomputable section
open Go.Proofs
set_option maxRecDepth 10000
variable {H H' : AH}

/-! Rows of cells. -/
theorem ldG {n : Nat} (e : TypeId) {cs : List AV} (hl : cs.length = n) (hn : 0 < n) (hk : cs.all AV.known = true) : ldN n (some (.cells e cs)) 0 = some (.agg cs) := by
  refine ldN_of (fun q => by rw [q] at hl; simp at hl; omega) hl (fun i v h => ?_) hk
  rw [Nat.zero_add]
  exact h
theorem stG {n : Nat} (b : Nat) (e : TypeId) {cs l : List AV} (hc : cs.length = n) (hl : l.length = n) (hn : 0 < n) (h1 : l.all AV.one = true) : stN n H b (some (.cells e cs)) 0 (.agg l) = some (.skip (H.put b (some (.cells e l)))) := by
  rw [stN_cells b e cs 0 (.agg l) ⟨hl, h1, fun q => by rw [show (AV.agg l).parts = l from rfl] at q; rw [q] at hl; simp at hl; omega⟩ (by omega), show (AV.agg l).parts = l from rfl, List.take_zero, List.nil_append, List.drop_of_length_le (by omega), List.append_nil]
theorem resG {n b : Nat} {e : TypeId} {l : List AV} (h : H.get b = some (.cells e l)) (hl : l.length = n) (hk : l.all AV.known = true) (r : Option (List AV)) : resR (partF (some (some n))) H (.ptr (some (b, 0))) r = ob r fun q => some (.agg l :: q) := by
  have e1 : cut l 0 n = some l := by rw [cut_eq, if_pos (by omega), List.drop_zero, List.take_of_length_le (by omega)]
  simp only [resR, partF, ob_some, onPtr, cellsTo, h]
  rw [e1, ob_some, ob_some]
  simp only [clearA, allB_eq, hk, br_true, ob_some]
theorem endG {n b : Nat} {e : TypeId} {l : List AV} (h : H.get b = some (.cells e l)) (hl : l.length = n) (hk : l.all AV.known = true) (K : AV → AH → Prop) : endP (resR (partF (some (some n))) H (.ptr (some (b, 0))) (some [])) K H = K (.agg l) H := by
  rw [resG h hl hk]; rfl
theorem endG' {n b : Nat} {e : TypeId} {l : List AV} (h : H.get b = some (.cells e l)) (hl : l.length = n) (hk : l.all AV.known = true) (r : AV) (K : AV → AH → Prop) : endP (resR (partF (some (some n))) H (.ptr (some (b, 0))) (resT r (some []))) K H = K (.tup [.agg l, r]) H := by
  rw [resG h hl hk]; rfl

/-! Items. -/
/-- An item's vector lies somewhere. -/
structure ItmF (H : AH) (i : Itm) : Prop where
  is : Is .i32 H i.b i.v i.V
  len : i.V.length ≤ 1000
theorem ItmF.mono0 {i : Itm} (h : ItmF H i) (e : Ext [] H H') : ItmF H' i := ⟨Sl.mono h.is e (by simp), h.len⟩
theorem slk_factsK {v : AV} (h : SlK v) : v.one = true ∧ clearA v = some v ∧ v.known = true := by
  rcases h with rfl | ⟨_, _, rfl⟩ | ⟨_, _, _, _, _, rfl⟩ <;> exact ⟨rfl, rfl, rfl⟩
theorem row_one {i : Itm} (h : i.v.one = true) : (rowI i).all AV.one = true := by show (i.v.one && true) = true; rw [h]; rfl
theorem row_known {i : Itm} (h : i.v.known = true) : (rowI i).all AV.known = true := by show (i.v.known && true) = true; rw [h]; rfl
theorem row_f1 (e : TypeId) (i : Itm) (h : clearA i.v = some i.v) : ldV (some (.cells e (rowI i))) 1 = some i.v := h
theorem row_f4 (e : TypeId) (i : Itm) : ldV (some (.cells e (rowI i))) 4 = some (.bool i.gone) := rfl
theorem zero_alloc : w_alloc 29 [(.int .i64 0), (.slice none 0 0 true), (.str []), (.int .i64 0), (.bool false)] H none = some (.val (.ptr (some (H.next, 0))) (H.new (.cells 29 (rowI Itm.zero)))) := w_alloc_none _ _
theorem zero_build : w_build PP 29 H [] = some (.val (itmA Itm.zero) H) := by kernel_rfl
def Itm.sv (i : Itm) (v : AV) (b : Nat) : Itm := { i with v := v, b := b }
theorem copied_wp {i : Itm} (h : ItmF H i) (K : AV → AH → Prop) (hK : ∀ H' v b, Ext [] H H' → H.next ≤ b → Os 21 .i32 H' b v i.V → K (itmA (i.sv v b)) H') : CQ.call 85 [itmA i] H K := by
  refine m_store_copied_ok _ _ _ ?_
  unfold m_store_copied
  obtain ⟨f1, f2, f3⟩ := slk_factsK (Sl.slk h.is)
  rw [w_box_one (v := itmA i) (row_one f1), outP_val, show (itmA i).parts = rowI i from rfl, zero_alloc, outP_val]
  have x1 : Ext [] H ((H.new (.cells 29 (rowI i))).new (.cells 29 (rowI Itm.zero))) := ((Ext.refl _ _).new _).new _
  have g1 : ((H.new (.cells 29 (rowI i))).new (.cells 29 (rowI Itm.zero))).get H.next = some (.cells 29 (rowI i)) := by rw [get_new_ne _ (by rw [next_new]; omega), get_new_same]
  have g2 := get_new_same (H.new (.cells 29 (rowI i))) (.cells 29 (rowI Itm.zero))
  have nn : ((H.new (.cells 29 (rowI i))).new (.cells 29 (rowI Itm.zero))).next = H.next + 2 := rfl
  rw [show (H.new (.cells 29 (rowI i))).next = H.next + 1 from rfl] at g2 ⊢
  generalize (H.new (.cells 29 (rowI i))).new (.cells 29 (rowI Itm.zero)) = G at *
  rw [w_fieldAddr_ptr, outP_val, w_load_c, Nat.zero_add, g1, row_f1 _ _ f2, vO_some, outP_val, outP_enter]
  refine via_wp (by kernel_rfl) ?_
  refine vcopy_wp (Sl.mono h.is x1 (by simp)) (by have := h.len; omega) _ fun G2 v b x2 hb os => ?_
  obtain ⟨q1, q2, _, q3⟩ := Own.facts os
  have h1 : G2.get H.next = _ := x2.get (by omega) (by simp) g1
  have h2 : G2.get (H.next + 1) = _ := x2.get (by omega) (by simp) g2
  rw [w_fieldAddr_ptr, outP_val, w_store_c, Nat.zero_add, h1, stN_one _ _ _ _ _ q1 (by show 1 < 5; decide), outP_skip]
  have hs : (rowI i).set 1 v = rowI (i.sv v b) := rfl
  rw [hs, w_load_n, get_put_same, ldG (n := 5) _ rfl (by decide) (row_known (i := i.sv v b) q3), vO_some, outP_val, w_store_c, get_put_ne _ (by omega), h2, stG (n := 5) _ _ rfl rfl (by decide) (row_one (i := i.sv v b) q1), outP_skip, endG (n := 5) (get_put_same _ _) rfl (row_known (i := i.sv v b) q3)]
  have x3 : Ext [] H ((G2.put H.next (some (.cells 29 (rowI (i.sv v b))))).put (H.next + 1) (some (.cells 29 (rowI (i.sv v b))))) := ((x1.trans x2).put (.inl (Nat.le_refl _)) _).put (.inl (by omega)) _
  refine hK _ v b x3 (by omega) ?_
  have p1 : Ext [H.next, H.next + 1] G2 ((G2.put H.next (some (.cells 29 (rowI (i.sv v b))))).put (H.next + 1) (some (.cells 29 (rowI (i.sv v b))))) := ((Ext.refl _ _).put (b := H.next) (.inr (by simp)) _).put (b := H.next + 1) (.inr (by simp)) _
  exact Own.mono os p1 (by simp; omega)

/-! A store. -/
structure Sto (fl : List Nat) (H : AH) (s ms : Nat) (L : Ls) : Prop where
  hs : H.get s = some (.cells 166 [.map (some ms)])
  hm : ∃ clk, H.get ms = some (.mp (ents (meL L)) clk) ∧ St (meL L) clk
  slt : s < H.next
  mlt : ms < H.next
  nd : (idsL L).Nodup
  ids : ∀ p ∈ L, 1 ≤ p.1.id ∧ p.1.id ≤ 1000
  vs : ∀ p ∈ L, ItmF H p.1 ∧ p.1.b ∉ fl
  len : L.length ≤ 1000
theorem Sto.mono {fl : List Nat} {s ms : Nat} {L : Ls} (h : Sto fl H s ms L) {m : List Nat} (e : Ext m H H') (hm : ∀ b ∈ m, b ∈ fl) (h1 : s ∉ m) (h2 : ms ∉ m) : Sto fl H' s ms L := by
  obtain ⟨clk, q1, q2⟩ := h.hm
  have n := e.next
  refine ⟨e.get h.slt h1 h.hs, ⟨clk, e.get h.mlt h2 q1, q2⟩, by have := h.slt; omega, by have := h.mlt; omega, h.nd, h.ids, fun p hp => ?_, h.len⟩
  obtain ⟨⟨v1, v2⟩, v3⟩ := h.vs p hp
  exact ⟨⟨Sl.mono v1 e fun q => v3 (hm _ q), v2⟩, v3⟩
theorem Sto.mono0 {fl : List Nat} {s ms : Nat} {L : Ls} (h : Sto fl H s ms L) (e : Ext [] H H') : Sto fl H' s ms L := h.mono e (by simp) (by simp) (by simp)
theorem sto_build (m : Nat) : w_build PP 166 H [(0, .map (some m))] = some (.val (.agg [.map (some m)]) H) := by kernel_rfl
theorem storeNew_wp (fl : List Nat) (K : AV → AH → Prop) (hK : ∀ H', Ext [] H H' → H'.next = H.next + 2 → Sto fl H' (H.next + 1) H.next [] → K (.ptr (some (H.next + 1, 0))) H') : CQ.call 83 [] H K := by
  refine m_store_New_ok _ _ ?_
  unfold m_store_New
  rw [w_make_map, outP_val, sto_build, outP_val, w_box_one rfl, outP_val]
  refine hK _ (((Ext.refl _ _).new _).new _) rfl ⟨get_new_same _ _, ⟨0, ?_, st_nil 0⟩, ?_, ?_, by simp, by simp, by simp, by simp⟩
  · rw [get_new_ne _ (by rw [next_new]; omega), get_new_same]; rfl
  · show H.next + 1 < H.next + 2; omega
  · show H.next < H.next + 2; omega
theorem eq_sto (b o : Nat) : w_eq PP .eql 84 false true H (.ptr (some (b, o))) (.ptr none) = some (.val (.bool false) H) := by kernel_rfl
theorem itm_zero : zeroA PP 29 = some (itmA Itm.zero) := by kernel_rfl
theorem int_und : PP.underlying 3 = some (.int .i64) := by kernel_rfl
theorem look_meL (L : Ls) (k : Int) : lookM (itmA Itm.zero) (meL L) k = itmA ((lookL k L).getD Itm.zero) := by
  unfold lookM
  cases r : lookL k L with
  | none => rw [look_none r]; rfl
  | some i =>
    obtain ⟨x, e1, e2⟩ := look_some r 0
    rw [e1]; exact e2
theorem Sto.ld {fl : List Nat} {s ms : Nat} {L : Ls} (h : Sto fl H s ms L) : ldV (H.get s) 0 = some (.map (some ms)) := by rw [h.hs]; rfl
theorem Sto.look {fl : List Nat} {s ms : Nat} {L : Ls} (h : Sto fl H s ms L) (k : Int) : w_lookup PP 3 29 false H (.map (some ms)) (.int .i64 k) = some (.val (itmA ((lookL k L).getD Itm.zero)) H) := by
  obtain ⟨clk, q1, q2⟩ := h.hm
  rw [w_look int_und itm_zero q1, look_meL]
theorem Sto.item {fl : List Nat} {s ms : Nat} {L : Ls} (h : Sto fl H s ms L) {k : Int} {i : Itm} (hi : lookL k L = some i) : ItmF H i ∧ i.b ∉ fl ∧ i.id = k := by
  obtain ⟨p, hp, rfl, e⟩ := look_in hi
  exact ⟨(h.vs p hp).1, (h.vs p hp).2, e⟩
theorem w_look2 {kt et : TypeId} {kd : IntKind} {z : AV} (hk : PP.underlying kt = some (.int kd)) (hz : zeroA PP et = some z) {m clk : Nat} {M : Me} (h : H.get m = some (.mp (ents M) clk)) (k : Int) :
    w_lookup PP kt et true H (.map (some m)) (.int .i64 k) = some (.val (match findI k M 0 with | none => .tup [z, .bool false] | some x => .tup [x.2, .bool true]) H) := by
  simp only [w_lookup, oLookup, keyT, hk, hz, val_mk, br_true, entriesTo, mpTo, h, findA_ints, ob_some]
  cases findI k M 0 with
  | none => rfl
  | some x => rfl
theorem Sto.look2 {fl : List Nat} {s ms : Nat} {L : Ls} (h : Sto fl H s ms L) (k : Int) : w_lookup PP 3 29 true H (.map (some ms)) (.int .i64 k) = some (.val (.tup [itmA ((lookL k L).getD Itm.zero), .bool (lookL k L).isSome]) H) := by
  obtain ⟨clk, q1, q2⟩ := h.hm
  rw [w_look2 int_und itm_zero q1]
  cases r : lookL k L with
  | none => rw [look_none r]; rfl
  | some i =>
    obtain ⟨x, e1, e2⟩ := look_some r 0
    rw [e1]
    show some (Out.val (.tup [x.2, .bool true]) H) = _
    rw [e2]; rfl
theorem itmF_zero (H : AH) : ItmF H Itm.zero := ⟨⟨.inl ⟨.inl rfl, rfl⟩⟩, by simp [Itm.zero]⟩
end
end Go.Ab
/- store: put, got, all of it, how many. -/
namespace Go.Ab
noncomputable section
open Go.Proofs
set_option maxRecDepth 10000
variable {H H' : AH} {fl : List Nat} {s ms : Nat} {L : Ls}

theorem len_strK (t : List UInt8) : w_len PP 9 H (.str t) = some (.val (.int .i64 t.length) H) := by kernel_rfl
theorem beq_map (m : Nat) : AV.beq (.map (some m)) (.map (some m)) = true := by simp [AV.beq]
theorem itm_seq (i : Itm) : w_field none 3 H (itmA i) = some (.val (.int .i64 i.seq) H) := rfl
theorem itm_build {v : AV} (hv : SlK v) (id seq : Int) (pay : List UInt8) (b : Nat) (V : List Int) : w_build PP 29 H [(0, .int .i64 id), (1, v), (2, .str pay), (3, .int .i64 seq)] = some (.val (itmA ⟨id, v, b, V, pay, seq, false⟩) H) := by
  rcases hv with rfl | ⟨_, _, rfl⟩ | ⟨_, _, _, _, _, rfl⟩ <;> kernel_rfl
theorem len_putS (L : Ls) (i : Itm) (clk : Nat) : (putS L i clk).length = if i.id ∈ idsL L then L.length else L.length + 1 := by
  have := congrArg List.length (ids_putS L i clk)
  rw [List.length_map] at this
  rw [this]
  split <;> simp
theorem storePut_wp (h : Sto fl H s ms L) (hms : ms ∈ fl) (hsm : s ≠ ms) (hfl : ∀ b ∈ fl, b < H.next) {id seq : Int} (hid : 1 ≤ id ∧ id ≤ 1000) {v : AV} {b : Nat} {V : List Int} (hv : Is .i32 H b v V) (hV : V.length ≤ 1000) {pay : List UInt8} (hp : pay.length ≤ 40)
    (hq : ((lookL id L).getD Itm.zero).seq < seq) (hl : id ∈ idsL L ∨ L.length < 1000) (K : AV → AH → Prop)
    (hK : ∀ H' v' b' clk, Ext [ms] H H' → H.next ≤ b' → Sto fl H' s ms (putS L ⟨id, v', b', V, pay, seq, false⟩ clk) → K .nilIface H') :
    CQ.call 33 [.ptr (some (s, 0)), .int .i64 id, v, .str pay, .int .i64 seq] H K := by
  refine m_store_Store_Put_ok _ _ _ _ _ _ _ ?_
  unfold m_store_Store_Put
  have d1 : decide (id < 1) = false := decide_eq_false (by omega)
  have d2 : decide (1000 < id) = false := decide_eq_false (by omega)
  have d3 : decide ((40 : Int) < (pay.length : Int)) = false := decide_eq_false (by omega)
  have d4 : decide (seq ≤ ((lookL id L).getD Itm.zero).seq) = false := decide_eq_false (by omega)
  repeat (first | rw [outP_val] | rw [guardP_true] | rw [eq_sto] | rw [d1] | rw [d2] | rw [d3] | rw [d4] | rw [len_strK] | rw [h.ld] | rw [h.look] | rw [itm_seq] | rw [itm_build (Sl.slk hv) id seq pay b V] | rw [condP_false] | rw [boolIs_bool] | rw [beq_ff] | rw [Bool.not_false] | rw [w_pick_b] | rw [if_neg Bool.false_ne_true] | rw [w_fieldAddr_ptr] | rw [w_nil_ptr] | rw [Nat.zero_add] | rw [w_load_c] | rw [vO_some] | rw [w_lss] | rw [w_leq] | rw [w_gtr])
  rw [outP_enter]
  refine copied_wp (i := ⟨id, v, b, V, pay, seq, false⟩) ⟨hv, hV⟩ _ fun G v' b' x hb os => ?_
  have hG := h.mono0 x
  rw [w_load_c, hG.ld, vO_some, reC_val, beq_map, ckP_true]
  obtain ⟨clk, q1, q2⟩ := hG.hm
  obtain ⟨clk', c1, c2⟩ := w_setS int_und q1 id (itmA (Itm.sv ⟨id, v, b, V, pay, seq, false⟩ v' b'))
  rw [c1, outP_skip]
  have e1 := set_meL hG.nd (Itm.sv ⟨id, v, b, V, pay, seq, false⟩ v' b') clk
  have e1 : setM (meL L) id (itmA (Itm.sv ⟨id, v, b, V, pay, seq, false⟩ v' b')) clk = _ := e1
  rw [e1] at c2 ⊢
  have n0 := x.next
  have x2 : Ext [ms] G (G.put ms (some (.mp (ents (meL (putS L (Itm.sv ⟨id, v, b, V, pay, seq, false⟩ v' b') clk))) clk'))) := (Ext.refl _ _).put (.inr (by simp)) _
  have xx : Ext [ms] H (G.put ms (some (.mp (ents (meL (putS L (Itm.sv ⟨id, v, b, V, pay, seq, false⟩ v' b') clk))) clk'))) := (x.mono (by simp)).trans x2
  refine hK _ v' b' clk xx hb ⟨x2.get hG.slt (by simpa using hsm) hG.hs, ⟨clk', get_put_same _ _, c2 q2⟩, by rw [AH.next_put]; exact hG.slt, by rw [AH.next_put]; exact hG.mlt, nd_putS hG.nd _ _, fun p hp => ?_, fun p hp => ?_, ?_⟩
  · rcases mem_putS hp with q | q
    · exact h.ids p q
    · rw [q]; exact hid
  · rcases mem_putS hp with q | q
    · obtain ⟨⟨a1, a2⟩, a3⟩ := hG.vs p q
      exact ⟨⟨Sl.mono a1 x2 (by simp; rintro rfl; exact a3 hms), a2⟩, a3⟩
    · rw [q]
      have nb : b' ∉ fl := fun r => by have := hfl _ r; omega
      exact ⟨⟨Sl.mono (Own.sl os) x2 (by simp; rintro rfl; exact nb hms), hV⟩, nb⟩
  · rw [len_putS]
    have := h.len
    show (if id ∈ idsL L then L.length else L.length + 1) ≤ 1000
    split
    · exact this
    · rename_i c
      have := hl.resolve_left c
      omega
theorem storeGet_wp (h : Sto fl H s ms L) (id : Int) (K : AV → AH → Prop) (h0 : (∀ i, lookL id L = some i → i.gone = true) → ∀ H', Ext [] H H' → K (.tup [itmA Itm.zero, .bool false]) H')
    (h1 : ∀ i, lookL id L = some i → i.gone = false → ∀ H' v b, Ext [] H H' → H.next ≤ b → Os 21 .i32 H' b v i.V → K (.tup [itmA (i.sv v b), .bool true]) H') :
    CQ.call 46 [.ptr (some (s, 0)), .int .i64 id] H K := by
  refine m_store_Store_Get_ok _ _ _ _ ?_
  unfold m_store_Store_Get
  rw [zero_alloc, outP_val]
  have x1 : Ext [] H (H.new (.cells 29 (rowI Itm.zero))) := (Ext.refl _ _).new _
  have g1 := get_new_same H (.cells 29 (rowI Itm.zero))
  have nx : (H.new (.cells 29 (rowI Itm.zero))).next = H.next + 1 := rfl
  generalize H.new (.cells 29 (rowI Itm.zero)) = G at *
  have hG := h.mono0 x1
  have e0 : ∀ (a c : AV), w_extract 0 G (.tup [a, c]) = some (.val a G) := fun _ _ => rfl
  have e1 : ∀ (a c : AV), w_extract 1 G (.tup [a, c]) = some (.val c G) := fun _ _ => rfl
  rw [eq_sto, outP_val, condP_false, w_nil_ptr, outP_val, w_fieldAddr_ptr, outP_val, w_load_c, Nat.zero_add, hG.ld, vO_some, outP_val, hG.look2, outP_val, e0, outP_val, e1, outP_val, zero_alloc, outP_val]
  have x2 : Ext [] G (G.new (.cells 29 (rowI Itm.zero))) := (Ext.refl _ _).new _
  have g2 := get_new_same G (.cells 29 (rowI Itm.zero))
  have nx2 : (G.new (.cells 29 (rowI Itm.zero))).next = H.next + 2 := by rw [next_new, nx]
  have g1' : (G.new (.cells 29 (rowI Itm.zero))).get H.next = _ := (get_new_ne _ (by omega)).trans g1
  rw [nx] at g2 ⊢
  generalize G.new (.cells 29 (rowI Itm.zero)) = G2 at *
  have hG2 := hG.mono0 x2
  obtain ⟨i, hi⟩ : ∃ i, i = (lookL id L).getD Itm.zero := ⟨_, rfl⟩
  have fiH : ItmF H i := by
    cases r : lookL id L with
    | none => rw [hi, r]; exact itmF_zero _
    | some j => rw [hi, r]; exact (h.item r).1
  rw [← hi]
  obtain ⟨f1, f2, f3⟩ := slk_factsK (Sl.slk fiH.is)
  rw [w_store_c, g2, stG (n := 5) _ _ rfl rfl (by decide) (row_one f1), outP_skip, w_not, outP_val]
  have x3 : Ext [] H (G2.put (H.next + 1) (some (.cells 29 (rowI i)))) := (x1.trans x2).put (.inl (by omega)) _
  have g3 := get_put_same (H := G2) (H.next + 1) (some (.cells 29 (rowI i)))
  have g3' : (G2.put (H.next + 1) (some (.cells 29 (rowI i)))).get H.next = _ := (get_put_ne _ (by omega)).trans g1'
  have n3 : (G2.put (H.next + 1) (some (.cells 29 (rowI i)))).next = H.next + 2 := by rw [AH.next_put]; exact nx2
  have fi3 := fiH.mono0 x3
  generalize G2.put (H.next + 1) (some (.cells 29 (rowI i))) = G3 at *
  have no : (∀ j, lookL id L = some j → j.gone = true) → (outP CQ G3 (w_build PP 29 G3 []) fun v17 H17 => outP CQ H17 (w_store 5 H17 (.ptr (some (H.next, 0))) v17) fun v18 H18 => endP (resR (partF (some (some 5))) H18 (.ptr (some (H.next, 0))) (resT (.bool false) (some []))) K H18) := fun q => by
    rw [zero_build, outP_val, w_store_c, g3', stG (n := 5) _ _ rfl rfl (by decide) rfl, outP_skip, endG' (n := 5) (get_put_same _ _) rfl rfl]
    exact h0 q _ (x3.put (.inl (Nat.le_refl _)) _)
  cases r : lookL id L with
  | none =>
    repeat (first | rw [outP_val] | rw [guardP_false] | rw [condP_true] | rw [Option.isSome_none] | rw [boolIs_bool] | rw [beq_ff] | rw [Bool.not_true] | rw [Bool.not_false] | rw [w_pick_b] | rw [if_pos rfl])
    exact no fun j q => by rw [r] at q; cases q
  | some j =>
    rw [r] at hi
    obtain rfl : i = j := hi
    cases hg : i.gone with
    | true =>
      repeat (first | rw [outP_val] | rw [guardP_true] | rw [condP_true] | rw [Option.isSome_some] | rw [g3] | rw [row_f4] | rw [hg] | rw [boolIs_bool] | rw [beq_ff] | rw [Bool.not_true] | rw [Bool.not_false] | rw [w_pick_b] | rw [if_neg Bool.false_ne_true] | rw [w_fieldAddr_ptr] | rw [Nat.zero_add] | rw [w_load_c] | rw [vO_some])
      exact no fun j q => by rw [r] at q; cases q; exact hg
    | false =>
      have l5 := ldG (n := 5) 29 (cs := rowI i) rfl (by decide) (row_known f3)
      repeat (first | rw [outP_val] | rw [guardP_true] | rw [Option.isSome_some] | rw [g3] | rw [row_f4] | rw [hg] | rw [l5] | rw [condP_false] | rw [boolIs_bool] | rw [beq_ff] | rw [Bool.not_true] | rw [Bool.not_false] | rw [w_pick_b] | rw [if_neg Bool.false_ne_true] | rw [w_fieldAddr_ptr] | rw [Nat.zero_add] | rw [w_load_c] | rw [w_load_n] | rw [vO_some])
      rw [outP_enter]
      refine copied_wp fi3 _ fun G4 v b x4 hb os => ?_
      obtain ⟨q1, q2, _, q3⟩ := Own.facts os
      have g4 : G4.get H.next = _ := x4.get (by omega) (by simp) g3'
      rw [w_store_c, g4, stG (n := 5) _ _ rfl rfl (by decide) (row_one (i := i.sv v b) q1), outP_skip, endG' (n := 5) (get_put_same _ _) rfl (row_known (i := i.sv v b) q3)]
      refine h1 i r hg _ v b ((x3.trans x4).put (.inl (Nat.le_refl _)) _) (by omega) ?_
      exact Own.mono os ((Ext.refl [H.next] G4).put (b := H.next) (.inr (by simp)) _) (by simp; omega)
end
end Go.Ab
/- store: all of it, how many. -/
namespace Go.Ab
noncomputable section
open Go.Proofs
set_option maxRecDepth 10000
variable {H H' : AH} {fl : List Nat} {s ms : Nat} {L : Ls}

theorem bs_item {i : Itm} (h : SlK i.v) : w_buildSlice PP 29 1 H [(0, itmA i)] none = some (.val (.slice (some (H.next, 0)) 1 1 true) (H.new (.cells 29 (rowI i)))) := by
  have he : elT PP 29 = some (5, rowI Itm.zero) := by kernel_rfl
  obtain ⟨id, v, b, V, pay, seq, gone⟩ := i
  have q1 : Nat.ble (1 * 5) 16777216 = true := rfl
  have q2 : fillA (fun i => some (i * 5, 5)) [(0, itmA ⟨id, v, b, V, pay, seq, gone⟩)] (reps 1 (rowI Itm.zero)) = some (rowI ⟨id, v, b, V, pay, seq, gone⟩) := by
    rcases h with rfl | ⟨_, _, rfl⟩ | ⟨_, _, _, _, _, rfl⟩ <;> rfl
  have q3 : allB (fun x : Nat × AV => allB AV.one x.2.parts) [(0, itmA ⟨id, v, b, V, pay, seq, gone⟩)] = true := by
    rcases h with rfl | ⟨_, _, rfl⟩ | ⟨_, _, _, _, _, rfl⟩ <;> rfl
  simp only [w_buildSlice, oBuildSlice, he, q1, q2, q3, br_true, val_mk, ob_some, newSlice, newTo_none_eq]
theorem own_item {i : Itm} (h : SlK i.v) : Own (H.new (.cells 29 (rowI i))) 29 5 H.next (.slice (some (H.next, 0)) 1 1 true) [rowI i] := by
  obtain ⟨f1, f2, f3⟩ := slk_factsK h
  refine ⟨.inr ⟨0, 1, true, rowI i, rfl, get_new_same _ _, Nat.le_refl _, Nat.le_refl _, fun q => (by cases q), rfl, by rw [next_new]; omega⟩, ?_, ?_, ?_⟩
  · intro x hx; rw [List.mem_singleton.1 hx]; rfl
  · intro x hx; rw [List.mem_singleton.1 hx]; exact row_known f3
  · intro x hx; rw [List.mem_singleton.1 hx]; exact row_one f1
theorem row_flat (k : IntKind) : ∀ Z : List Int, Z.map (AV.int k) = (nums k Z).flatten
  | [] => rfl
  | z :: Z => by
    have ih := row_flat k Z
    show AV.int k z :: Z.map (AV.int k) = AV.int k z :: (nums k Z).flatten
    rw [ih]
theorem own_row {t : TypeId} {k : IntKind} {b : Nat} {Z : List Int} (g : H.get b = some (.cells t (Z.map (AV.int k)))) (hlt : b < H.next) : Os t k H b (.slice (some (b, 0)) Z.length Z.length false) Z := by
  refine ⟨.inr ⟨0, Z.length, false, Z.map (AV.int k), by rw [List.length_map], g, by rw [List.length_map]; exact Nat.le_refl _, by rw [List.length_map]; omega, fun _ => by rw [List.length_map]; omega, ?_, hlt⟩, fun x hx => ?_, fun x hx => ?_, fun x hx => ?_⟩
  · rw [List.drop_zero, List.length_map, Nat.mul_one, List.take_of_length_le (by simp)]
    exact row_flat k Z
  all_goals obtain ⟨y, _, rfl⟩ := List.mem_map.1 hx; rfl
/-- Copies of what is kept. -/
def CopyOf (L : Ls) (y : Itm) : Prop := ∃ i, lookL y.id L = some i ∧ ∃ v b, y = i.sv v b
theorem items_wp (h : Sto fl H s ms L) (K : AV → AH → Prop) (hK : ∀ H' l B (Y : List Itm), Ext [] H H' → Own H' 29 5 B l (Y.map rowI) → Y.map (fun y => y.id) = sortZ (idsL L) → (∀ y ∈ Y, ItmF H' y ∧ CopyOf L y) → K l H') :
    CQ.call 50 [.ptr (some (s, 0))] H K := by
  refine m_store_Store_Items_ok _ _ _ ?_
  unfold m_store_Store_Items m_store_Store_Itemst
  rw [eq_sto, outP_val, condP_false]
  unfold m_store_Store_Itemstt m_store_Store_Itemsttth
  rw [w_nil_ptr, outP_val, w_fieldAddr_ptr, outP_val, w_load_c, Nat.zero_add, h.ld, vO_some, outP_val, outP_enter]
  refine m_maps_Keys_api_Item_int_api_Item_ok _ _ _ ?_
  unfold m_maps_Keys_api_Item_int_api_Item
  rw [w_box_one (v := .map (some ms)) rfl, outP_val, outP_val]
  show outP CQ _ (some (Out.enter 119 [_])) _
  rw [outP_enter]
  have x1 : Ext [] H (H.new (.cells 164 (AV.map (some ms)).parts)) := (Ext.refl _ _).new _
  have g1 := get_new_same H (.cells 164 (AV.map (some ms)).parts)
  generalize H.new (.cells 164 (AV.map (some ms)).parts) = G at *
  have hG := h.mono0 x1
  obtain ⟨clk, q1, q2⟩ := hG.hm
  have hids : ∀ k ∈ idsL L, 1 ≤ k ∧ k ≤ 1000 := fun k hk => by
    obtain ⟨p, hp, rfl⟩ := List.mem_map.1 hk
    exact h.ids p hp
  -- the rounds
  have rounds : ∀ (G : AH) (ks : AV) (Bk : Nat), Ext [] H G → Is .i64 G Bk ks (sortZ (idsL L)) → outP CQ G (w_len PP 54 G ks) fun v6 H6 => m_store_Store_Itemsttthtb K (.ptr (some (s, 0))) (.slice none 0 0 true) ks v6 (.int .i64 0) H6 := by
    intro G ks Bk x1 hks
    have hG := h.mono0 x1
    have hN : (sortZ (idsL L)).length = L.length := by rw [(sortZ_perm _).length_eq, List.length_map]
    rw [hks.len ints_sl, outP_val]
    unfold m_store_Store_Itemsttthtb
    refine loopP_rule (I := fun t G' => ∃ (j : Nat) (r : AV) (B : Nat) (Y : List Itm), t = (.ptr (some (s, 0)), r, ks, .int .i64 (sortZ (idsL L)).length, .int .i64 j) ∧ j ≤ (sortZ (idsL L)).length ∧ Ext [] G G' ∧ (Y ≠ [] → G.next ≤ B) ∧ (Y = [] → r = .slice none 0 0 true) ∧ Own G' 29 5 B r (Y.map rowI) ∧ Y.map (fun y => y.id) = (sortZ (idsL L)).take j ∧ ∀ y ∈ Y, ItmF G' y ∧ CopyOf L y ∧ (y.b = B → y.V = []))
      (μ := fun t _ => match t.2.2.2.2 with | .int _ z => (sortZ (idsL L)).length - z.toNat | _ => 0) ?_ ⟨0, _, G.next, [], rfl, Nat.zero_le _, Ext.refl _ _, fun q => absurd rfl q, fun _ => rfl, Own.nil _ _ _ _, rfl, fun y hy => by cases hy⟩
    rintro t G' ⟨j, r, B, Y, rfl, hj, x, hB, hr, o, eY, hY⟩ rec hrec
    unfold m_store_Store_Itemsttthtbl
    rw [w_lss, outP_val]
    by_cases cj : j < (sortZ (idsL L)).length
    case neg =>
      rw [decide_eq_false (by omega), condP_false]
      rw [List.take_of_length_le (by omega)] at eY
      exact hK _ _ B Y (x1.trans x) o eY fun y hy => ⟨(hY y hy).1, (hY y hy).2.1⟩
    obtain ⟨q, a1, _, a3⟩ := Is.at (Sl.mono hks x (by simp)) cj
    have hk : (sortZ (idsL L))[j] ∈ idsL L := (sortZ_perm _).mem_iff.1 (List.getElem_mem cj)
    have hG' := hG.mono0 x
    obtain ⟨i, hi⟩ : ∃ i, lookL (sortZ (idsL L))[j] L = some i := by
      cases r : lookL (sortZ (idsL L))[j] L with
      | none => exact absurd hk (look_out.1 r)
      | some i => exact ⟨i, rfl⟩
    obtain ⟨fi, _, ei⟩ := hG'.item hi
    rw [decide_eq_true (by omega), condP_true, a1, outP_val, w_load_c, a3, vO_some, outP_val, w_nil_ptr, outP_val, w_fieldAddr_ptr, outP_val, w_load_c, Nat.zero_add, hG'.ld, vO_some, outP_val, hG'.look, outP_val, outP_enter, hi]
    refine copied_wp (i := i) fi _ fun G2 v' b' x2 hb os => ?_
    have hv := Sl.slk (Own.sl os)
    have n1 := x.next
    have n2 := x2.next
    rw [bs_item (i := i.sv v' b') hv, outP_val]
    have oi := own_item (H := G2) (i := i.sv v' b') hv
    have x3 : Ext [] G2 (G2.new (.cells 29 (rowI (i.sv v' b')))) := (Ext.refl _ _).new _
    have n3 : (G2.new (.cells 29 (rowI (i.sv v' b')))).next = G2.next + 1 := rfl
    generalize G2.new (.cells 29 (rowI (i.sv v' b'))) = G3 at *
    obtain ⟨B0, hB0, o3⟩ : ∃ B0, (Y ≠ [] ∧ B0 = B ∧ B < G'.next ∨ B0 = G3.next) ∧ Own G3 29 5 B0 r (Y.map rowI) := by
      by_cases c : Y = []
      · refine ⟨G3.next, .inr rfl, ?_⟩
        rw [hr c, c]; exact Own.nil _ _ _ _
      · refine ⟨B, .inl ⟨c, rfl, ?_⟩, Own.mono o (x2.trans x3) (by simp)⟩
        rcases Own.low o with q | q
        · exact q
        · exact absurd (List.map_eq_nil_iff.1 q) c
    have lY : Y.length = j := by have := congrArg List.length eY; simpa [Nat.min_eq_left hj] using this
    have hlen := h.len
    obtain ⟨r', G4, B', e1, e2, e3, e4⟩ := Own.append (by_ := 64) o3 oi.sl (by omega) (by simp only [List.length_map, List.length_cons, List.length_nil]; omega)
    refine st e1 ?_
    rw [w_add_in (by omega) (by omega), outP_val]
    have bB0 : G.next ≤ B0 := by
      rcases hB0 with ⟨c, rfl, _⟩ | rfl
      · exact hB c
      · omega
    have lowb : b' < G2.next ∨ i.V = [] := (Sl.low (Own.sl os)).imp id fun q => List.map_eq_nil_iff.1 q
    refine hrec _ _ ⟨j + 1, r', B', Y ++ [i.sv v' b'], by rfl, by omega, ?_, fun _ => by omega, fun q => by simp at q, by simpa using e4, ?_, fun y hy => ?_⟩ ?_
    · exact (((x.trans x2).trans x3).mono (m' := [B0]) (by simp)).trans e2 |>.mono fun b hb hlt => by simp at hb; omega
    · rw [List.map_append, eY, List.take_succ_eq_append_getElem cj]
      show _ ++ [i.id] = _
      rw [ei]
    · rcases List.mem_append.1 hy with c | c
      · obtain ⟨h1, h2, h3⟩ := hY y c
        have hne : Y ≠ [] := fun q => by rw [q] at c; cases c
        have lowy : y.b < G'.next ∨ y.V = [] := (Sl.low h1.is).imp id fun q => List.map_eq_nil_iff.1 q
        have k1 : y.b = B0 → y.V = [] := fun q => by
          rcases hB0 with ⟨_, rfl, _⟩ | rfl
          · exact h3 q
          · exact lowy.resolve_left (by omega)
        refine ⟨⟨Sl.mono' (Sl.mono h1.is (x2.trans x3) (by simp)) e2 fun q => by simp at q; rw [k1 q]; rfl, h1.len⟩, h2, fun q => ?_⟩
        rcases e3 with rfl | e3
        · exact k1 q
        · exact lowy.resolve_left (by omega)
      · rw [List.mem_singleton.1 c]
        have k1 : b' = B0 → i.V = [] := fun q => by
          rcases hB0 with ⟨_, rfl, _⟩ | rfl
          · omega
          · exact lowb.resolve_left (by omega)
        refine ⟨⟨Sl.mono' (Sl.mono (Own.sl os) x3 (by simp)) e2 fun q => by simp at q; show nums .i32 i.V = []; rw [k1 q]; rfl, fi.len⟩, ⟨i, by show lookL i.id L = _; rw [ei]; exact hi, v', b', rfl⟩, fun q => ?_⟩
        rcases e3 with rfl | e3
        · exact k1 q
        · exact lowb.resolve_left (by show ¬ b' < _; have q : b' = B' := q; omega)
    · show (sortZ (idsL L)).length - ((j : Int) + 1).toNat < (sortZ (idsL L)).length - (j : Int).toNat
      omega
  refine keysK_wp (clk := clk) (M := meL L) (by kernel_rfl) g1 rfl q1 q2 (by rw [keys_meL]; exact h.nd) (fun x hx => by rw [keys_meL] at hx; have := hids x hx; omega) (by have := h.len; simp [meL]; omega) _ (fun e => ?_) fun e => ?_
  · have e : L = [] := by simpa [meL] using e
    refine rounds G _ 0 x1 ?_
    rw [e]
    have z : sortZ ([] : List Int) = [] := (sortZ_perm []).eq_nil
    exact ⟨.inl ⟨.inl rfl, by show nums .i64 (sortZ []) = []; rw [z]; rfl⟩⟩
  · rw [keys_meL, show (meL L).length = (sortZ (idsL L)).length by rw [(sortZ_perm _).length_eq]; simp [meL]]
    refine rounds _ _ G.next (x1.trans ((Ext.refl _ _).new _)) ?_
    exact (own_row (get_new_same _ _) (by rw [next_new]; omega)).is
end
end Go.Ab
/- store: how many are there. -/
namespace Go.Ab
noncomputable section
open Go.Proofs
set_option maxRecDepth 10000
variable {H H' : AH} {fl : List Nat} {s ms : Nat} {L : Ls}

/-- How many are not gone. -/
def liveN (L : Ls) : Nat := ((idsL L).filter fun k => !((lookL k L).getD Itm.zero).gone).length
theorem live_of {L : Ls} {Y : List Itm} (h : Y.map (fun y => y.id) = sortZ (idsL L)) (hY : ∀ y ∈ Y, CopyOf L y) : (Y.filter fun y => !y.gone).length = liveN L := by
  have e1 : (Y.filter fun y => !y.gone) = Y.filter fun y => !((lookL y.id L).getD Itm.zero).gone := by
    refine List.filter_congr fun y hy => ?_
    obtain ⟨i, hi, v, b, rfl⟩ := hY y hy
    rw [hi]; rfl
  have e2 : ((sortZ (idsL L)).filter fun k => !((lookL k L).getD Itm.zero).gone).length = liveN L := ((sortZ_perm (idsL L)).filter _).length_eq
  rw [e1, ← e2, ← h, List.filter_map, List.length_map]
  rfl
theorem live_le (L : Ls) : liveN L ≤ L.length := by
  unfold liveN
  refine Nat.le_trans (List.length_filter_le _ _) ?_
  rw [List.length_map]; exact Nat.le_refl _
theorem items_sl : PP.underlying 108 = some (.slice 29) := by kernel_rfl
theorem len_wp (h : Sto fl H s ms L) (K : AV → AH → Prop) (hK : ∀ H', Ext [] H H' → K (.int .i64 (liveN L : Int)) H') : CQ.call 48 [.ptr (some (s, 0))] H K := by
  refine m_store_Store_Len_ok _ _ _ ?_
  unfold m_store_Store_Len m_store_Store_Lent m_store_Store_Lentth
  rw [outP_enter]
  refine items_wp h _ fun G l B Y x o eY hY => ?_
  have lY : Y.length = L.length := by
    have := congrArg List.length eY
    rw [List.length_map, (sortZ_perm _).length_eq, List.length_map] at this
    exact this
  have hlen := h.len
  have ln := (Own.sl o).len (P := PP) items_sl
  rw [List.length_map] at ln
  rw [ln, outP_val]
  unfold m_store_Store_Lentthtb
  refine loopP_rule (I := fun t G' => ∃ j : Nat, t = (.int .i64 (((Y.take j).filter fun y => !y.gone).length : Int), l, .int .i64 Y.length, .int .i64 j) ∧ j ≤ Y.length ∧ Ext [] G G') (μ := fun t _ => match t.2.2.2 with | .int _ z => Y.length - z.toNat | _ => 0) ?_ ⟨0, rfl, Nat.zero_le _, Ext.refl _ _⟩
  rintro t G' ⟨j, rfl, hj, x'⟩ rec hrec
  unfold m_store_Store_Lentthtbl
  rw [w_lss, outP_val]
  by_cases cj : j < Y.length
  case neg =>
    rw [decide_eq_false (by omega), condP_false, List.take_of_length_le (by omega), live_of eY fun y hy => (hY y hy).2]
    exact hK _ (x.trans x')
  have hj' : j < (Y.map rowI).length := by simpa using cj
  obtain ⟨q, a1, a2, a3⟩ := (Own.sl (Own.mono o x' (by simp))).at hj' .i64
  have e1 : (Y.map rowI)[j] = rowI Y[j] := by simp
  rw [e1] at a3
  have fy := (hY _ (List.getElem_mem cj)).1
  obtain ⟨f1, f2, f3⟩ := slk_factsK (Sl.slk fy.is)
  have l5 : ldN 5 (G'.get B) q = some (itmA Y[j]) := ldN_of (by simp) rfl a3 (row_known f3)
  have hc : ((Y.take j).filter fun y => !y.gone).length ≤ j := by
    refine Nat.le_trans (List.length_filter_le _ _) ?_
    rw [List.length_take]; omega
  have et : (Y.take (j + 1)).filter (fun y => !y.gone) = (Y.take j).filter (fun y => !y.gone) ++ ([Y[j]].filter fun y => !y.gone) := by
    rw [List.take_succ_eq_append_getElem cj, List.filter_append]
  rw [decide_eq_true (by omega), condP_true, a1, outP_val, w_load_n, l5, vO_some, outP_val, zero_alloc, outP_val, w_store_c, get_new_same, stG (n := 5) _ _ rfl rfl (by decide) (row_one f1), outP_skip, w_fieldAddr_ptr, outP_val, w_load_c, Nat.zero_add, get_put_same, row_f4, vO_some, outP_val, w_not, outP_val]
  have x3 : Ext [] G ((G'.new (.cells 29 (rowI Itm.zero))).put G'.next (some (.cells 29 (rowI Y[j])))) := (x'.new _).put (.inl x'.next) _
  have mu : Y.length - ((j : Int) + 1).toNat < Y.length - (j : Int).toNat := by omega
  cases hg : Y[j].gone with
  | true =>
    rw [Bool.not_true, condP_false, w_add_in (by omega) (by omega), outP_val]
    refine hrec _ _ ⟨j + 1, ?_, by omega, x3⟩ mu
    rw [et]
    simp [hg]
  | false =>
    rw [Bool.not_false, condP_true, w_add_in (by omega) (by omega), outP_val, w_add_in (by omega) (by omega), outP_val]
    refine hrec _ _ ⟨j + 1, ?_, by omega, x3⟩ mu
    rw [et]
    simp [hg]
end
end Go.Ab
/- index, flat: made, put, how many blocks. -/
namespace Go.Ab
noncomputable section
open Go.Proofs
set_option maxRecDepth 10000
variable {H H' : AH}

/-! Blocks. -/
theorem w_quoK (k : IntKind) (a b : Int) (h : b ≠ 0) : w_int .quo H (.int k a) (.int k b) = some (.val (.int k (k.wrap (a.tdiv b))) H) := by
  have hb : eqZ b 0 = false := by rw [eqZ_eq]; simpa using h
  rw [w_int_of rfl, hb, br_false, wrapZ_eq]; rfl
def blkN (per n : Int) : Int := n / per + (if 0 < n % per then 1 else 0)
def blocksZ (kind n : Int) : Int := if kind = 3 then 2 * (blkN 8 n + 1) else if kind = 2 then blkN 8 n + 1 else if kind = 1 then blkN 8 n else if kind = 4 then blkN 16 n + 1 else 0
theorem blocks_wp (kind n : Int) (hn : 0 ≤ n ∧ n ≤ 1000000) (K : AV → AH → Prop) (hK : K (.int .i64 (blocksZ kind n)) H) : CQ.call 123 [.int .i64 kind, .int .i64 n] H K := by
  refine m_index_Blocks_ok _ _ _ _ ?_
  unfold m_index_Blocks m_index_Blockst
  rw [w_max2_int, outP_val, show max n 0 = n by omega]
  unfold m_index_Blockstt m_index_Blocksttt
  have key : ∀ per more times : Int, (per = 8 ∨ per = 16) → 0 ≤ more ∧ more ≤ 1 → 1 ≤ times ∧ times ≤ 2 → blocksZ kind n = times * (blkN per n + more) → m_index_Blockstttt K (.int .i64 n) (.int .i64 per) (.int .i64 more) (.int .i64 times) H := by
    intro per more times hp hm ht e
    have p0 : per ≠ 0 := by omega
    have hq : 0 ≤ n / per ∧ n / per ≤ n := by
      rcases hp with rfl | rfl <;> omega
    unfold m_index_Blockstttt
    rw [w_quoK _ _ _ p0, outP_val, Int.tdiv_eq_ediv_of_nonneg hn.1, wrap64_in (by omega) (by omega)]
    unfold m_index_Blocksttttt
    rw [w_rem _ _ _ p0, outP_val, Int.tmod_eq_emod_of_nonneg hn.1, w_gtr, outP_val]
    unfold blkN at e
    by_cases c : 0 < n % per
    · rw [if_pos c] at e
      rw [decide_eq_true c, condP_true, w_add_in (by omega) (by omega), outP_val]
      unfold m_index_Blockstttttt
      rw [w_add_in (by omega) (by omega), outP_val]
      have : -9223372036854775808 ≤ times * (n / per + 1 + more) ∧ times * (n / per + 1 + more) ≤ 9223372036854775807 := by
        have : times = 1 ∨ times = 2 := by omega
        rcases this with rfl | rfl <;> omega
      rw [w_mul_in this.1 this.2, outP_val, ← e]
      exact hK
    · rw [if_neg c, Int.add_zero] at e
      rw [decide_eq_false c, condP_false]
      unfold m_index_Blockstttttt
      rw [w_add_in (by omega) (by omega), outP_val]
      have : -9223372036854775808 ≤ times * (n / per + more) ∧ times * (n / per + more) ≤ 9223372036854775807 := by
        have : times = 1 ∨ times = 2 := by omega
        rcases this with rfl | rfl <;> omega
      rw [w_mul_in this.1 this.2, outP_val, ← e]
      exact hK
  unfold blocksZ at key hK
  rw [w_eql, outP_val]
  by_cases c3 : kind = 3
  · rw [decide_eq_true c3, condP_true]
    exact key 8 1 2 (by omega) (by omega) (by omega) (by rw [if_pos c3])
  rw [decide_eq_false c3, condP_false, w_eql, outP_val]
  by_cases c2 : kind = 2
  · rw [decide_eq_true c2, condP_true]
    exact key 8 1 1 (by omega) (by omega) (by omega) (by rw [if_neg c3, if_pos c2]; omega)
  rw [decide_eq_false c2, condP_false, w_eql, outP_val]
  by_cases c1 : kind = 1
  · rw [decide_eq_true c1, condP_true]
    exact key 8 0 1 (by omega) (by omega) (by omega) (by rw [if_neg c3, if_neg c2, if_pos c1]; omega)
  rw [decide_eq_false c1, condP_false, w_eql, outP_val]
  by_cases c4 : kind = 4
  · rw [decide_eq_true c4, condP_true]
    exact key 16 1 1 (by omega) (by omega) (by omega) (by rw [if_neg c3, if_neg c2, if_neg c1, if_pos c4]; omega)
  rw [decide_eq_false c4, condP_false]
  rw [if_neg c3, if_neg c2, if_neg c1, if_neg c4] at hK
  exact hK

/-! A flat index. -/
structure Flt (H : AH) (x f mf : Nat) (metric dim : Int) : Prop where
  hx : H.get x = some (.cells 174 [.int .i64 1, .int .i64 metric, .int .i64 dim, .ptr (some (f, 0)), .ptr none, .ptr none, .ptr none])
  hf : H.get f = some (.cells 266 [.int .i64 metric, .map (some mf)])
  hm : ∃ M clk, H.get mf = some (.mp (ents M) clk)
  xl : x < H.next
  fl : f < H.next
  ml : mf < H.next
theorem Flt.mono {x f mf : Nat} {metric dim : Int} (h : Flt H x f mf metric dim) {m : List Nat} (e : Ext m H H') (h1 : x ∉ m) (h2 : f ∉ m) (h3 : mf ∉ m) : Flt H' x f mf metric dim := by
  obtain ⟨M, clk, q⟩ := h.hm
  have n := e.next
  exact ⟨e.get h.xl h1 h.hx, e.get h.fl h2 h.hf, ⟨M, clk, e.get h.ml h3 q⟩, by have := h.xl; omega, by have := h.fl; omega, by have := h.ml; omega⟩
theorem eq_idx (b o : Nat) : w_eq PP .eql 85 false true H (.ptr (some (b, o))) (.ptr none) = some (.val (.bool false) H) := by kernel_rfl
theorem neq_flat (b o : Nat) : w_eq PP .neq 169 false true H (.ptr (some (b, o))) (.ptr none) = some (.val (.bool true) H) := by kernel_rfl
theorem kind_wp {x f mf : Nat} {metric dim : Int} (h : Flt H x f mf metric dim) (K : AV → AH → Prop) (hK : K (.int .i64 1) H) : CQ.call 95 [.ptr (some (x, 0))] H K := by
  refine m_index_Index_Kind_ok _ _ _ ?_
  unfold m_index_Index_Kind
  have l0 : ldV (H.get x) 0 = some (.int .i64 1) := by rw [h.hx]; rfl
  repeat (first | rw [outP_val] | rw [eq_idx] | rw [l0] | rw [condP_false] | rw [w_fieldAddr_ptr] | rw [w_nil_ptr] | rw [Nat.zero_add] | rw [w_load_c] | rw [vO_some])
  exact hK
theorem flatPut_wp {x f mf : Nat} {metric dim : Int} (h : Flt H x f mf metric dim) {b : Nat} {v : AV} {V : List Int} (hv : Is .i32 H b v V) (hV : V.length ≤ 1000) (id : Int) (K : AV → AH → Prop) (hK : ∀ H', Ext [mf] H H' → Flt H' x f mf metric dim → K (.tup []) H') :
    CQ.call 88 [.ptr (some (f, 0)), .int .i64 id, v] H K := by
  refine m_flat_Flat_Put_ok _ _ _ _ _ ?_
  unfold m_flat_Flat_Put
  have l1 : ldV (H.get f) 1 = some (.map (some mf)) := by rw [h.hf]; rfl
  repeat (first | rw [outP_val] | rw [condP_true] | rw [neq_flat] | rw [l1] | rw [w_fieldAddr_ptr] | rw [w_nil_ptr] | rw [Nat.zero_add] | rw [w_load_c] | rw [vO_some])
  rw [outP_enter]
  refine via_wp (by kernel_rfl) ?_
  refine vcopy_wp hv (by omega) _ fun G v' b' x1 hb os => ?_
  have hG := h.mono x1 (by simp) (by simp) (by simp)
  obtain ⟨M, clk, q⟩ := hG.hm
  have l1' : ldV (G.get f) 1 = some (.map (some mf)) := by rw [hG.hf]; rfl
  obtain ⟨clk', c1⟩ := w_set (kt := 3) (et := 27) int_und q id v'
  rw [w_load_c, l1', vO_some, reC_val, beq_map, ckP_true, c1, outP_skip]
  have nx : x ≠ mf := fun e => by have := hG.hx; rw [e, q] at this; cases this
  have nf : f ≠ mf := fun e => by have := hG.hf; rw [e, q] at this; cases this
  have x2 : Ext [mf] G (G.put mf (some (.mp (ents (setM M id v' clk)) clk'))) := (Ext.refl _ _).put (.inr (by simp)) _
  refine hK _ ((x1.mono (by simp)).trans x2) ⟨x2.get hG.xl (by simpa using nx) hG.hx, x2.get hG.fl (by simpa using nf) hG.hf, ⟨_, _, get_put_same _ _⟩, ?_, ?_, ?_⟩
  · rw [AH.next_put]; exact hG.xl
  · rw [AH.next_put]; exact hG.fl
  · rw [AH.next_put]; exact hG.ml
theorem indexPut_wp {x f mf : Nat} {metric dim : Int} (h : Flt H x f mf metric dim) {b : Nat} {v : AV} {V : List Int} (hv : Is .i32 H b v V) (hV : V.length ≤ 1000) (id draw : Int) (hid : 1 ≤ id ∧ id ≤ 1000) (hm : mayB V dim = true) (K : AV → AH → Prop) (hK : ∀ H', Ext [mf] H H' → Flt H' x f mf metric dim → K .nilIface H') :
    CQ.call 34 [.ptr (some (x, 0)), .int .i64 id, v, .int .u32 draw] H K := by
  refine m_index_Index_Put_ok _ _ _ _ _ _ ?_
  unfold m_index_Index_Put
  have d1 : decide (id < 1) = false := decide_eq_false (by omega)
  have d2 : decide (1000 < id) = false := decide_eq_false (by omega)
  have l0 : ldV (H.get x) 0 = some (.int .i64 1) := by rw [h.hx]; rfl
  have l2 : ldV (H.get x) 2 = some (.int .i64 dim) := by rw [h.hx]; rfl
  have l3 : ldV (H.get x) 3 = some (.ptr (some (f, 0))) := by rw [h.hx]; rfl
  repeat (first | rw [outP_val] | rw [guardP_true] | rw [eq_idx] | rw [d1] | rw [d2] | rw [l2] | rw [condP_false] | rw [boolIs_bool] | rw [beq_ff] | rw [Bool.not_false] | rw [w_pick_b] | rw [if_neg Bool.false_ne_true] | rw [w_fieldAddr_ptr] | rw [w_nil_ptr] | rw [Nat.zero_add] | rw [w_load_c] | rw [vO_some] | rw [w_lss] | rw [w_gtr])
  rw [outP_enter]
  refine via_wp (by kernel_rfl) ?_
  refine vmay_wp hv dim _ ?_
  rw [hm]
  have d3 : decide ((1 : Int) = 1) = true := rfl
  repeat (first | rw [outP_val] | rw [condP_true] | rw [l0] | rw [d3] | rw [l3] | rw [condP_false] | rw [Bool.not_true] | rw [w_fieldAddr_ptr] | rw [w_nil_ptr] | rw [Nat.zero_add] | rw [w_load_c] | rw [vO_some] | rw [w_not] | rw [w_eql])
  rw [outP_enter]
  exact flatPut_wp h hv hV id _ hK
theorem known_wp (m : Int) (hm : m = 1 ∨ m = 2) (K : AV → AH → Prop) (hK : K (.bool true) H) : CQ.call 199 [.int .i64 m] H K := by
  refine m_metric_Known_ok _ _ _ ?_
  unfold m_metric_Known
  by_cases c : m = 1
  · have d := decide_eq_true c
    repeat (first | rw [outP_val] | rw [guardP_false] | rw [d] | rw [boolIs_bool] | rw [beq_ff] | rw [Bool.not_true] | rw [w_pick_b] | rw [if_pos rfl] | rw [w_eql])
    exact hK
  · have d := decide_eq_false c
    have d2 : decide (m = 2) = true := decide_eq_true (by omega)
    repeat (first | rw [outP_val] | rw [guardP_true] | rw [d] | rw [d2] | rw [boolIs_bool] | rw [beq_ff] | rw [Bool.not_false] | rw [w_pick_b] | rw [if_neg Bool.false_ne_true] | rw [w_eql])
    exact hK
theorem idx_build (m d : Int) : w_build PP 174 H [(0, .int .i64 1), (1, .int .i64 m), (2, .int .i64 d)] = some (.val (.agg [.int .i64 1, .int .i64 m, .int .i64 d, .ptr none, .ptr none, .ptr none, .ptr none]) H) := by kernel_rfl
theorem flat_build (m : Int) (p : Nat) : w_build PP 266 H [(0, .int .i64 m), (1, .map (some p))] = some (.val (.agg [.int .i64 m, .map (some p)]) H) := by kernel_rfl
theorem indexNew_wp (m d : Int) (hm : m = 1 ∨ m = 2) (hd : 1 ≤ d ∧ d ≤ 8) (K : AV → AH → Prop) (hK : ∀ H', Ext [] H H' → Flt H' H.next (H.next + 2) (H.next + 1) m d → H'.next = H.next + 3 → K (.tup [.ptr (some (H.next, 0)), .nilIface]) H') :
    CQ.call 82 [.int .i64 1, .int .i64 m, .int .i64 d, .slice none 0 0 true] H K := by
  refine m_index_New_ok _ _ _ _ _ _ ?_
  unfold m_index_New m_index_Newt
  rw [outP_enter]
  refine m_index_known_ok _ _ _ _ _ ?_
  unfold m_index_known
  have d1 : decide ((1 : Int) < 1) = false := rfl
  have d2 : decide ((4 : Int) < 1) = false := rfl
  have d3 : decide (d < 1) = false := decide_eq_false (by omega)
  have d4 : decide (8 < d) = false := decide_eq_false (by omega)
  have d5 : (!decide ((0 : Int) = 0)) = false := rfl
  have d6 : decide ((0 : Int) < 0) = false := rfl
  have d7 : decide ((1 : Int) = 1) = true := rfl
  repeat (first | rw [outP_val] | rw [guardP_true] | rw [d1] | rw [d2] | rw [boolIs_bool] | rw [beq_ff] | rw [Bool.not_false] | rw [w_pick_b] | rw [if_neg Bool.false_ne_true] | rw [w_lss] | rw [w_gtr])
  rw [outP_enter]
  refine known_wp m hm _ ?_
  repeat (first | rw [outP_val] | rw [guardP_true] | rw [d3] | rw [d4] | rw [condP_false] | rw [boolIs_bool] | rw [beq_ff] | rw [Bool.not_true] | rw [Bool.not_false] | rw [w_pick_b] | rw [if_neg Bool.false_ne_true] | rw [w_not] | rw [w_lss] | rw [w_gtr])
  show outP CQ _ (w_int .neq _ (.int .i64 0) (.int .i64 0)) _
  rw [w_neq, outP_val, d5, condP_false]
  unfold m_index_Newtt m_index_Newttth
  have ln : ∀ G : AH, w_len PP 22 G (.slice none 0 0 true) = some (.val (.int .i64 0) G) := fun G => by kernel_rfl
  rw [ln, outP_val]
  unfold m_index_Newttthtb
  refine loopP_rule (I := fun t G => t = (.int .i64 1, .int .i64 m, .int .i64 d, .slice none 0 0 true, .slice none 0 0 true, .int .i64 0, .int .i64 0) ∧ G = H) (μ := fun _ _ => 0) ?_ ⟨rfl, rfl⟩
  rintro t G ⟨rfl, rfl⟩ rec hrec
  unfold m_index_Newttthtbl
  rw [w_lss, outP_val, d6, condP_false]
  unfold m_index_Newtttt
  rw [idx_build, outP_val, w_box_one rfl, outP_val]
  unfold m_index_Newttttt
  rw [w_eql, outP_val, d7, condP_true, outP_enter]
  have g1 := get_new_same G (.cells 174 (AV.agg [.int .i64 1, .int .i64 m, .int .i64 d, .ptr none, .ptr none, .ptr none, .ptr none]).parts)
  have x1 : Ext [] G (G.new (.cells 174 (AV.agg [.int .i64 1, .int .i64 m, .int .i64 d, .ptr none, .ptr none, .ptr none, .ptr none]).parts)) := (Ext.refl _ _).new _
  have n1 : (G.new (.cells 174 (AV.agg [.int .i64 1, .int .i64 m, .int .i64 d, .ptr none, .ptr none, .ptr none, .ptr none]).parts)).next = G.next + 1 := rfl
  generalize G.new (.cells 174 (AV.agg [.int .i64 1, .int .i64 m, .int .i64 d, .ptr none, .ptr none, .ptr none, .ptr none]).parts) = G1 at *
  refine m_flat_New_ok _ _ _ ?_
  unfold m_flat_New
  rw [outP_enter]
  refine known_wp m hm _ ?_
  rw [w_not, outP_val, Bool.not_true, condP_false, w_make_map, outP_val, flat_build, outP_val, w_box_one rfl, outP_val]
  have x2 : Ext [] G ((G1.new (.mp (ents []) 0)).new (.cells 266 (AV.agg [.int .i64 m, .map (some G1.next)]).parts)) := (x1.new _).new _
  have g2 : ((G1.new (.mp (ents []) 0)).new (.cells 266 (AV.agg [.int .i64 m, .map (some G1.next)]).parts)).get G.next = some (.cells 174 [.int .i64 1, .int .i64 m, .int .i64 d, .ptr none, .ptr none, .ptr none, .ptr none]) := by
    rw [get_new_ne _ (by rw [next_new]; omega), get_new_ne _ (by omega)]; exact g1
  have g3 : ((G1.new (.mp (ents []) 0)).new (.cells 266 (AV.agg [.int .i64 m, .map (some G1.next)]).parts)).get (G.next + 1) = some (.mp (ents []) 0) := by
    rw [← n1, get_new_ne _ (by rw [next_new]; omega), get_new_same]
  have g4 := get_new_same (G1.new (.mp (ents []) 0)) (.cells 266 (AV.agg [.int .i64 m, .map (some G1.next)]).parts)
  have n2 : ((G1.new (.mp (ents []) 0)).new (.cells 266 (AV.agg [.int .i64 m, .map (some G1.next)]).parts)).next = G.next + 3 := by rw [next_new, next_new, n1]
  rw [show (G1.new (.mp (ents []) 0)).next = G.next + 2 by rw [next_new, n1]] at g4 ⊢
  rw [n1] at g4 n2 g2 g3 x2 ⊢
  generalize (G1.new (.mp (ents []) 0)).new (.cells 266 (AV.agg [.int .i64 m, .map (some (G.next + 1))]).parts) = G2 at *
  show outP CQ _ (w_nil _ (.ptr (some (G.next, 0)))) _
  rw [w_nil_ptr, outP_val, w_fieldAddr_ptr, outP_val, w_store_c, Nat.zero_add, g2, stN_one _ _ _ _ _ rfl (by show 3 < 7; decide), outP_skip]
  unfold m_index_Newtttttt
  refine hK _ (x2.put (.inl (Nat.le_refl _)) _) ⟨get_put_same _ _, ?_, ⟨[], 0, ?_⟩, ?_, ?_, ?_⟩ ?_
  · rw [get_put_ne _ (by omega)]; exact g4
  · rw [get_put_ne _ (by omega)]; exact g3
  all_goals rw [AH.next_put]; omega
end
end Go.Ab
