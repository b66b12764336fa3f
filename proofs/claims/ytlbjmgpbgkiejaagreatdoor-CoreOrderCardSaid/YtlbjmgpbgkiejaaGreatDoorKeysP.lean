/- slices.Sorted at []int at what maps.Keys hands out: as one step; the keys come in an order that nobody knows, but sorted they are one list. -/
import Derived.Test.YtlbjmgpbgkiejaaGreatDoorEv3
import Derived.Shelf.SlIterI.Collect
import Derived.Test.YtlbjmgpbgkiejaaGreatDoorAsRaw
import Derived.Test.YtlbjmgpbgkiejaaGreatDoorKeysL
import Derived.Test.YtlbjmgpbgkiejaaGreatDoorSortW
section
namespace Go.Ab
open Go Go.Proofs Go.RowKit Go.Maps Go.Sort Go.Shelf
variable {P : Program} {r : Ren}

set_option maxRecDepth 100000 in
set_option maxHeartbeats 1000000 in
/-- A call of the iterator that maps.Keys hands out. -/
theorem keys_run (L : SlLaysZI.n10 P r) {m : Nat} (hm : 1 ≤ m) {l b nn : Nat} {a : Addr} {D : DataW Unit} {R : Value → Option (DataW Unit × List MemPlace)} {J : List Int → World → Prop} {W : World} (hJ : AbidesFrom W.heap.size J)
    (ha : W.cell? a = some (.map (some b))) (hD : W.ownsMap P (r.t 26) R b nn D) (h0 : J [] W)
    (hY : ∀ pre x V, J pre V → pre.length < Maps.size D → YieldAt Fence.wide (m - 1) P l #[encZ x] V fun e V' => e = .returned (.bool true) ∧ J (pre ++ [x]) V' ∧ KeepsWalks V V') :
    CallsIn Fence.wide m P (r.f 10) #[.func (.yield l) #[] #[], .pointer (some a)] W fun e V => (∃ v, e = .returned v) ∧ ∃ ss : List Int, ss.Perm (intKeys D) ∧ J ss V := by
  have mixed := L.mixed
  have t0 := L.t0; have a0 := L.a0; have z0 := L.z0; have v0 := L.v0
  have t4 := L.t4; have a4 := L.a4; have z4 := L.z4; have v4 := L.v4
  have t23 := L.t23; have a23 := L.a23; have z23 := L.z23; have v23 := L.v23
  have t26 := L.t26; have a26 := L.a26; have z26 := L.z26; have v26 := L.v26
  have t33 := L.t33; have a33 := L.a33; have z33 := L.z33; have v33 := L.v33
  have u0 := run_underlying t0; have u4 := run_underlying t4; have u23 := run_underlying t23; have u26 := run_underlying t26; have u33 := run_underlying t33
  have K := int_keyed t26
  obtain ⟨_, _, body⟩ := L.f10
  refine callsIn_of_wp body rfl trivial ?_ rfl
  simp only [SlBodyZ.n10_ntmps r, List.size_toArray, List.length_cons, List.length_nil, Nat.reduceAdd, Nat.reduceSub, Array.replicate_succ, Array.replicate_zero, List.push_toArray, List.append_toArray, List.nil_append, List.cons_append]
  gi_wp2_with (first
    | (gi_at_range; refine wpListIn_range_own _ rfl _ (r.t 23) rfl (r.t 26) (r.t 3) K t23 _ b nn _ rfl hD ?_; intro V0 q0 g0 s0)
    | gi_in)
  go_frame
  gi_loopw [3] (fun _ V => ∃ (left : Lit → Bool) (cnt : Nat) (ss : List Int), V.ranges P (r.t 26) R b W.heap.size nn D left cnt ∧ ss.length + cnt ≤ Maps.size D ∧ CollectedI D left ss ∧ J ss V)
    (fun _ V => V.rangeLeft b W.heap.size)
  case atStart => exact ⟨_, _, [], q0, by simp, CollectedI.start D, hJ [] W V0 none h0 g0 (fun r e => by cases e)⟩
  case round =>
    obtain ⟨left, cnt, ss, q1, len, got, j1⟩ := hrel
    gi_wp2_with (first
      | (gi_at_next; refine wpListIn_next_ranges _ rfl _ rfl (r.t 26) K R encZ id (fun key kl hk => by obtain ⟨x, hx, _⟩ := Maps.keyOf_i64 t26 hk; exact ⟨x, hx⟩) (fun v _ _ => ⟨v, rfl⟩) b W.heap.size nn _ _ _ rfl q1 ?_ ?_)
      | gi_in)
    · intro _ none_left
      gi_wp2
      go_end0
      exact ⟨⟨_, rfl⟩, ss, got.perm hD K t26 none_left, j1⟩
    · intro x c kl yd yp V2 cnt2 hkey hlk hv hat q2 less g2 s2 hen
      obtain ⟨x', ex, rfl, _⟩ := Maps.keyOf_i64 t26 hkey
      obtain rfl : x = x' := encZ_inj ex
      have j2 : J ss V2 := hJ ss _ V2 (some W.heap.size) j1 g2 (fun r e => by cases e; exact ⟨Nat.le_refl _, q1.iter_walk⟩)
      obtain ⟨fn, tmps, assign, body, hy, hR⟩ := hY ss x V2 j2 (by omega)
      clear s2
      gi_wp2
      refine hR.mono ?_
      rintro e V3 ⟨rfl, j3, k3⟩
      gi_wp2
      have q3 := q2.of_walks k3
      go_roundw
      case rel => exact ⟨_, cnt2, ss ++ [x], q3, by simp; omega, got.step hlk hat, j3⟩
      case measure => rw [q3.left_eq, q1.left_eq]; exact less
end Go.Ab
end
namespace Go.Ab
noncomputable section
open Go Go.Proofs Go.RowKit Go.Maps Go.Sort Go.Shelf
set_option maxRecDepth 10000
variable {H H' : AH}

/-- What slices.Sorted makes of it: in the model. -/
def Made (S : List Int → Prop) (ρ : Env) (H : AH) (w : World) (f : List Int → List Int) (e : Ending) (w' : World) : Prop :=
  ∃ v L ρ' G B s, e = .returned v ∧ S L ∧ Rel ρ' s v ∧ Good none PP ρ H w ρ' G w' ∧ Os 3 .i64 G B s (f L) ∧ (L = [] → s = .slice none 0 0 true)
set_option maxHeartbeats 1000000 in
theorem coll_raw {g : FuncId} {p o N m : Nat} {q : Loc} {S : List Int → Prop} {ρ : Env} {w : World} (hm : 1 ≤ m) (hr : Real PP ρ H w) (hH : ∀ b, H.get b = none) (hb : hasBody PP g = true) (hp : ρ p = some q) (hN : N ≤ 100000)
    (hs : SeqGives Fence.wide (m - 1 - 1) PP g #[.pointer (some ⟨q.blk, q.off + o, none⟩)] encZ S N w) :
    CallsIn Fence.wide m PP 202 #[.func (.func g) #[] #[.pointer (some ⟨q.blk, q.off + o, none⟩)]] w (Made S ρ H w fun L => L) := by
  have L := Tryz.sortedL
  have h11 : Fence.wide.fn (Tryz.sortedL_ren.f 11) := trivial
  have e11 : ∀ args w, (callFunc (Tryz.sortedL_ren.f 11) args).run PP w = .ok (.enter (Tryz.sortedL_ren.f 11) args) w := L.f11.enters rfl
  have mixed := L.mixed
  have t0 := L.t0; have a0 := L.a0; have z0 := L.z0; have v0 := L.v0
  have t24 := L.t24; have a24 := L.a24; have z24 := L.z24; have v24 := L.v24
  have t26 := L.t26; have a26 := L.a26; have z26 := L.z26; have v26 := L.v26
  have t28 := L.t28; have a28 := L.a28; have z28 := L.z28; have v28 := L.v28
  have u0 := run_underlying t0; have u24 := run_underlying t24; have u26 := run_underlying t26; have u28 := run_underlying t28
  obtain ⟨_, _, body⟩ := L.f8
  refine callsIn_of_wp body rfl trivial ?_ rfl
  simp only [SlBodyZ.n8_ntmps Tryz.sortedL_ren, List.size_toArray, List.length_cons, List.length_nil, Nat.reduceAdd, Nat.reduceSub, Array.replicate_succ, Array.replicate_zero, List.push_toArray, List.append_toArray, List.nil_append, List.cons_append]
  gi_wp2_with (gi_at_fn (Tryz.sortedL_ren.f 11); refine (as_raw (m := m - 1) hr hH hb hp hN hs).mono ?_; rintro e W ⟨v, L, ρ', G, B, s, rfl, c1, c2, c3, c4, c5⟩)
  go_ret
  exact ⟨v, L, ρ', G, B, s, rfl, c1, c2, c3, c4, c5⟩

/-- slices.Sort of a slice of its own, in the model. -/
theorem sort_raw {ρ : Env} {G : AH} {w : World} {B m : Nat} {s : AV} {v : Value} {L : List Int} (hr : Real PP ρ G w) (hv : Rel ρ s v) (o : Os 3 .i64 G B s L) (hL : L.length ≤ 1000000) :
    CallsIn Fence.wide m PP 203 #[v] w fun e w' => e = .returned (.tuple #[]) ∧ ∃ ρ' G', Good none PP ρ G w ρ' G' w' ∧ Rel ρ' s v ∧ Os 3 .i64 G' B s (sortZ L) := by
  obtain ⟨n, x, G', h1, rfl, h2⟩ : ∃ n x G', (∀ m, n ≤ m → (evBoth PP prims7 m).1 203 [s] G = some (x, G')) ∧ x = .tup [] ∧ Os 3 .i64 G' B s (sortZ L) :=
    sort_wp o hL (fun x G' => x = .tup [] ∧ Os 3 .i64 G' B s (sortZ L)) fun G' _ _ h => ⟨rfl, h⟩
  refine (((ev_ok prims7_ok seat_mixed (progOk_regs seat_ok) n).call (h1 n (Nat.le_refl _)) hr (args' := #[v]) (.cons hv rfl)).1 (by kernel_rfl) m).mono fun e w' hret => ?_
  unfold Ret at hret
  cases e with
  | returned v' =>
    obtain ⟨ρ', ⟨cs, rfl, e⟩, g⟩ := hret
    cases e
    exact ⟨rfl, ρ', G', g, hv.mono g.ev.le, h2⟩
  | _ => exact hret.elim
set_option maxHeartbeats 1000000 in
theorem sorted_raw {g : FuncId} {p o N m : Nat} {q : Loc} {S : List Int → Prop} {ρ : Env} {w : World} (hm : 1 ≤ m) (hm1 : 1 ≤ m - 1) (hr : Real PP ρ H w) (hH : ∀ b, H.get b = none) (hb : hasBody PP g = true) (hp : ρ p = some q) (hN : N ≤ 100000) (hS : ∀ L, S L → L.length ≤ 1000000)
    (hs : SeqGives Fence.wide (m - 1 - 1 - 1) PP g #[.pointer (some ⟨q.blk, q.off + o, none⟩)] encZ S N w) :
    CallsIn Fence.wide m PP 119 #[.func (.func g) #[] #[.pointer (some ⟨q.blk, q.off + o, none⟩)]] w (Made S ρ H w sortZ) := by
  have L := Tryz.sortedL
  have h8 : Fence.wide.fn (Tryz.sortedL_ren.f 8) := trivial
  have h9 : Fence.wide.fn (Tryz.sortedL_ren.f 9) := trivial
  have e8 : ∀ args w, (callFunc (Tryz.sortedL_ren.f 8) args).run PP w = .ok (.enter (Tryz.sortedL_ren.f 8) args) w := L.f8.enters rfl
  have e9 : ∀ args w, (callFunc (Tryz.sortedL_ren.f 9) args).run PP w = .ok (.enter (Tryz.sortedL_ren.f 9) args) w := fun args w => call_run (by kernel_rfl) args
  have mixed := L.mixed
  have t0 := L.t0; have a0 := L.a0; have z0 := L.z0; have v0 := L.v0
  have t24 := L.t24; have a24 := L.a24; have z24 := L.z24; have v24 := L.v24
  have t26 := L.t26; have a26 := L.a26; have z26 := L.z26; have v26 := L.v26
  have t28 := L.t28; have a28 := L.a28; have z28 := L.z28; have v28 := L.v28
  have u0 := run_underlying t0; have u24 := run_underlying t24; have u26 := run_underlying t26; have u28 := run_underlying t28
  obtain ⟨_, _, body⟩ := L.f6
  refine callsIn_of_wp body rfl trivial ?_ rfl
  simp only [SlBodyZ.n6_ntmps Tryz.sortedL_ren, List.size_toArray, List.length_cons, List.length_nil, Nat.reduceAdd, Nat.reduceSub, Array.replicate_succ, Array.replicate_zero, List.push_toArray, List.append_toArray, List.nil_append, List.cons_append]
  gi_wp2_with (gi_at_fn (Tryz.sortedL_ren.f 8); refine (coll_raw (m := m - 1) hm1 hr hH hb hp hN hs).mono ?_; rintro e W ⟨v, L, ρ1, G1, B, s, rfl, c1, c2, c3, c4, c5⟩)
  gi_wp2_with (gi_at_fn (Tryz.sortedL_ren.f 9); refine (sort_raw (m := m - 1) c3.real c2 c4 (hS _ c1)).mono ?_; rintro e W' ⟨rfl, ρ2, G2, d1, d2, d3⟩)
  go_ret
  exact ⟨v, L, ρ2, G2, B, s, rfl, c1, d2, c3.trans d1, d3, c5⟩

/-! The step. -/
def inI (k : Int) : Bool := leZ (-9223372036854775808) k && leZ k 9223372036854775807
def keyI : AV × AV × Nat → Option Int := fun e => match e.1 with
  | .int .i64 k => br (inI k) (some k) none
  | _ => none
/-- Sorted, for the kernel. -/
def putI (x : Int) (l : List Int) : List Int := @List.rec Int (fun _ => List Int) [x] (fun y ys ih => br (leZ x y) (x :: y :: ys) (y :: ih)) l
def sortI (l : List Int) : List Int := @List.rec Int (fun _ => List Int) [] (fun x _ ih => putI x ih) l
def memI (x : Int) (l : List Int) : Bool := @List.rec Int (fun _ => Bool) false (fun y _ ih => br (eqZ x y) true ih) l
def unlikeI (l : List Int) : Bool := @List.rec Int (fun _ => Bool) true (fun x l ih => br (memI x l) false ih) l
def unlikeN (l : List Nat) : Bool := @List.rec Nat (fun _ => Bool) true (fun x l ih => br (memN x l) false ih) l
/-- What the kit asks of a map: when its entries came; its keys are unlike. -/
def okE (es : List (AV × AV × Nat)) (clk : Nat) (zs : List Int) : Bool := Nat.ble es.length 100000 && allB (fun e => Nat.blt e.2.2 clk) es && unlikeN (es.map fun e => e.2.2) && unlikeI zs
/-- slices.Sorted at what maps.Keys hands out, at one of these maps. -/
def keysA (gks : List FuncId) (args : List AV) (H : AH) : Option (AV × AH) :=
  match args with
  | [.fn (.func g) [] [.ptr (some (p, o))]] =>
    rowTo none H p (fun cs => ob (nthO cs o) fun x => match x with
      | .map (some m) => mpTo none H m fun es clk => br (memN g gks) (ob (allM keyI es) fun zs => br (okE es clk zs)
          (onCons (some (.slice none 0 0 true, H)) (fun _ _ => some (.slice (some (H.next, 0)) zs.length zs.length false, H.new (.cells 3 ((sortI zs).map (AV.int .i64))))) zs) none) none
      | _ => none) fun _ => none
  | _ => none

theorem putI_cons (x y : Int) (ys : List Int) : putI x (y :: ys) = if x ≤ y then x :: y :: ys else y :: putI x ys := by
  show br (leZ x y) _ (y :: putI x ys) = _
  rw [leZ_eq, br_eq]; simp
theorem putI_perm (x : Int) : ∀ l : List Int, (putI x l).Perm (x :: l)
  | [] => .refl _
  | y :: ys => by
    rw [putI_cons]
    split
    · exact .refl _
    · exact ((putI_perm x ys).cons y).trans (.swap x y ys)
theorem putI_sorted (x : Int) : ∀ {l : List Int}, l.Pairwise (· ≤ ·) → (putI x l).Pairwise (· ≤ ·)
  | [], _ => by simp [putI]
  | y :: ys, h => by
    rw [putI_cons]
    obtain ⟨h1, h2⟩ := List.pairwise_cons.1 h
    split
    · rename_i c
      exact List.pairwise_cons.2 ⟨fun z hz => by
        rcases List.mem_cons.1 hz with rfl | hz
        · exact c
        · exact Int.le_trans c (h1 z hz), h⟩
    · rename_i c
      refine List.pairwise_cons.2 ⟨fun z hz => ?_, putI_sorted x h2⟩
      rcases List.mem_cons.1 ((putI_perm x ys).mem_iff.1 hz) with rfl | hz
      · omega
      · exact h1 z hz
theorem sortI_perm : ∀ l : List Int, (sortI l).Perm l
  | [] => .refl _
  | x :: l => (putI_perm x (sortI l)).trans ((sortI_perm l).cons x)
theorem sortI_sorted : ∀ l : List Int, (sortI l).Pairwise (· ≤ ·)
  | [] => .nil
  | x :: l => putI_sorted x (sortI_sorted l)
theorem sortI_eq (l : List Int) : sortI l = sortZ l :=
  List.Perm.eq_of_pairwise (le := fun a b : Int => a ≤ b) (fun _ _ _ _ h1 h2 => Int.le_antisymm h1 h2) (sortI_sorted l) (sortZ_sorted l) ((sortI_perm l).trans (sortZ_perm l).symm)
theorem sortZ_of_perm {l l' : List Int} (h : l.Perm l') : sortZ l = sortZ l' :=
  List.Perm.eq_of_pairwise (le := fun a b : Int => a ≤ b) (fun _ _ _ _ h1 h2 => Int.le_antisymm h1 h2) (sortZ_sorted l) (sortZ_sorted l') (((sortZ_perm l).trans h).trans (sortZ_perm l').symm)
theorem memI_iff (x : Int) : ∀ l : List Int, memI x l = true ↔ x ∈ l
  | [] => by simp [memI]
  | y :: ys => by
    show br (eqZ x y) true (memI x ys) = true ↔ _
    rw [eqZ_eq, br_eq, List.mem_cons, ← memI_iff x ys]
    by_cases c : x = y <;> simp [c]
theorem unlikeI_nodup : ∀ {l : List Int}, unlikeI l = true → l.Nodup
  | [], _ => .nil
  | x :: l, h => by
    have h : br (memI x l) false (unlikeI l) = true := h
    rw [br_eq] at h
    split at h
    · cases h
    · rename_i c
      exact List.nodup_cons.2 ⟨fun q => c ((memI_iff x l).2 q), unlikeI_nodup h⟩
theorem unlikeN_nodup : ∀ {l : List Nat}, unlikeN l = true → l.Nodup
  | [], _ => .nil
  | x :: l, h => by
    have h : br (memN x l) false (unlikeN l) = true := h
    rw [br_eq] at h
    split at h
    · cases h
    · rename_i c
      exact List.nodup_cons.2 ⟨fun q => c ((memN_iff x l).2 q), unlikeN_nodup h⟩

/-- The entries, as they lie in the model. -/
theorem ents_keys {ρ : Env} {k : TypeId} {R : Value → Option (DataW Unit × List MemPlace)} (hk : PP.underlying k = some (.int .i64)) (hR : ∀ v, R v = some (.lit (.bool true), [])) : ∀ {es : List (AV × AV × Nat)} {zs : List Int} {es' : List MapEntry}, RelEs ρ es es' → es.map keyI = zs.map some →
    es'.map (fun x => x.key) = zs.map encZ ∧ es'.map (fun x => x.born) = es.map (fun e => e.2.2) ∧ (∀ x ∈ es', ∃ y, Go.WideElems.rd PP k R x = some y) ∧ (es'.map (Go.WideElems.rg PP k R)).map (fun p => intOf p.1) = zs
  | [], zs, es', hr, hz => by
    cases hr
    cases zs with
    | nil => exact ⟨rfl, rfl, by simp, rfl⟩
    | cons _ _ => cases hz
  | e :: es, zs, es', hr, hz => by
    obtain ⟨y, ys, rfl, ⟨r1, r2, r3⟩, hr⟩ := hr
    cases zs with
    | nil => cases hz
    | cons z zs =>
      simp only [List.map_cons, List.cons.injEq] at hz
      obtain ⟨hz1, hz⟩ := hz
      obtain ⟨i1, i2, i3, i4⟩ := ents_keys hk hR hr hz
      have e1 : e.1 = .int .i64 z ∧ inI z = true := by
        unfold keyI at hz1
        split at hz1
        · rename_i k' hk'
          rw [br_some_none] at hz1
          obtain ⟨c1, c2⟩ := hz1
          cases c2
          exact ⟨hk', c1⟩
        · cases hz1
      rw [e1.1] at r1
      have r1 : y.key = encZ z := r1
      have wf : (Lit.int .i64 z).wf = true := by
        have := e1.2
        unfold inI at this
        rw [Bool.and_eq_true, leZ_eq, leZ_eq, decide_eq_true_eq, decide_eq_true_eq] at this
        simp [Lit.wf, IntKind.min, IntKind.max, IntKind.signed, IntKind.bits]
        omega
      have rr : Go.WideElems.rd PP k R y = some (.int .i64 z, .lit (.bool true)) := by
        unfold Go.WideElems.rd
        rw [r1, keyOf_int_mk hk wf, hR]; rfl
      refine ⟨by simp [r1, i1], by simp [r3, i2], fun x hx => ?_, ?_⟩
      · rcases List.mem_cons.1 hx with rfl | hx
        · exact ⟨_, rr⟩
        · exact i3 x hx
      · simp only [List.map_cons, i4, List.cons.injEq, and_true]
        show intOf (Go.WideElems.rg PP k R y).1 = z
        rw [Go.WideElems.rg_of rr]; rfl
/-- A map of the abstract heap, as the kit says it. -/
theorem owns_of {ρ : Env} {w : World} {k : TypeId} {b clk : Nat} {es : List (AV × AV × Nat)} {zs : List Int} {es' : List MapEntry} (hk : PP.underlying k = some (.int .i64)) (hb : w.heap[b]? = some (.map es'.toArray clk)) (hr : RelEs ρ es es') (hz : es.map keyI = zs.map some) (hok : okE es clk zs = true) :
    ∃ D : DataW Unit, w.ownsMap PP k (fun _ => some (.lit (.bool true), [])) b 100000 D ∧ (intKeys D).Perm zs ∧ Maps.size D = zs.length := by
  unfold okE at hok
  simp only [Bool.and_eq_true, Nat.ble_eq, allB_eq, List.all_eq_true] at hok
  obtain ⟨⟨⟨k1, k2⟩, k3⟩, k4⟩ := hok
  obtain ⟨i1, i2, i3, i4⟩ := ents_keys (R := fun _ => some (.lit (.bool true), [])) hk (fun _ => rfl) hr hz
  have len : es'.length = es.length := by
    have := congrArg List.length i2; simpa using this
  have lz : es.length = zs.length := by
    have := congrArg List.length hz; simpa using this
  refine ⟨_, ⟨es'.toArray, clk, hb, ⟨?_, ⟨fun x hx => ?_, ?_, ?_⟩, fun x hx => i3 x (by simpa using hx)⟩, ?_, rfl⟩, ?_, ?_⟩
  · rw [List.size_toArray, len]; exact Nat.le_trans k1 (by decide)
  · have hx : x ∈ es' := by simpa using hx
    have : x.born ∈ es'.map (fun x => x.born) := List.mem_map_of_mem hx
    rw [i2] at this
    obtain ⟨e, he, e1⟩ := List.mem_map.1 this
    have := k2 e he
    rw [← e1]; exact Nat.le_of_ble_eq_true this
  · show (es'.map fun x => x.born).Nodup
    rw [i2]; exact unlikeN_nodup k3
  · show (es'.map fun x => x.key).Nodup
    rw [i1]
    exact List.Pairwise.map _ (fun a b h e => h (encZ_inj e)) (unlikeI_nodup k4)
  · rw [List.size_toArray, len]; exact k1
  · show (((es'.map (Go.WideElems.rg PP k _)).foldr DataW.insert []).map fun p => intOf p.1).Perm zs
    have := (Go.WideShapes.sorted_perm (es'.map (Go.WideElems.rg PP k fun _ => some (DataW.lit (H := Unit) (.bool true), [])))).map fun p => intOf p.1
    rw [i4] at this; exact this
  · show ((es'.map (Go.WideElems.rg PP k _)).foldr DataW.insert []).length = _
    rw [(Go.WideShapes.sorted_perm _).length_eq, List.length_map, len, lz]
/-- What was made of nothing known, as a new block of what is known. -/
theorem made_new {ρ ρ' : Env} {w w' : World} {G : AH} {B : Nat} {s : AV} {v : Value} {L : List Int} (hr : Real PP ρ H w) (g : Good none PP ρ H.bare w ρ' G w') (hv : Rel ρ' s v) (o : Os 3 .i64 G B s L) (hL : L ≠ []) :
    Ret PP ρ H w (.slice (some (H.next, 0)) L.length L.length false) (H.new (.cells 3 (L.map (AV.int .i64)))) (.returned v) w' := by
  obtain ⟨_, q2⟩ | ⟨p, c, ex, cs, q1, q2, q3, q4, q5, q6, q7⟩ := o.ex
  · exact absurd (List.map_eq_nil_iff.1 q2) hL
  · subst q1
    rw [List.length_map] at q3 q6
    rw [flat_nums, Nat.mul_one] at q6
    rw [Nat.mul_one] at q4 q5
    obtain ⟨l, hl, rfl⟩ := rel_slice hv
    obtain ⟨l', cc, fr, a1, a2, a3, a4, a5, a6, a7⟩ := g.real.lies B _ q2
    rw [hl] at a1; cases a1
    have c1 : PP.cellsOf 3 = 1 := by kernel_rfl
    rw [c1, Nat.mul_one] at a4 a7
    obtain ⟨sp, hsp⟩ : ∃ sp, (if ex then c else c + l.spare) = L.length + sp := ⟨(if ex then c else c + l.spare) - L.length, by split <;> omega⟩
    have hle : L.length + sp ≤ c + l.spare := by rw [← hsp]; split <;> omega
    have hge : w.heap.size ≤ l.blk := by
      refine Nat.le_of_not_lt fun q => ?_
      obtain ⟨b, _, h1, _⟩ := g.ev.own B l (by rw [q2]; simp) hl q
      exact h1 (bare_get H b)
    rw [← show newH H none (.cells 3 (L.map (AV.int .i64))) = H.new (.cells 3 (L.map (AV.int .i64))) from newTo_none_eq H _ _]
    refine ⟨ρ.with (idOf H none) ⟨l.blk, l.off + p, sp⟩, ⟨_, with_same _ _, by rw [List.length_map, hsp]; rfl⟩, hr.new (at_ := none) (l := ⟨l.blk, l.off + p, sp⟩) trivial g.ev.size (show l.blk < w'.heap.size from g.real.inb (by rw [q2]; simp) hl) (fun k hk => g.ev.keep k hk fun b _ h1 _ => absurd (bare_get H b) h1) hge ?_ g.ev.os g.ev.tape g.ev.output⟩
    refine ⟨_, cc, fr, with_same _ _, a2, a3, ?_, fun x hx => ?_, fun i x hx => ?_, fun i u b1 b2 b3 => ?_, a7.2⟩
    · rw [List.length_map, c1, Nat.mul_one]
      show l.off + p + L.length + sp ≤ cc.size
      omega
    · obtain ⟨z, _, rfl⟩ := List.mem_map.1 hx; rfl
    · rw [← q6, List.getElem?_take] at hx
      split at hx
      · rw [List.getElem?_drop] at hx
        obtain ⟨u, d1, d2⟩ := a6 _ x hx
        refine ⟨u, by rw [← d1]; congr 1; show l.off + p + i = _; omega, ?_⟩
        have hx' : x ∈ L.map (AV.int .i64) := by
          rw [← q6]
          refine List.mem_of_getElem? (i := i) ?_
          rw [List.getElem?_take, if_pos (by assumption), List.getElem?_drop]; exact hx
        obtain ⟨z, _, rfl⟩ := List.mem_map.1 hx'
        rcases d2 with d2 | ⟨d2, _⟩
        · exact .inl d2
        · cases d2
      · cases hx
    · rw [List.length_map] at b1 b2
      rw [c1, Nat.mul_one] at b2
      have b2 : i < L.length + sp := b2
      have b3 : cc[l.off + (p + i)]? = some u := by rw [← b3]; congr 1; show _ = l.off + p + i; omega
      by_cases hlt : p + i < cs.length
      · obtain ⟨u', d1, d2⟩ := a6 (p + i) _ (List.getElem?_eq_getElem hlt)
        rw [d1] at b3; cases b3
        rcases d2 with d2 | ⟨_, d2⟩
        · rw [d2.one]; exact a5 _ (List.getElem_mem hlt)
        · exact d2
      · exact a7.1 (p + i) u (by omega) (by omega) b3

/-- A map's iterator, as the kit lays it. -/
structure KeysAt (g : FuncId) : Prop where
  body : hasBody PP g = true
  lays : ∃ r : Go.Shelf.Ren, SlLaysZI.n10 PP r ∧ r.f 10 = g
theorem keys_at {gks : List FuncId} (hk : ∀ g ∈ gks, KeysAt g) : PrimAt PP 119 (keysA gks) := by
  intro args args' ρ H w v H' hg hr ha
  refine ⟨fun _ m => ?_, fun q => (by rw [show hasBody PP 119 = true by kernel_rfl] at q; cases q)⟩
  unfold keysA at hg
  split at hg
  case h_2 => cases hg
  rename_i g p o
  rw [rowTo_eq_some] at hg
  rcases hg with ⟨e, cs, hp, hg⟩ | ⟨_, _, _, hg⟩
  case inr => cases hg
  rw [ob_eq_some] at hg
  obtain ⟨x, hx, hg⟩ := hg
  rw [nthO_eq] at hx
  split at hg
  case h_2 => cases hg
  rename_i mb
  rw [mpTo_eq_some] at hg
  obtain ⟨es, clk, hm, hg⟩ := hg
  rw [br_some_none, memN_iff, ob_eq_some] at hg
  obtain ⟨hgk, zs, hz, hg⟩ := hg
  rw [br_some_none] at hg
  obtain ⟨hok, hg⟩ := hg
  rw [allM_eq_some] at hz
  obtain ⟨hbody, r, L, rfl⟩ := hk g hgk
  obtain ⟨y, rfl, fs, cs', rfl, rf, y1, ys, rfl, ⟨q, hq, rfl⟩, rc⟩ := one_arg ha
  cases rf
  cases rc
  -- the box, the map
  obtain ⟨l, c, fr, a1, a2, a3, a4, a5, a6, a7⟩ := hr.lies p _ hp
  rw [hq] at a1; cases a1
  obtain ⟨u, d1, d2⟩ := a6 o _ hx
  rcases d2 with ⟨lm, hlm, rfl⟩ | ⟨d2, _⟩
  case inr => cases d2
  have hcell : w.cell? ⟨q.blk, q.off + o, none⟩ = some (.map (some lm.blk)) := by
    simp only [World.cell?, a2, Option.isSome_none, Bool.false_eq_true, if_false]
    exact d1
  have hlt : q.blk < w.heap.size := (Array.getElem?_eq_some_iff.1 a2).1
  obtain ⟨lm', es', b1, b2, b3⟩ := hr.lies mb _ hm
  rw [hlm] at b1; cases b1
  obtain ⟨D, own, kp, ks⟩ := owns_of L.t26 b2 b3 hz hok
  have hzl : zs.length ≤ 100000 := by
    unfold okE at hok
    simp only [Bool.and_eq_true, Nat.ble_eq] at hok
    have := congrArg List.length hz
    simp only [List.length_map] at this
    omega
  have gives : SeqGives Fence.wide (10 - 1 - 1 - 1) PP (r.f 10) #[.pointer (some ⟨q.blk, q.off + o, none⟩)] encZ (fun ss => ss.Perm zs) (Maps.size D) w := by
    intro l J W hW hJ hY h0
    have own' : W.ownsMap PP (r.t 26) (fun _ => some (.lit (.bool true), [])) lm.blk 100000 D := by
      have hbl := own.lt
      obtain ⟨es, clock, hb, Ft, hs, hD⟩ := own
      exact ⟨es, clock, (hW.block lm.blk hbl).trans hb, Ft, hs, hD⟩
    refine (keys_run L (by omega) hJ ((hW.cell (p := ⟨q.blk, q.off + o, none⟩) hlt).trans hcell) own' h0 hY).mono ?_
    rintro e V ⟨h1, ss, h2, h3⟩
    exact ⟨h1, ss, h2.trans kp, h3⟩
  have run := sorted_raw (H := H.bare) (m := 10) (by omega) (by omega) hr.bare (bare_get H) hbody hq (by omega) (fun L h => by rw [h.length_eq]; omega) gives
  refine (callsIn_wide.2 (callsIn_wide.1 run)).mono ?_
  rintro e w' ⟨v', L', ρ', G, B, s, rfl, c1, c2, c3, c4, c5⟩
  rw [sortZ_of_perm c1] at c4
  cases zs with
  | nil =>
    have hg : some (AV.slice none 0 0 true, H) = some (v, H') := hg
    cases hg
    have e1 := c5 (List.Perm.eq_nil c1)
    subst e1
    cases c2
    have gg := hr.good (k := none)
    refine ⟨ρ, rfl, ⟨⟨fun b x hb => (hr.lies b x hb).mono (.refl ρ) fun l hl => c3.ev.keep _ (hr.inb (by rw [hb]; simp) hl) fun b _ h1 _ => absurd (bare_get H b) h1, hr.inj, hr.fresh, hr.glob'⟩, ?_⟩⟩
    exact ⟨.refl ρ, Nat.le_refl _, c3.ev.size, fun b l h1 h2 _ => ⟨b, l, h1, h2, rfl⟩, fun B hB _ => c3.ev.keep B hB fun b _ h1 _ => absurd (bare_get H b) h1, c3.ev.os, c3.ev.tape, c3.ev.output, fun _ _ h _ => h⟩
  | cons z zs =>
    have hg : some (AV.slice (some (H.next, 0)) (z :: zs).length (z :: zs).length false, H.new (.cells 3 ((sortI (z :: zs)).map (AV.int .i64)))) = some (v, H') := hg
    cases hg
    rw [sortI_eq, ← sortZ_len (z :: zs)]
    refine made_new hr c3 c2 c4 fun q => ?_
    have := sortZ_len (z :: zs)
    rw [q] at this; cases this
end
end Go.Ab
