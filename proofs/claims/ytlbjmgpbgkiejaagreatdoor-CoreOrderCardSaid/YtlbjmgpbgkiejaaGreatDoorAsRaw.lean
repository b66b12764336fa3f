/- slices.AppendSeq at []int in the model itself: at a function that yields in an order that nobody knows. -/
import Derived.Test.YtlbjmgpbgkiejaaGreatDoorEv3
import Derived.RangeFuncGives
import Derived.Test.YtlbjmgpbgkiejaaGreatDoorAppSeq
import Derived.Lib.SlKeysI
namespace Go.Ab
noncomputable section
open Go Go.RowKit
variable {P : Program} {ρ ρ' : Env} {H H' : AH} {w w' : World}

def Still : ABlk → Prop
  | .mp _ _ => False
  | .iter _ _ _ _ => False
  | _ => True
def Tame (G : AH) : Prop := ∀ b x, G.get b = some x → Still x
theorem tame_lies {b : Nat} {x : ABlk} (h : Lies P ρ w b x) (hx : Still x) {l : Loc} {o : Obj} (hl : ρ b = some l) (ho : w.heap[l.blk]? = some o) : o.isWalk = false := by
  cases x with
  | cells e cs => obtain ⟨l', c, fr, a1, a2, _⟩ := h; rw [hl] at a1; cases a1; rw [a2] at ho; cases ho; rfl
  | mp es clk => exact hx.elim
  | iter m s l n => exact hx.elim
  | loop st pend fn tm ps asg body d => obtain ⟨l', ld, tmps, n, fn, a1, _, a2, _⟩ := h; rw [hl] at a1; cases a1; rw [a2] at ho; cases ho; rfl
  | defd => obtain ⟨l', a1, a2⟩ := h; rw [hl] at a1; cases a1; rw [a2] at ho; cases ho; rfl
  | ro ob f => obtain ⟨l', c, e, fr, a1, a2, rfl, _⟩ := h; rw [hl] at a1; cases a1; rw [a2] at ho; cases ho; rfl
theorem Real.tame (h : Real P ρ H w) (ht : Tame H) {b : Nat} {l : Loc} {o : Obj} (hb : H.get b ≠ none) (hl : ρ b = some l) (ho : w.heap[l.blk]? = some o) : o.isWalk = false := by
  obtain ⟨x, hx⟩ := Option.ne_none_iff_exists'.1 hb
  exact tame_lies (h.lies b x hx) (ht b x hx) hl ho
/-- A step in such a heap keeps its word to an iterator. -/
theorem Good.walks (g : Good none P ρ H w ρ' H' w') (hr : Real P ρ H w) (ht : Tame H) : KeepsWalks w w' :=
  ⟨g.ev.size, fun k o hk ho => (g.ev.keep k (Array.getElem?_eq_some_iff.1 hk).1 fun b l hb hl e => by
    have := hr.tame ht hb hl (by rw [e]; exact hk)
    rw [this] at ho; cases ho).trans hk⟩
/-- .. and minds no step of it. -/
theorem Good.abides {w'' : World} {row : Option Nat} (g : Good none P ρ H w ρ' H' w') (ht : Tame H') (hg : w'.grownBy w'' row) (hr : ∀ r, row = some r → w.heap.size ≤ r ∧ ∃ o : Obj, w'.heap[r]? = some o ∧ o.isWalk = true) : Good none P ρ H w ρ' H' w'' := by
  have key : ∀ {b l}, H'.get b ≠ none → ρ' b = some l → w''.heap[l.blk]? = w'.heap[l.blk]? := fun {b l} hb hl => by
    have hlt := g.real.inb hb hl
    refine hg.block _ hlt fun e => ?_
    obtain ⟨_, o, ho, hw⟩ := hr _ e.symm
    rw [g.real.tame ht hb hl ho] at hw; cases hw
  refine ⟨⟨fun b x hb => (g.real.lies b x hb).mono (.refl ρ') fun l hl => key (by rw [hb]; simp) hl, g.real.inj, g.real.fresh, g.real.glob'⟩, ?_⟩
  refine ⟨g.ev.le, g.ev.next, Nat.le_trans g.ev.size hg.size, g.ev.own, fun B hB hn => ?_, hg.os.trans g.ev.os, hg.tape.trans g.ev.tape, hg.output.trans g.ev.output, g.ev.ids⟩
  rw [hg.block B (Nat.lt_of_lt_of_le hB g.ev.size) (fun e => by have := (hr B e.symm).1; omega), g.ev.keep B hB hn]
theorem Good.fewer {G : AH} (g : Good none P ρ H w ρ' H' w') (hs : ∀ b x, G.get b = some x → H'.get b = some x) (hn : G.next = H'.next) : Good none P ρ H w ρ' G w' := by
  refine ⟨g.real.sub hs (by omega), g.ev.le, by rw [hn]; exact g.ev.next, g.ev.size, fun b l h1 h2 h3 => g.ev.own b l (fun q => ?_) h2 h3, g.ev.keep, g.ev.os, g.ev.tape, g.ev.output, g.ev.ids⟩
  obtain ⟨x, hx⟩ := Option.ne_none_iff_exists'.1 h1
  rw [hs b x hx] at q; cases q

/-- A heap of which nothing is known. -/
def AH.bare (H : AH) : AH := ⟨.leaf, H.next⟩
theorem bare_get (H : AH) (b : Nat) : H.bare.get b = none := rfl
theorem Real.bare (h : Real P ρ H w) : Real P ρ H.bare w := h.sub (fun b x hx => by rw [bare_get] at hx; cases hx) (Nat.le_refl _)
/-- Four blocks of a heap, and no more. -/
def AH.only (H : AH) (a b c d : Nat) : AH := (((H.bare.put a (H.get a)).put b (H.get b)).put c (H.get c)).put d (H.get d)
theorem only_get (H : AH) (a b c d k : Nat) : (H.only a b c d).get k = if k = d ∨ k = c ∨ k = b ∨ k = a then H.get k else none := by
  unfold AH.only
  rw [AH.get_put, AH.get_put, AH.get_put, AH.get_put, bare_get]
  by_cases e1 : k = d
  · rw [if_pos e1, if_pos (.inl e1), e1]
  by_cases e2 : k = c
  · rw [if_neg e1, if_pos e2, if_pos (.inr (.inl e2)), e2]
  by_cases e3 : k = b
  · rw [if_neg e1, if_neg e2, if_pos e3, if_pos (.inr (.inr (.inl e3))), e3]
  by_cases e4 : k = a
  · rw [if_neg e1, if_neg e2, if_neg e3, if_pos e4, if_pos (.inr (.inr (.inr e4))), e4]
  · rw [if_neg e1, if_neg e2, if_neg e3, if_neg e4, if_neg (by simp [e1, e2, e3, e4])]
theorem only_next (H : AH) (a b c d : Nat) : (H.only a b c d).next = H.next := by
  unfold AH.only
  rw [AH.next_put, AH.next_put, AH.next_put, AH.next_put]; rfl
theorem only_sub (H : AH) (a b c d : Nat) (k : Nat) (x : ABlk) (h : (H.only a b c d).get k = some x) : H.get k = some x := by
  rw [only_get] at h
  split at h
  · exact h
  · cases h
end
end Go.Ab
namespace Go.Ab
noncomputable section
open Go Go.Proofs Go.RowKit
set_option maxRecDepth 10000
variable {H H' : AH}

theorem sq_only {H0 G : AH} {L : List Int} (h : Sq H0 G L) (he : ∀ b, H0.get b = none) : ∃ G', Sq H0 G' L ∧ Tame G' ∧ (∀ b x, G'.get b = some x → G.get b = some x) ∧ G'.next = G.next := by
  obtain ⟨B, s, g1, o1, hB⟩ := h.row
  obtain ⟨tm, a, g3, ht, ha⟩ := h.loop
  have hn := h.next
  obtain ⟨d, d1, d2, d3⟩ : ∃ d, (∀ x, G.get d = some x → Still x) ∧ (∀ G' : AH, G'.get d = G.get d → G.next ≤ G'.next → Os 3 .i64 G' B s L) ∧ H0.next ≤ d := by
    rcases o1.ex with q | ⟨o, c, ex, cs, q1, q2, q3, q4, q5, q6, q7⟩
    · exact ⟨H0.next, (fun x hx => by rw [g1] at hx; cases hx; trivial), fun G' _ _ => ⟨.inl q, o1.szs, o1.known, o1.one⟩, Nat.le_refl _⟩
    · exact ⟨B, (fun x hx => by rw [q2] at hx; cases hx; trivial), fun G' e n => ⟨.inr ⟨o, c, ex, cs, q1, e.trans q2, q3, q4, q5, q6, by omega⟩, o1.szs, o1.known, o1.one⟩, by omega⟩
  refine ⟨G.only H0.next (H0.next + 1) (H0.next + 2) d, ⟨⟨?_, fun b hb _ => ?_⟩, ⟨B, s, ?_, d2 _ ?_ ?_, hB⟩, ?_, ⟨tm, a, ?_, ht, ha⟩, ?_⟩, fun b x q => ?_, only_sub _ _ _ _ _, only_next _ _ _ _ _⟩
  · rw [only_next]; omega
  · rw [only_get, if_neg (by omega), he]
  · rw [only_get, if_pos (by simp)]; exact g1
  · rw [only_get, if_pos (by simp)]
  · rw [only_next]; exact Nat.le_refl _
  · rw [only_get, if_pos (by simp)]; exact h.defd
  · rw [only_get, if_pos (by simp)]; exact g3
  · rw [only_next]; exact hn
  · rw [only_get] at q
    split at q
    · rename_i e
      rcases e with rfl | rfl | rfl | rfl
      · exact d1 _ q
      · rw [g3] at q; cases q; trivial
      · rw [h.defd] at q; cases q; trivial
      · rw [g1] at q; cases q; trivial
    · cases q

/-- A round, in the model. -/
theorem sq_yield {m l N : Nat} {ρ ρ' : Env} {w W : World} {G0 G H0 : AH} {L : List Int} (g : Good none PP ρ G0 w ρ' G W) (hs : Sq H0 G L) (he : ∀ b, H0.get b = none) (ht : Tame G) (hL : L.length < N) (hN : N ≤ 100000) {q : Loc} (hl : ρ (H0.next + 2) = some q) (hq : q.blk = l) (x : Int) :
    YieldAt Fence.wide m PP l #[encZ x] W fun e W' => e = .returned (.bool true) ∧ (∃ ρ2 G2, Good none PP ρ G0 w ρ2 G2 W' ∧ Sq H0 G2 (L ++ [x]) ∧ Tame G2) ∧ KeepsWalks W W' := by
  obtain ⟨k, v, G1, h1, rfl, h2⟩ : ∃ n v G1, (∀ m, n ≤ m → (evBoth PP prims7 m).2 (H0.next + 2) [.int .i64 x] G = some (v, G1)) ∧ v = .bool true ∧ Sq H0 G1 (L ++ [x]) :=
    sq_round hs (by omega) x (fun v G1 => v = .bool true ∧ Sq H0 G1 (L ++ [x])) fun G1 h => ⟨rfl, h⟩
  obtain ⟨fn, tmps, asg, body, y1, y2⟩ := (ev_ok prims7_ok seat_mixed (progOk_regs seat_ok) k).round (h1 k (Nat.le_refl _)) g.real (g.ev.le _ _ hl) (args' := #[encZ x]) (.cons rfl rfl)
  subst hq
  refine ⟨fn, tmps, asg, body, y1, (y2 m).mono fun e W' hret => ?_⟩
  unfold Ret at hret
  cases e with
  | returned v' =>
    obtain ⟨ρ2, rfl, g2⟩ := hret
    obtain ⟨G2, s1, s2, s3, s4⟩ := sq_only h2 he
    exact ⟨rfl, ⟨ρ2, G2, (g.trans g2).fewer s3 s4, s1, s2⟩, g2.walks g.real ht⟩
  | _ => exact hret.elim

/-- What it makes: of the keys that came a slice of its own. -/
theorem as_raw {g : FuncId} {p o N m : Nat} {q : Loc} {S : List Int → Prop} {ρ : Env} {w : World} (hr : Real PP ρ H w) (hH : ∀ b, H.get b = none) (hb : hasBody PP g = true) (hp : ρ p = some q) (hN : N ≤ 100000)
    (hs : SeqGives Fence.wide (m - 1) PP g #[.pointer (some ⟨q.blk, q.off + o, none⟩)] encZ S N w) :
    CallsIn Fence.wide m PP asF #[.slice none 0 0, .func (.func g) #[] #[.pointer (some ⟨q.blk, q.off + o, none⟩)]] w fun e w' => ∃ v L ρ' G B s, e = .returned v ∧ S L ∧ Rel ρ' s v ∧ Good none PP ρ H w ρ' G w' ∧ Os 3 .i64 G B s L ∧ (L = [] → s = .slice none 0 0 true) := by
  refine callsIn_of_wp_marks (F := Fence.wide) Tryz.func265 as_body trivial ?_ rfl
  have hok := as_ok
  simp only [codeOk, Bool.and_eq_true] at hok
  have hin : InProg PP (.seq asA (.seq (.seq asB (.block 0 (.rangeFunc (.tmp 6) #[7] asG asY))) asC)) := .body Tryz.func265 as_body
  have hle : [AV.slice none 0 0 true, .fn (.func g) [] [.ptr (some (p, o))]].length ≤ Tryz.f265.ntmps := Nat.le_of_ble_eq_true (by kernel_rfl)
  have ha : RelL ρ [AV.slice none 0 0 true, .fn (.func g) [] [.ptr (some (p, o))]] (#[.slice none 0 0, .func (.func g) #[] #[.pointer (some ⟨q.blk, q.off + o, none⟩)]] : Array Value).toList :=
    .cons rfl (.cons ⟨[], [_], rfl, rfl, .cons ⟨q, hp, rfl⟩ rfl⟩ rfl)
  -- up to the range
  obtain ⟨n1, e, tm1, a1, H1, r1, t1, rfl, e1, rfl⟩ := codeP_ok asF none _ asA (fun e a H1 => e = .normal ∧ a = ((argE [AV.slice none 0 0 true, .fn (.func g) [] [.ptr (some (p, o))]]).setO (some 2) (.ptr (some (H.next, 0)))).setO (some 4) (.slice none 0 0 true) ∧ H1 = H.new (.cells 54 [.slice none 0 0 true])) _ _ H hok.1 (start_eq hle) (by
    show codeP PP CC asA _ _ _
    rw [asA_eq]
    have e0 : argE [AV.slice none 0 0 true, .fn (.func g) [] [.ptr (some (p, o))]] 0 = .slice none 0 0 true := rfl
    rw [e0, w_box_c, parts_slice, show [AV.slice none 0 0 true].all AV.one = true from rfl, br_true, outP_val]
    exact ⟨rfl, rfl, rfl⟩)
  obtain ⟨n2, e, tm2, a2, H2, r2, t2, rfl, e2, rfl⟩ := codeP_ok asF none _ asB (fun e a G => e = .normal ∧ a = a1.setO (some 6) (a1 1) ∧ G = H.new (.cells 54 [.slice none 0 0 true])) _ _ _ hok.2.1.1 t1 (by
    show codeP PP CC asB _ _ _
    rw [asB_eq]
    exact ⟨rfl, rfl, rfl⟩)
  have cx : ∀ k, CxOk PP (cxOf PP prims7 k asF none).call (cxOf PP prims7 k asF none).round := ev_ok prims7_ok seat_mixed (progOk_regs seat_ok)
  refine wpIn_seq ?_
  refine code_wp (ro := none) (cx n1) seat_mixed (progOk_regs seat_ok) (fun _ => rfl) asA hin.seqL hok.1 (r1 n1 (Nat.le_refl _) []) hr (start_rel ha hle) rfl fun ρ1 b1 w1 g1 u1 m1 => ?_
  refine wpIn_seq (wpIn_seq ?_)
  refine code_wp (ro := none) (cx n2) seat_mixed (progOk_regs seat_ok) (fun _ => rfl) asB hin.seqR.seqL.seqL hok.2.1.1 (r2 n2 (Nat.le_refl _) []) g1.real u1 m1 fun ρ2 b2 w2 g2 u2 m2 => ?_
  refine wpIn_block ?_
  -- the range
  have v6 : a2 6 = .fn (.func g) [] [.ptr (some (p, o))] := by rw [e2, e1]; rfl
  have v2 : a2 2 = .ptr (some (H.next, 0)) := by rw [e2, e1]; rfl
  have rg : Rel ρ2 (.fn (.func g) [] [.ptr (some (p, o))]) (b2.eval (.tmp 6)) := by
    have := u2.rel 6
    rw [← t2.get 6, v6] at this
    exact this
  obtain ⟨fs, cs, hge, rf, y, ys, rfl, ⟨q', hq', rfl⟩, rc⟩ := rg
  cases rf
  cases rc
  have g12 := g1.trans g2
  obtain rfl : q = q' := Option.some.inj ((g12.ev.le p q hp).symm.trans hq')
  generalize hG0 : H.new (.cells 54 [.slice none 0 0 true]) = G0 at *
  have n0 : G0.next = H.next + 1 := by rw [← hG0, next_new]
  have b0 : G0.get H.next = some (.cells 54 [.slice none 0 0 true]) := by rw [← hG0]; exact get_new_same _ _
  have x0 : Ext [] H G0 := by rw [← hG0]; exact (Ext.refl _ _).new _
  refine wpIn_rangeFunc fun fn _ => ?_
  have k1 : Good none PP ρ2 G0 w2 (ρ2.with (idOf G0 none) ⟨w2.heap.size, 0, 0⟩) (newH G0 none .defd) { w2 with heap := w2.heap.push (.deferred (some [])) } :=
    g2.real.new (at_ := none) trivial (by simp) (by simp) (fun k hk => heap_push_lt _ k hk) (Nat.le_refl _) ⟨_, with_same _ _, by show (w2.heap.push _)[w2.heap.size]? = _; simp⟩ rfl rfl rfl
  obtain ⟨W, hW⟩ : ∃ W : World, W = { w2 with heap := (w2.heap.push (.deferred (some []))).push (.loop { state := .ready, pending := none, fn := fn, tmps := b2.tmps, params := #[7], assign := asG, body := asY, defers := w2.heap.size }) } := ⟨_, rfl⟩
  have k2 := k1.real.new (at_ := none) (x := .loop .ready none asF tm2 #[7] asG asY (idOf G0 none)) (l := ⟨w2.heap.size + 1, 0, 0⟩) (w' := W) trivial (by rw [hW]; simp) (by rw [hW]; simp)
    (fun k hk => by rw [hW]; exact heap_push_lt (w := { w2 with heap := w2.heap.push (.deferred (some [])) }) _ k hk) (by simp)
    ⟨_, ⟨w2.heap.size, 0, 0⟩, b2.tmps, _, fn, with_same _ _, by
        have hne : idOf G0 none ≠ idOf (newH G0 none .defd) none := by simp [idOf, newH, AH.newTo_none]
        simp only [Env.with, hne, if_false, if_true],
      by
        rw [hW]
        show ((w2.heap.push (.deferred (some []))).push _)[w2.heap.size + 1]? = _
        rw [show w2.heap.size + 1 = (w2.heap.push (Obj.deferred (some []))).size by simp]
        exact Array.getElem?_push_size,
      u2.mono (le_with (id_fresh g2.real (at_ := none) trivial) |>.trans (le_with (id_fresh k1.real (at_ := none) trivial))), hin.seqR.seqL.seqR.block.rangeL, hin.seqR.seqL.seqR.block.rangeR, (by kernel_rfl), (by kernel_rfl), fun t ht => by
        obtain rfl : t = 7 := by simpa using ht
        exact Nat.le_of_ble_eq_true (by kernel_rfl)⟩ (by rw [hW]) (by rw [hW]) (by rw [hW])
  have k12 := k1.trans k2
  obtain ⟨G3, hG3⟩ : ∃ G3, G3 = newH (newH G0 none .defd) none (.loop .ready none asF tm2 #[7] asG asY (idOf G0 none)) := ⟨_, rfl⟩
  obtain ⟨ρ3, hρ3⟩ : ∃ ρ3, ρ3 = (ρ2.with (idOf G0 none) ⟨w2.heap.size, 0, 0⟩).with (idOf (newH G0 none .defd) none) ⟨w2.heap.size + 1, 0, 0⟩ := ⟨_, rfl⟩
  rw [← hG3, ← hρ3] at k2 k12
  have hl3 : ρ3 (H.next + 2) = some ⟨w2.heap.size + 1, 0, 0⟩ := by
    have e : H.next + 2 = idOf (newH G0 none .defd) none := by simp [idOf, newH, AH.newTo_none, n0]
    rw [e, hρ3]; exact with_same _ _
  have hd3 : ρ3 (H.next + 1) = some ⟨w2.heap.size, 0, 0⟩ := by
    have e : H.next + 1 = idOf G0 none := by simp [idOf, n0]
    rw [e]; exact k2.ev.le _ _ (with_same _ _)
  have g3 : ∀ b, G3.get b = if b = H.next + 2 then some (.loop .ready none asF tm2 #[7] asG asY (H.next + 1)) else if b = H.next + 1 then some .defd else G0.get b := by
    intro b
    rw [hG3, get_newH, get_newH]
    have e1 : idOf (newH G0 none .defd) none = H.next + 2 := by simp [idOf, newH, AH.newTo_none, n0]
    have e2 : idOf G0 none = H.next + 1 := by simp [idOf, n0]
    rw [e1, e2]
  have n3 : G3.next = H.next + 3 := by rw [hG3]; simp [newH, AH.newTo_none, n0]
  have s3 : Sq H G3 [] := by
    refine ⟨⟨by omega, fun b hb _ => ?_⟩, ⟨H.next + 3, .slice none 0 0 true, ?_, os_nil _ _ _, by omega⟩, ?_, ⟨tm2, a2, ?_, t2, v2⟩, by omega⟩
    · rw [g3, if_neg (by omega), if_neg (by omega), x0.same b hb (by simp)]
    · rw [g3, if_neg (by omega), if_neg (by omega)]; exact b0
    · rw [g3, if_neg (by omega), if_pos rfl]
    · rw [g3, if_pos rfl]
  have gall := g12.trans k12
  have run := hs (w2.heap.size + 1) (fun L V => ∃ ρ' G, Good none PP ρ3 G3 W ρ' G V ∧ Sq H G L ∧ Tame G ∧ (L = [] → G.get H.next = some (.cells 54 [.slice none 0 0 true]))) W (gall.ev.below hH)
    (fun L V V' row h hg hrow => by
      obtain ⟨ρ', G, q1, q2, q3, q4⟩ := h
      exact ⟨ρ', G, q1.abides q3 hg hrow, q2, q3, q4⟩)
    (fun pre x V h hlt => by
      obtain ⟨ρ', G, q1, q2, q3, _⟩ := h
      obtain ⟨fn, tmps, asg, body, y1, y2⟩ := sq_yield (m := m - 1 - 1) q1 q2 hH q3 hlt hN hl3 rfl x
      refine ⟨fn, tmps, asg, body, y1, y2.mono fun e V' h => ?_⟩
      obtain ⟨h1, ⟨ρ2, G2, h2, h3, h4⟩, h5⟩ := h
      exact ⟨h1, ⟨ρ2, G2, h2, h3, h4, fun q => by simp at q⟩, h5⟩)
    (by
      obtain ⟨G', q1, q2, q3, q4⟩ := sq_only s3 hH
      refine ⟨ρ3, G', k2.real.good.fewer q3 q4, q1, q2, fun _ => ?_⟩
      obtain ⟨B, s, c1, _, _⟩ := q1.row
      have c2 := q3 _ _ c1
      rw [g3, if_neg (by omega), if_neg (by omega), b0] at c2
      rw [c1, c2])
  have hcall : ∀ args w, (callFunc g args).run PP w = .ok (.enter g args) w := fun args w => call_run hb args
  refine ⟨w2.heap.size + 1, [{ target := .collected w2.heap.size, args := #[] }], W, { target := .fn (.func g) #[.pointer (some ⟨q.blk, q.off + o, none⟩)], args := #[.func (.yield (w2.heap.size + 1)) #[] #[]] }, W, g, _, _, ?_, ?_, fun _ _ => trivial, ?_, fun hq => by simp [Fence.wide] at hq, CallsIn.mono (show CallsIn (Fr none) (m - 1) PP g _ _ _ from run) ?_⟩
  · show (Instr.enterLoop fn b2.tmps #[7] asG asY none).run PP w2 = _
    rw [hW]
    simp [Instr.enterLoop]
    rfl
  · have e : b2.eval (.const (.func (.yield (w2.heap.size + 1)) #[] #[])) = .func (.yield (w2.heap.size + 1)) #[] #[] := rfl
    simp [resolve, hge, Deferred.ofValue, e]
  · simp [invoke, call_run hb]
  · rintro e W2 ⟨⟨v0, rfl⟩, L, hS, ρ4, G4, g4, s4, t4, nil4⟩
    obtain ⟨B, s, c1, o1, hB⟩ := s4.row
    obtain ⟨tm', a', c3, ht', ha'⟩ := s4.loop
    have hn4 := s4.next
    obtain ⟨l, ld, tmps, n1', fn1, q1, q2, q3, q4, q5⟩ := g4.real.lies _ _ c3
    rw [g4.ev.le _ _ hl3] at q1; cases q1
    obtain ⟨W3, z1, z2⟩ := g4.real.setLoop (y := .loop .exhausted none asF tm' #[7] asG asY (H.next + 1)) (r' := { state := .exhausted, pending := none, fn := fn1, tmps := tmps, params := #[7], assign := asG, body := asY, defers := ld.blk }) c3 (g4.ev.le _ _ hl3) q3
      (fun w' hw' => ⟨_, ld, tmps, n1', fn1, g4.ev.le _ _ hl3, q2, hw', q4, q5⟩)
    have hend : (Instr.endLoop (w2.heap.size + 1)).run PP W2 = .ok none W3 := by
      have hb2 : (LoopState.ready == LoopState.busy) = false := rfl
      simp only [Instr.endLoop, Sem.run_bind, run_getLoop q3, Result.andThen_ok, hb2, Bool.false_eq_true, if_false, z1, Sem.run_pure]
    have g5 := (k12.trans g4).trans z2
    refine ⟨none, W3, hend, ?_⟩
    obtain ⟨f1, f2, _, f3⟩ := Sl.facts o1.sl
    obtain ⟨n5, e, tm5, a5, H5, r5, t5, rfl, e5, rfl⟩ := codeP_ok asF none _ asC (fun e a G => e = .ret ∧ resE PP Tryz.f265.results.toList a (G.put (H.next + 1) none) = some [s] ∧ G = G4.put (H.next + 2) (some (.loop .exhausted none asF tm' #[7] asG asY (H.next + 1)))) _ _ (G4.put (H.next + 2) (some (.loop .exhausted none asF tm' #[7] asG asY (H.next + 1)))) hok.2.2 t2 (by
      show codeP PP CC asC _ _ _
      rw [asC_eq, v2, w_load_c, get_put_ne _ (by omega), c1, ldV_cells, show ([s] : List AV)[0]? = some s from rfl, ob_some, f2, vO_some, outP_val]
      exact ⟨rfl, rfl, rfl⟩)
    show asC.wpIn (Fr none) m PP _ _ W3
    refine code_wp (ro := none) (cx n5) seat_mixed (progOk_regs seat_ok) (fun _ => rfl) asC hin.seqR.seqR hok.2.2 (r5 n5 (Nat.le_refl _) [H.next + 1]) g5.real (u2.mono g5.ev.le) ⟨⟨w2.heap.size, 0, 0⟩, b2.defers, (g4.trans z2).ev.le _ _ hd3, rfl, m2.mono g5.ev.le⟩ fun ρ6 b6 w6 g6 u6 m6 => ?_
    rw [resE_eq t5.get] at e5
    refine leaves_run (n := m) (fn := Tryz.f265) (l := [s]) (Hend := (G4.put (H.next + 2) (some (.loop .exhausted none asF tm' #[7] asG asY (H.next + 1)))).put (H.next + 1) none) [H.next + 1] b6.defers ρ6 _ w6 g6.real m6 ?_ u6.rel e5 fun v w7 h1 h2 => ?_
    · simp [closeMarks, get_put_ne _ (show H.next + 1 ≠ H.next + 2 by omega), s4.defd]
    · refine ⟨v, L, ρ6, _, B, s, rfl, hS, h1, (g12.trans (g5.trans g6)).trans h2, ?_, fun q => ?_⟩
      rotate_left
      · have := nil4 q
        rw [c1] at this; cases this; rfl
      exact Own.mono (Own.mono o1 ((Ext.refl [H.next + 2] _).put (.inr (by simp)) _) (by simp; omega)) ((Ext.refl [H.next + 1] _).put (.inr (by simp)) _) (by simp; omega)
end
end Go.Ab
