/- (*pool.Pool).Owners: who has some, rising. -/
import Derived.Test.YtbahknfffhijlaaGreatDoorPoolX
import Derived.Test.YtbahknfffhijlaaGreatDoorDelI
import Derived.Test.YtbahknfffhijlaaGreatDoorP10
namespace Go.Ab
noncomputable section
open Go.Proofs
set_option maxRecDepth 10000
variable {H H' : AH} {Q : Int → Prop}

theorem st8 {o : Option Out} {v : AV} {G G' : AH} {K : AV → AH → Prop} (h : o = some (.val v G')) (k : K v G') : outP C8 G o K := by subst h; exact k
theorem owners_wp {fl : List Nat} {p m Bf : Nat} {sf : AV} {M : Me} {bl : Int → Nat} {s : PS} (h : PlM Q H fl p m Bf sf M bl s none) (hk : ∀ k ∈ keysM M, inI k = true) (hl : M.length ≤ 100000) (K : AV → AH → Prop)
    (hK : ∀ H' s' B, Ext [] H H' → H.next ≤ B → Is .i64 H' B s' (leftI (fun k => decide ((s.of k).length = 0)) (sortZ (keysM M))) → K s' H') : C8.call 7 [.ptr (some (p, 0))] H K := by
  refine m_pool_Pool_Owners_ok _ _ _ ?_
  unfold m_pool_Pool_Owners
  rw [w_box_c, show (AV.ptr (some (p, 0))).parts.all AV.one = true from rfl, br_true, outP_val]
  have x1 : Ext [] H (H.new (.cells 24 (AV.ptr (some (p, 0))).parts)) := (Ext.refl _ _).new _
  have g1 := get_new_same H (.cells 24 (AV.ptr (some (p, 0))).parts)
  have n1 : H.next < (H.new (.cells 24 (AV.ptr (some (p, 0))).parts)).next := by rw [next_new]; omega
  generalize H.new (.cells 24 (AV.ptr (some (p, 0))).parts) = G1 at *
  have ldb : ∀ G : AH, G.get H.next = G1.get H.next → w_load none G (.ptr (some (H.next, 0))) = some (.val (.ptr (some (p, 0))) G) := fun G e => by rw [w_load_c, e, g1]; rfl
  have hpl := h.low _ h.pin
  have hml := h.low _ h.min
  have gp : G1.get p = _ := x1.get hpl (by simp) h.hp
  obtain ⟨clk, hm, hst⟩ := h.hm
  have gm : G1.get m = _ := x1.get hml (by simp) hm
  rw [ldb G1 rfl, outP_val, eq_pool, outP_val, condP_false, ldb G1 rfl, outP_val, w_nil_ptr, outP_val, w_fieldAddr_ptr, outP_val, w_load_c, gp]
  refine st8 (v := .map (some m)) (by rfl) ?_
  rw [outP_enter]
  refine m_maps_Keys_map_int_int_int_int_ok _ _ _ ?_
  unfold m_maps_Keys_map_int_int_int_int
  rw [w_box_c, show (AV.map (some m)).parts.all AV.one = true from rfl, br_true, outP_val, outP_val]
  have x2 : Ext [] G1 (G1.new (.cells 62 (AV.map (some m)).parts)) := (Ext.refl _ _).new _
  have g2 := get_new_same G1 (.cells 62 (AV.map (some m)).parts)
  have n2 : G1.next < (G1.new (.cells 62 (AV.map (some m)).parts)).next := by rw [next_new]; omega
  generalize G1.new (.cells 62 (AV.map (some m)).parts) = G2 at *
  have gm2 : G2.get m = _ := x2.get (by have := x1.next; omega) (by simp) gm
  have ka := keysA_at (H := G2) (gks := gks8) (gk := 54) (by kernel_rfl) g2 gm2 hst hl h.nd hk
  have x12 := x1.trans x2
  have nx1 := x1.next
  have nx2 := x2.next
  have fin : ∀ (G3 : AH) (s3 : AV) (B3 : Nat), Ext [] G2 G3 → G2.next ≤ B3 → Os 3 .i64 G3 B3 s3 (sortZ (keysM M)) →
      C8.call 27 [s3, .fn (.func 28) [] [.ptr (some (H.next, 0))]] G3 K := by
    intro G3 s3 B3 x3 hB3 o3
    refine via_wp (by kernel_rfl) ?_
    refine del_ints (fun k => decide ((s.of k).length = 0)) o3 (by rw [sortZ_len, List.length_map]; omega) (fun G x K' xg hk' => ?_) _ fun H' s' xd r => hK H' s' B3 ?_ (by omega) r
    · show CC.call 28 [.int .i64 x, .ptr (some (H.next, 0))] G K'
      refine m_pool_Pool_Owners_1_ok _ _ _ _ ?_
      unfold m_pool_Pool_Owners_1
      have xx : Ext [B3] G1 G := ((x2.trans x3).mono (m' := [B3]) (by simp)).trans xg
      have gb : G.get H.next = G1.get H.next := by rw [g1]; exact xx.get n1 (by simp; omega) g1
      have gpG : G.get p = _ := xx.get (by omega) (by simp; omega) gp
      have gmG : G.get m = _ := xx.get (by omega) (by simp; omega) gm
      have ol := (h.own x (by simp)).is.len ints_sl
      rw [ldb G gb, outP_val, w_nil_ptr, outP_val, w_fieldAddr_ptr, outP_val, w_load_c, gpG]
      refine st (v := .map (some m)) (by rfl) ?_
      rw [w_look int_un ints_zero gmG, outP_val, ol, outP_val, w_eql, outP_val]
      have e : decide (((s.of x).length : Int) = 0) = decide ((s.of x).length = 0) := by
        by_cases c : (s.of x).length = 0
        · rw [decide_eq_true c, decide_eq_true (by omega)]
        · rw [decide_eq_false c, decide_eq_false (by omega)]
      rw [e]; exact hk'
    · exact (((x12.trans x3).mono (m' := [B3]) (by simp)).trans xd).mono fun b hb hlt => by simp at hb; omega
  show outP C8 G2 (some (.enter 24 [.fn (.func 54) [] [.ptr (some (G1.next, 0))]])) _
  rw [outP_enter]
  by_cases c : M.map (fun e => e.1) = []
  · rw [if_pos c] at ka
    refine prim_wp (P := PP) (prim := prims8) (by kernel_rfl) ka ?_
    rw [outP_val, outP_enter]
    refine fin G2 _ G2.next (Ext.refl _ _) (Nat.le_refl _) ?_
    rw [show keysM M = [] from c, show sortZ [] = [] from List.mergeSort_nil]
    exact os_nil _ _ _
  · rw [if_neg c] at ka
    refine prim_wp (P := PP) (prim := prims8) (by kernel_rfl) ka ?_
    rw [outP_val, outP_enter]
    obtain ⟨n, hn⟩ : ∃ n, n = (M.map fun e => e.1).length := ⟨_, rfl⟩
    have ln : (sortZ (keysM M)).length = n := by rw [sortZ_len, hn]
    rw [← hn]
    refine fin _ _ G2.next ((Ext.refl _ _).new _) (Nat.le_refl _) ⟨.inr ⟨0, n, false, (sortZ (M.map fun e => e.1)).map (AV.int .i64), ?_, get_new_same _ _, ?_, ?_, fun _ => ?_, ?_, ?_⟩, ?_, ?_, ?_⟩
    · rw [List.length_map, ln]
    · rw [List.length_map, ln]; exact Nat.le_refl _
    · rw [List.length_map, ln]; omega
    · rw [List.length_map, ln]; omega
    · rw [flat_nums, List.drop_zero, List.length_map]
      exact List.take_of_length_le (by rw [List.length_map, Nat.mul_one]; exact Nat.le_refl _)
    · rw [next_new]; omega
    · intro x hx; obtain ⟨z, _, rfl⟩ := List.mem_map.1 hx; rfl
    · intro x hx; obtain ⟨z, _, rfl⟩ := List.mem_map.1 hx; rfl
    · intro x hx; obtain ⟨z, _, rfl⟩ := List.mem_map.1 hx; rfl
end
end Go.Ab
