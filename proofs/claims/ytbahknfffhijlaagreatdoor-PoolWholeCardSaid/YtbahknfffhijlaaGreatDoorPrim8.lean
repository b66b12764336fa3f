/- More steps, for PoolWhole: the keys of a map, sorted; a pool's functions, by what the evaluator tells of them. -/
import Derived.Test.YtbahknfffhijlaaGreatDoorVia
import Derived.Test.YtbahknfffhijlaaGreatDoorMaps
import Derived.Test.YtbahknfffhijlaaGreatDoorKeysP
namespace Go.Ab
noncomputable section
open Go.Proofs
set_option maxRecDepth 10000
variable {H H' : AH}

theorem keyI_ents : ∀ {M : Me}, (∀ k ∈ M.map (fun e => e.1), inI k = true) → allM keyI (ents M) = some (M.map fun e => e.1)
  | [], _ => rfl
  | e :: M, h => by
    have h1 := h e.1 (by simp)
    have ih := keyI_ents (M := M) fun k hk => h k (by simp at hk ⊢; exact .inr hk)
    show ob (keyI (.int .i64 e.1, e.2.1, e.2.2)) (fun y => ob (allM keyI (ents M)) fun ys => some (y :: ys)) = _
    rw [ih]
    show ob (br (inI e.1) (some e.1) none) _ = _
    rw [h1]; rfl
theorem unlikeI_of : ∀ {l : List Int}, l.Nodup → unlikeI l = true
  | [], _ => rfl
  | x :: l, h => by
    obtain ⟨h1, h2⟩ := List.nodup_cons.1 h
    show br (memI x l) false (unlikeI l) = true
    rw [Bool.eq_false_iff.2 fun q => h1 ((memI_iff x l).1 q), br_false, unlikeI_of h2]
theorem unlikeN_of : ∀ {l : List Nat}, l.Nodup → unlikeN l = true
  | [], _ => rfl
  | x :: l, h => by
    obtain ⟨h1, h2⟩ := List.nodup_cons.1 h
    show br (memN x l) false (unlikeN l) = true
    rw [Bool.eq_false_iff.2 fun q => h1 ((memN_iff x l).1 q), br_false, unlikeN_of h2]
/-- At a map of the laws. -/
theorem keysA_at {gk : FuncId} {gks : List FuncId} (hg : memN gk gks = true) {p m clk : Nat} {e : TypeId} {M : Me} (hp : H.get p = some (.cells e [.map (some m)])) (hm : H.get m = some (.mp (ents M) clk)) (hs : St M clk) (hl : M.length ≤ 100000) (hn : (M.map fun e => e.1).Nodup) (hk : ∀ k ∈ M.map (fun e => e.1), inI k = true) :
    keysA gks [.fn (.func gk) [] [.ptr (some (p, 0))]] H = (if M.map (fun e => e.1) = [] then some (.slice none 0 0 true, H) else some (.slice (some (H.next, 0)) (M.map fun e => e.1).length (M.map fun e => e.1).length false, H.new (.cells 3 ((sortZ (M.map fun e => e.1)).map (AV.int .i64))))) := by
  have h1 : okE (ents M) clk (M.map fun e => e.1) = true := by
    unfold okE
    simp only [Bool.and_eq_true, Nat.ble_eq, allB_eq, List.all_eq_true]
    refine ⟨⟨⟨by simpa using hl, fun x hx => ?_⟩, unlikeN_of ?_⟩, unlikeI_of hn⟩
    · obtain ⟨y, hy, rfl⟩ := List.mem_map.1 hx
      exact Nat.ble_eq_true_of_le (hs.1 y hy)
    · rw [List.map_map]; exact hs.2
  unfold keysA
  simp only [rowTo, hp, nthO_eq, List.getElem?_cons_zero, ob_some, mpTo, hm, hg, br_true, keyI_ents hk, h1, sortI_eq]
  cases M with
  | nil => rfl
  | cons e M => rfl
theorem keysAt : KeysAt 54 := ⟨by kernel_rfl, Tryz.keysL_ren, { Tryz.keysL with }, rfl⟩
noncomputable abbrev gks8 : List FuncId := [54]
theorem keys8_at : PrimAt PP 24 (keysA gks8) := keys_at fun g hg => by
  obtain rfl := List.mem_singleton.1 hg
  exact keysAt
def prims8 : PrimF := addP 24 (keysA gks8) <| addP 5 (viaA 5) <| addP 6 (viaA 6) <| addP 8 (viaA 8) <| addP 9 (viaA 9) <| addP 27 (viaA 27) prims7
abbrev C8 : CW := WP PP prims8
theorem prims8_ok : PrimOk PP prims8 :=
  PrimOk.add (PrimOk.add (PrimOk.add (PrimOk.add (PrimOk.add (PrimOk.add prims7_ok (via_at (by kernel_rfl))) (via_at (by kernel_rfl))) (via_at (by kernel_rfl))) (via_at (by kernel_rfl))) (via_at (by kernel_rfl))) keys8_at
end
end Go.Ab
