/- slices.SortFunc at hits, its closure means.Order$1: the library's contract, laid at this seat. -/
import Derived.Test.YtjpjmeidpjjgdaaGreatDoorSortFP
import Derived.Test.YtjpjmeidpjjgdaaGreatDoorBase
import Derived.Shelf.SlSortCmp.WholeK
namespace Go.Proofs
open Go.Shelf
set_option maxRecDepth 100000
def Tryz.sortFL_ren : Go.Shelf.Ren := ⟨fun | 6 => 56 | 15 => 85 | 14 => 84 | 28 => 116 | 29 => 117 | 20 => 108 | 21 => 109 | 22 => 110 | 23 => 111 | 24 => 112 | 25 => 113 | 26 => 114 | 27 => 115 | 46 => 147 | 47 => 148 | 48 => 149 | 49 => 150 | 50 => 151 | 57 => 168 | n => n, fun | 22 => 62 | 24 => 61 | 25 => 99 | 3 => 3 | 39 => 125 | 0 => 0 | 53 => 162 | 55 => 164 | 4 => 4 | 46 => 155 | 45 => 154 | 50 => 159 | 5 => 5 | 9 => 9 | 66 => 196 | 70 => 200 | 76 => 215 | 77 => 216 | n => n, fun | n => n⟩
theorem Tryz.sortFL : Go.Proofs.SlLaysF0.n6 Tryz.prog Tryz.sortFL_ren := {
  mixed := by kernel_rfl,
  f6 := ⟨Tryz.f56.name, by decide, Tryz.func56.trans (congrArg some (by kernel_rfl))⟩,
  f14 := ⟨Tryz.f84.name, by decide, Tryz.func84.trans (congrArg some (by kernel_rfl))⟩,
  f15 := Tryz.func85.trans (congrArg some (by kernel_rfl)),
  f20 := ⟨Tryz.f108.name, by decide, Tryz.func108.trans (congrArg some (by kernel_rfl))⟩,
  f21 := ⟨Tryz.f109.name, by decide, Tryz.func109.trans (congrArg some (by kernel_rfl))⟩,
  f22 := ⟨Tryz.f110.name, by decide, Tryz.func110.trans (congrArg some (by kernel_rfl))⟩,
  f23 := ⟨Tryz.f111.name, by decide, Tryz.func111.trans (congrArg some (by kernel_rfl))⟩,
  f24 := ⟨Tryz.f112.name, by decide, Tryz.func112.trans (congrArg some (by kernel_rfl))⟩,
  f25 := ⟨Tryz.f113.name, by decide, Tryz.func113.trans (congrArg some (by kernel_rfl))⟩,
  f26 := ⟨Tryz.f114.name, by decide, Tryz.func114.trans (congrArg some (by kernel_rfl))⟩,
  f27 := ⟨Tryz.f115.name, by decide, Tryz.func115.trans (congrArg some (by kernel_rfl))⟩,
  f28 := Tryz.func116.trans (congrArg some (by kernel_rfl)),
  f29 := Tryz.func117.trans (congrArg some (by kernel_rfl)),
  f46 := ⟨Tryz.f147.name, by decide, Tryz.func147.trans (congrArg some (by kernel_rfl))⟩,
  f47 := Tryz.func148.trans (congrArg some (by kernel_rfl)),
  f48 := Tryz.func149.trans (congrArg some (by kernel_rfl)),
  f49 := ⟨Tryz.f150.name, by decide, Tryz.func150.trans (congrArg some (by kernel_rfl))⟩,
  f50 := ⟨Tryz.f151.name, by decide, Tryz.func151.trans (congrArg some (by kernel_rfl))⟩,
  f57 := ⟨Tryz.f168.name, by decide, Tryz.func168.trans (congrArg some (by kernel_rfl))⟩,
  t0 := Tryz.underlying0,
  a0 := Tryz.isAgg0,
  z0 := Tryz.sizeOf0,
  v0 := Tryz.zeroValue0,
  t3 := Tryz.underlying3,
  a3 := Tryz.isAgg3,
  z3 := Tryz.sizeOf3,
  v3 := Tryz.zeroValue3,
  t4 := Tryz.underlying4,
  a4 := Tryz.isAgg4,
  z4 := Tryz.sizeOf4,
  v4 := Tryz.zeroValue4,
  t5 := Tryz.underlying5,
  a5 := Tryz.isAgg5,
  z5 := Tryz.sizeOf5,
  v5 := Tryz.zeroValue5,
  t9 := Tryz.underlying9,
  a9 := Tryz.isAgg9,
  z9 := Tryz.sizeOf9,
  v9 := Tryz.zeroValue9,
  t22 := Tryz.underlying62,
  a22 := Tryz.isAgg62,
  z22 := Tryz.sizeOf62,
  v22 := Tryz.zeroValue62,
  t25 := Tryz.underlying99,
  a25 := Tryz.isAgg99,
  z25 := Tryz.sizeOf99,
  v25 := Tryz.zeroValue99,
  t39 := Tryz.underlying125,
  a39 := Tryz.isAgg125,
  z39 := Tryz.sizeOf125,
  v39 := Tryz.zeroValue125,
  t45 := Tryz.underlying154,
  a45 := Tryz.isAgg154,
  z45 := Tryz.sizeOf154,
  v45 := Tryz.zeroValue154,
  t46 := Tryz.underlying155,
  a46 := Tryz.isAgg155,
  z46 := Tryz.sizeOf155,
  v46 := Tryz.zeroValue155,
  t50 := Tryz.underlying159,
  a50 := Tryz.isAgg159,
  z50 := Tryz.sizeOf159,
  v50 := Tryz.zeroValue159,
  t53 := Tryz.underlying162,
  a53 := Tryz.isAgg162,
  z53 := Tryz.sizeOf162,
  v53 := Tryz.zeroValue162,
  t55 := Tryz.underlying164,
  a55 := Tryz.isAgg164,
  z55 := Tryz.sizeOf164,
  v55 := Tryz.zeroValue164,
  t66 := Tryz.underlying196,
  a66 := Tryz.isAgg196,
  z66 := Tryz.sizeOf196,
  v66 := Tryz.zeroValue196,
  t70 := Tryz.underlying200,
  a70 := Tryz.isAgg200,
  z70 := Tryz.sizeOf200,
  v70 := Tryz.zeroValue200,
  t76 := Tryz.underlying215,
  a76 := Tryz.isAgg215,
  z76 := Tryz.sizeOf215,
  v76 := Tryz.zeroValue215,
  t77 := Tryz.underlying216,
  a77 := Tryz.isAgg216,
  z77 := Tryz.sizeOf216,
  v77 := Tryz.zeroValue216 }
end Go.Proofs
namespace Go.Proofs
open Go.Shelf Go.RowKit Go.Lib Go.Sort Go.Ab
set_option maxRecDepth 100000
set_option maxHeartbeats 1000000 in
theorem Tryz.lessCalls (x y : Int × Int) (W : World) : Calls Tryz.prog 58 #[.agg #[.int .i64 x.1, .int .i64 x.2], .agg #[.int .i64 y.1, .int .i64 y.2]] W fun e w' => e = .returned (.bool (lessH x y)) ∧ ∃ q os', w' = grow (W.drewN q) os' := by
  have hcon : lessH x y = (if x.2 = y.2 then decide (x.1 < y.1) else decide (x.2 < y.2)) := by
    unfold lessH
    by_cases c : x.2 = y.2
    · rw [if_pos c, decide_eq_false (by omega), decide_eq_true c]; rfl
    · rw [if_neg c, decide_eq_false c]; simp
  rw [hcon]
  go_enter Tryz.func58, Tryz.ntmps58
  go_wp2_with fail
  all_goals first
    | (exfalso; simp_all; done)
    | (go_ret; exact ⟨rfl, 0, _, by rw [alloc_eq_grow, alloc_eq_grow, grow_grow]; rfl⟩)
set_option maxHeartbeats 1000000 in
theorem Tryz.orderCalls (x y : Int × Int) (W : World) : Calls Tryz.prog 57 #[.agg #[.int .i64 x.1, .int .i64 x.2], .agg #[.int .i64 y.1, .int .i64 y.2]] W fun e w' => e = .returned (.int .i64 (cmpH x y)) ∧ ∃ q os', w' = grow (W.drewN q) os' := by
  have hcon := fun W' => Tryz.lessCalls x y W'
  unfold cmpH
  generalize lessH x y = r at hcon ⊢
  go_enter Tryz.func57, Tryz.ntmps57
  go_wp2_with (go_at_call 58; refine (hcon _).mono ?_; rintro e w' ⟨rfl, q, os', rfl⟩)
  all_goals first
    | (exfalso; simp_all; done)
    | (go_ret; exact ⟨rfl, q, _, by rw [alloc_eq_grow, alloc_eq_grow, grow_grow]; exact grow_grow (W.drewN q) _ os'⟩)
theorem Tryz.cmpLays (blk off size : Nat) (w : World) : CmpLays Tryz.prog 57 #[] encH 2 cmpH blk off size w := fun _ _ _ _ x y => Tryz.orderCalls x y _
end Go.Proofs
namespace Go.Ab
open Go.Proofs Go.Sort Go.RowKit Go.Shelf
noncomputable section
set_option maxRecDepth 100000
theorem seat_sortsF : SortsFAt PP 56 57 := fun blk off cap d w hH hb hs =>
  AnyQ.slices_SortFunc Tryz.sortFL 2 Tryz.isAgg61 Tryz.sizeOf61 encH (fun _ => rfl) (fun x v hv => by simp [encH] at hv; rcases hv with rfl | rfl <;> rfl) cmpH swoH 57 #[] blk off cap d w (enters_of Tryz.func57 (by kernel_rfl) rfl) (Tryz.cmpLays blk off d.size w) hH hb hs
theorem seat_sortF : PrimAt PP 56 (sortFA 57) := sortF_at (by kernel_rfl) seat_sortsF
end
end Go.Ab
