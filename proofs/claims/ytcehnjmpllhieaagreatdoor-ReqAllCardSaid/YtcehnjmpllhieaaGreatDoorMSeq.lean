/- What functions do, said as what the evaluator does. Printed by a program. -/
import Derived.Test.YtcehnjmpllhieaaGreatDoorBeg
import Derived.Test.YtcehnjmpllhieaaGreatDoorMir
namespace Go.Ab
noncomputable section
open Go.Proofs
set_option maxRecDepth 100000



/-! 100: slices.Sorted[int] -/
abbrev b100 (p : List Nat) (k : KP) : KE := codeP PP CC (subC (bodyC PP 100) p) k
abbrev k100 (K : KT) : KP := finP PP (resC PP 100) K
def m_slices_Sorted_int (K : KT) (x0 : AV) (H : AH) : Prop :=
  outP CC H (some (.enter 182 [x0])) fun v1 H1 =>
  outP CC H1 (some (.enter 183 [v1])) fun _v2 H2 =>
  K v1 H2
theorem e100_ (K : KT) (a : TE) (H : AH) : b100 [] (k100 K) a H = m_slices_Sorted_int K (a 0) H :=
  by kernel_rfl
theorem m_slices_Sorted_int_ok (x0 : AV) (H : AH) (K : KT) (h : m_slices_Sorted_int K x0 H) : CC.call 100 [x0] H K :=
  okM (P := PP) (by kernel_rfl) (by kernel_rfl) (by kernel_rfl) ((e100_ K (argE [x0]) H).trans (by kernel_rfl)) h

/-! 241: slices.Values[[]int,int] -/
abbrev b241 (p : List Nat) (k : KP) : KE := codeP PP CC (subC (bodyC PP 241) p) k
abbrev k241 (K : KT) : KP := finP PP (resC PP 241) K
def m_slices_Values_int_int (K : KT) (x0 : AV) (H : AH) : Prop :=
  outP CC H (w_box 69 H x0 none) fun v1 H1 =>
  outP CC H1 (some (.val (.fn (.func 304) [] [v1]) H1)) fun v2 H2 =>
  K v2 H2
theorem e241_ (K : KT) (a : TE) (H : AH) : b241 [] (k241 K) a H = m_slices_Values_int_int K (a 0) H :=
  by kernel_rfl
theorem m_slices_Values_int_int_ok (x0 : AV) (H : AH) (K : KT) (h : m_slices_Values_int_int K x0 H) : CC.call 241 [x0] H K :=
  okM (P := PP) (by kernel_rfl) (by kernel_rfl) (by kernel_rfl) ((e241_ K (argE [x0]) H).trans (by kernel_rfl)) h

/-! 182: slices.Collect[int] -/
abbrev b182 (p : List Nat) (k : KP) : KE := codeP PP CC (subC (bodyC PP 182) p) k
abbrev k182 (K : KT) : KP := finP PP (resC PP 182) K
def m_slices_Collect_int (K : KT) (x0 : AV) (H : AH) : Prop :=
  outP CC H (some (.enter 252 [(.slice none 0 0 true), x0])) fun v1 H1 =>
  K v1 H1
theorem e182_ (K : KT) (a : TE) (H : AH) : b182 [] (k182 K) a H = m_slices_Collect_int K (a 0) H :=
  by kernel_rfl
theorem m_slices_Collect_int_ok (x0 : AV) (H : AH) (K : KT) (h : m_slices_Collect_int K x0 H) : CC.call 182 [x0] H K :=
  okM (P := PP) (by kernel_rfl) (by kernel_rfl) (by kernel_rfl) ((e182_ K (argE [x0]) H).trans (by kernel_rfl)) h

/-! 304: slices.Values[[]int,int]$1 -/
abbrev b304 (p : List Nat) (k : KP) : KE := codeP PP CC (subC (bodyC PP 304) p) k
abbrev k304 (K : KT) : KP := finP PP (resC PP 304) K
abbrev k304_t (K : KT) : KP := blockP 0 (k304 K)
abbrev k304_tb (K : KT) (r0 : (AV × AV × AV × AV) → AH → Prop) : KP := exP (fun (a : TE) (H : AH) => r0 (a 0, a 5, a 6, a 7) H) (k304_t K)
def m_slices_Values_1_int_inttbl (K : KT) (r0 : (AV × AV × AV × AV) → AH → Prop) (x0 x5 x6 x7 : AV) (H : AH) : Prop :=
  outP CC H (w_int .lss H x7 x6) fun v1 H1 =>
  condP v1
  (outP CC H1 (w_indexAddr (.sl 1) H1 x5 x7) fun v2 H2 =>
  outP CC H2 (w_load none H2 v2) fun v3 H3 =>
  outP CC H3 (callV [v3] x0) fun v4 H4 =>
  outP CC H4 (w_un .not H4 v4) fun v5 H5 =>
  condP v5
  (K (.tup []) H5)
  (outP CC H5 (w_int .add H5 x7 (.int .i64 1)) fun v6 H6 =>
  r0 (x0, x5, x6, v6) H6))
  (K (.tup []) H1)
theorem e304_tbl (K : KT) (r0 : (AV × AV × AV × AV) → AH → Prop) (a : TE) (H : AH) : b304 [1,0,0] (k304_tb K r0) a H = m_slices_Values_1_int_inttbl K r0 (a 0) (a 5) (a 6) (a 7) H :=
  by kernel_rfl
def m_slices_Values_1_int_inttb (K : KT) (x0 x5 x6 x7 : AV) (H : AH) : Prop :=
  loopP (fun (r0 : (AV × AV × AV × AV) → AH → Prop) (s : (AV × AV × AV × AV)) (H : AH) => m_slices_Values_1_int_inttbl K r0 s.1 s.2.1 s.2.2.1 s.2.2.2 H) (x0, x5, x6, x7) H
theorem e304_tb (K : KT) (a : TE) (H : AH) : b304 [1,0] (k304_t K) a H = m_slices_Values_1_int_inttb K (a 0) (a 5) (a 6) (a 7) H :=
  eLoop (S := (AV × AV × AV × AV)) (fun a => (a 0, a 5, a 6, a 7)) (fun r0 s H => m_slices_Values_1_int_inttbl K r0 s.1 s.2.1 s.2.2.1 s.2.2.2 H) (by kernel_rfl) (e304_tbl K)
theorem e304_t (K : KT) (a : TE) (H : AH) : b304 [1] (k304 K) a H = m_slices_Values_1_int_inttb K (a 0) (a 5) (a 6) (a 7) H :=
  eBlock (by kernel_rfl) (e304_tb K a H)
abbrev k304_ (K : KT) : KP := exP (fun (a : TE) (H : AH) => m_slices_Values_1_int_inttb K (a 0) (a 5) (a 6) (a 7) H) (k304 K)
def m_slices_Values_1_int_int (K : KT) (x0 x1 : AV) (H : AH) : Prop :=
  outP CC H (w_load none H x1) fun v1 H1 =>
  outP CC H1 (w_len PP 69 H1 v1) fun v2 H2 =>
  m_slices_Values_1_int_inttb K x0 v1 v2 (.int .i64 0) H2
theorem e304_ (K : KT) (a : TE) (H : AH) : b304 [] (k304 K) a H = m_slices_Values_1_int_int K (a 0) (a 1) H :=
  eSeq (ca := subC (bodyC PP 304) [0]) (by kernel_rfl) (e304_t K) (by kernel_rfl)
theorem m_slices_Values_1_int_int_ok (x0 x1 : AV) (H : AH) (K : KT) (h : m_slices_Values_1_int_int K x0 x1 H) : CC.call 304 [x0, x1] H K :=
  okM (P := PP) (by kernel_rfl) (by kernel_rfl) (by kernel_rfl) ((e304_ K (argE [x0, x1]) H).trans (by kernel_rfl)) h

end
end Go.Ab
