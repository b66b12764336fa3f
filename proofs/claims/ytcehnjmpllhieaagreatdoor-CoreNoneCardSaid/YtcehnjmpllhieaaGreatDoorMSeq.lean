/- What functions do, said as what the evaluator does. Printed by a program. -/
import Derived.Test.YtcehnjmpllhieaaGreatDoorBeg
import Derived.Test.YtcehnjmpllhieaaGreatDoorEv3
namespace Go.Ab
noncomputable section
open Go.Proofs
set_option maxRecDepth 100000



/-! 100: slices.Sorted[int] -/
abbrev m_slices_Sorted_int_K (K : AV → AH → Prop) : KP := finP PP (resC PP 100) K
def m_slices_Sorted_int (K : AV → AH → Prop) (x0 : AV) (H : AH) : Prop :=
  outP CC H (some (.enter 182 [x0])) fun v1 H1 =>
  outP CC H1 (some (.enter 183 [v1])) fun _v2 H2 =>
  K v1 H2
theorem m_slices_Sorted_int_eq (K : AV → AH → Prop) (a : TE) (H : AH) : codeP PP CC (subC (bodyC PP 100) []) (m_slices_Sorted_int_K K) a H = m_slices_Sorted_int K (a 0) H :=
  by kernel_rfl
theorem m_slices_Sorted_int_ok (x0 : AV) (H : AH) (K : AV → AH → Prop) (h : m_slices_Sorted_int K x0 H) : CC.call 100 [x0] H K :=
  have h1 : funP PP CC 100 [x0] H K = codeP PP CC (subC (bodyC PP 100) []) (m_slices_Sorted_int_K K) (argE [x0]) H := by kernel_rfl
  have h2 : m_slices_Sorted_int K (argE [x0] 0) H = m_slices_Sorted_int K x0 H := by kernel_rfl
  funP_ok (P := PP) (by kernel_rfl) (by kernel_rfl) ((h1.trans ((m_slices_Sorted_int_eq K (argE [x0]) H).trans h2)).mpr h)

/-! 241: slices.Values[[]int,int] -/
abbrev m_slices_Values_int_int_K (K : AV → AH → Prop) : KP := finP PP (resC PP 241) K
def m_slices_Values_int_int (K : AV → AH → Prop) (x0 : AV) (H : AH) : Prop :=
  outP CC H (w_box 69 H x0 none) fun v1 H1 =>
  outP CC H1 (some (.val (.fn (.func 304) [] [v1]) H1)) fun v2 H2 =>
  K v2 H2
theorem m_slices_Values_int_int_eq (K : AV → AH → Prop) (a : TE) (H : AH) : codeP PP CC (subC (bodyC PP 241) []) (m_slices_Values_int_int_K K) a H = m_slices_Values_int_int K (a 0) H :=
  by kernel_rfl
theorem m_slices_Values_int_int_ok (x0 : AV) (H : AH) (K : AV → AH → Prop) (h : m_slices_Values_int_int K x0 H) : CC.call 241 [x0] H K :=
  have h1 : funP PP CC 241 [x0] H K = codeP PP CC (subC (bodyC PP 241) []) (m_slices_Values_int_int_K K) (argE [x0]) H := by kernel_rfl
  have h2 : m_slices_Values_int_int K (argE [x0] 0) H = m_slices_Values_int_int K x0 H := by kernel_rfl
  funP_ok (P := PP) (by kernel_rfl) (by kernel_rfl) ((h1.trans ((m_slices_Values_int_int_eq K (argE [x0]) H).trans h2)).mpr h)

/-! 182: slices.Collect[int] -/
abbrev m_slices_Collect_int_K (K : AV → AH → Prop) : KP := finP PP (resC PP 182) K
def m_slices_Collect_int (K : AV → AH → Prop) (x0 : AV) (H : AH) : Prop :=
  outP CC H (some (.enter 252 [(.slice none 0 0 true), x0])) fun v1 H1 =>
  K v1 H1
theorem m_slices_Collect_int_eq (K : AV → AH → Prop) (a : TE) (H : AH) : codeP PP CC (subC (bodyC PP 182) []) (m_slices_Collect_int_K K) a H = m_slices_Collect_int K (a 0) H :=
  by kernel_rfl
theorem m_slices_Collect_int_ok (x0 : AV) (H : AH) (K : AV → AH → Prop) (h : m_slices_Collect_int K x0 H) : CC.call 182 [x0] H K :=
  have h1 : funP PP CC 182 [x0] H K = codeP PP CC (subC (bodyC PP 182) []) (m_slices_Collect_int_K K) (argE [x0]) H := by kernel_rfl
  have h2 : m_slices_Collect_int K (argE [x0] 0) H = m_slices_Collect_int K x0 H := by kernel_rfl
  funP_ok (P := PP) (by kernel_rfl) (by kernel_rfl) ((h1.trans ((m_slices_Collect_int_eq K (argE [x0]) H).trans h2)).mpr h)

/-! 304: slices.Values[[]int,int]$1 -/
abbrev m_slices_Values_1_int_int_K (K : AV → AH → Prop) : KP := finP PP (resC PP 304) K
abbrev m_slices_Values_1_int_intt_k (K : AV → AH → Prop) : KP := blockP 0 (m_slices_Values_1_int_int_K K)
abbrev m_slices_Values_1_int_inttb_k (K : AV → AH → Prop) (r0 : (AV × AV × AV × AV) → AH → Prop) : KP := exP (fun (a : TE) (H : AH) => r0 (a 0, a 5, a 6, a 7) H) (m_slices_Values_1_int_intt_k K)
def m_slices_Values_1_int_inttbl (K : AV → AH → Prop) (r0 : (AV × AV × AV × AV) → AH → Prop) (x0 x5 x6 x7 : AV) (H : AH) : Prop :=
  outP CC H (w_int .lss H x7 x6) fun v1 H1 =>
  condP v1
  (outP CC H1 (w_indexAddr (.sl 1) H1 x5 x7) fun v2 H2 =>
  outP CC H2 (w_load none H2 v2) fun v3 H3 =>
  outP CC H3 (callV [v3] x0) fun v4 H4 =>
  outP CC H4 (w_un .not H4 v4) fun v5 H5 =>
  condP v5
  (K (.tup []) H5)
  (outP CC H5 (w_int .add H5 x7 (.int .i64 1)) fun v6 H6 =>
  r0 (x0, x5, x6, v6) H6))
  (K (.tup []) H1)
theorem m_slices_Values_1_int_inttbl_eq (K : AV → AH → Prop) (r0 : (AV × AV × AV × AV) → AH → Prop) (a : TE) (H : AH) : codeP PP CC (subC (bodyC PP 304) [1, 0, 0]) (m_slices_Values_1_int_inttb_k K r0) a H = m_slices_Values_1_int_inttbl K r0 (a 0) (a 5) (a 6) (a 7) H :=
  by kernel_rfl
def m_slices_Values_1_int_inttb (K : AV → AH → Prop) (x0 x5 x6 x7 : AV) (H : AH) : Prop :=
  loopP (fun (r0 : (AV × AV × AV × AV) → AH → Prop) (s : (AV × AV × AV × AV)) (H : AH) => m_slices_Values_1_int_inttbl K r0 s.1 s.2.1 s.2.2.1 s.2.2.2 H) (x0, x5, x6, x7) H
theorem m_slices_Values_1_int_inttb_eq (K : AV → AH → Prop) (a : TE) (H : AH) : codeP PP CC (subC (bodyC PP 304) [1, 0]) (m_slices_Values_1_int_intt_k K) a H = m_slices_Values_1_int_inttb K (a 0) (a 5) (a 6) (a 7) H :=
  have h1 : codeP PP CC (subC (bodyC PP 304) [1, 0]) (m_slices_Values_1_int_intt_k K) a H = loopP (fun (rec : KE) => codeP PP CC (subC (bodyC PP 304) [1, 0, 0]) (exP rec (m_slices_Values_1_int_intt_k K))) a H := by kernel_rfl
  have h2 := loopP_iso (F := fun (rec : KE) => codeP PP CC (subC (bodyC PP 304) [1, 0, 0]) (exP rec (m_slices_Values_1_int_intt_k K))) (S := (AV × AV × AV × AV)) (fun a => (a 0, a 5, a 6, a 7)) (fun (r0 : (AV × AV × AV × AV) → AH → Prop) (s : (AV × AV × AV × AV)) (H : AH) => m_slices_Values_1_int_inttbl K r0 s.1 s.2.1 s.2.2.1 s.2.2.2 H) (fun (r0 : (AV × AV × AV × AV) → AH → Prop) (a : TE) (H : AH) => (show codeP PP CC (subC (bodyC PP 304) [1, 0, 0]) (exP (fun (a : TE) (H : AH) => r0 (a 0, a 5, a 6, a 7) H) (m_slices_Values_1_int_intt_k K)) a H = codeP PP CC (subC (bodyC PP 304) [1, 0, 0]) (m_slices_Values_1_int_inttb_k K r0) a H from by kernel_rfl).trans (m_slices_Values_1_int_inttbl_eq K r0 a H)) a H
  h1.trans h2
theorem m_slices_Values_1_int_intt_eq (K : AV → AH → Prop) (a : TE) (H : AH) : codeP PP CC (subC (bodyC PP 304) [1]) (m_slices_Values_1_int_int_K K) a H = m_slices_Values_1_int_inttb K (a 0) (a 5) (a 6) (a 7) H :=
  have h1 : codeP PP CC (subC (bodyC PP 304) [1]) (m_slices_Values_1_int_int_K K) a H = codeP PP CC (subC (bodyC PP 304) [1, 0]) (m_slices_Values_1_int_intt_k K) a H := by kernel_rfl
  h1.trans (m_slices_Values_1_int_inttb_eq K a H)
abbrev m_slices_Values_1_int_int_k (K : AV → AH → Prop) : KP := exP (fun (a : TE) (H : AH) => m_slices_Values_1_int_inttb K (a 0) (a 5) (a 6) (a 7) H) (m_slices_Values_1_int_int_K K)
def m_slices_Values_1_int_int (K : AV → AH → Prop) (x0 x1 : AV) (H : AH) : Prop :=
  outP CC H (w_load none H x1) fun v1 H1 =>
  outP CC H1 (w_len PP 69 H1 v1) fun v2 H2 =>
  m_slices_Values_1_int_inttb K x0 v1 v2 (.int .i64 0) H2
theorem m_slices_Values_1_int_int_eq (K : AV → AH → Prop) (a : TE) (H : AH) : codeP PP CC (subC (bodyC PP 304) []) (m_slices_Values_1_int_int_K K) a H = m_slices_Values_1_int_int K (a 0) (a 1) H :=
  have h1 : codeP PP CC (subC (bodyC PP 304) []) (m_slices_Values_1_int_int_K K) a H = codeP PP CC (subC (bodyC PP 304) [0]) (exP (codeP PP CC (subC (bodyC PP 304) [1]) (m_slices_Values_1_int_int_K K)) (m_slices_Values_1_int_int_K K)) a H := by kernel_rfl
  have h2 : codeP PP CC (subC (bodyC PP 304) [0]) (exP (codeP PP CC (subC (bodyC PP 304) [1]) (m_slices_Values_1_int_int_K K)) (m_slices_Values_1_int_int_K K)) a H = codeP PP CC (subC (bodyC PP 304) [0]) (exP (fun (a : TE) (H : AH) => m_slices_Values_1_int_inttb K (a 0) (a 5) (a 6) (a 7) H) (m_slices_Values_1_int_int_K K)) a H := congrArg (fun k : KE => codeP PP CC (subC (bodyC PP 304) [0]) (exP k (m_slices_Values_1_int_int_K K)) a H) (funext fun a => funext fun H => m_slices_Values_1_int_intt_eq K a H)
  have h2b : codeP PP CC (subC (bodyC PP 304) [0]) (exP (fun (a : TE) (H : AH) => m_slices_Values_1_int_inttb K (a 0) (a 5) (a 6) (a 7) H) (m_slices_Values_1_int_int_K K)) a H = codeP PP CC (subC (bodyC PP 304) [0]) (m_slices_Values_1_int_int_k K) a H := by kernel_rfl
  have h3 : codeP PP CC (subC (bodyC PP 304) [0]) (m_slices_Values_1_int_int_k K) a H = m_slices_Values_1_int_int K (a 0) (a 1) H := by kernel_rfl
  ((h1.trans h2).trans h2b).trans h3
theorem m_slices_Values_1_int_int_ok (x0 x1 : AV) (H : AH) (K : AV → AH → Prop) (h : m_slices_Values_1_int_int K x0 x1 H) : CC.call 304 [x0, x1] H K :=
  have h1 : funP PP CC 304 [x0, x1] H K = codeP PP CC (subC (bodyC PP 304) []) (m_slices_Values_1_int_int_K K) (argE [x0, x1]) H := by kernel_rfl
  have h2 : m_slices_Values_1_int_int K (argE [x0, x1] 0) (argE [x0, x1] 1) H = m_slices_Values_1_int_int K x0 x1 H := by kernel_rfl
  funP_ok (P := PP) (by kernel_rfl) (by kernel_rfl) ((h1.trans ((m_slices_Values_1_int_int_eq K (argE [x0, x1]) H).trans h2)).mpr h)

end
end Go.Ab
