/- What functions do, said as what the evaluator does. Printed by a program. -/
import Derived.Test.YtoafnnphjbdedaaGreatDoorBeg
import Derived.Test.YtoafnnphjbdedaaGreatDoorEv3
namespace Go.Ab
noncomputable section
open Go.Proofs
set_option maxRecDepth 100000



/-! 37: fieldfare/quant.Bound -/
abbrev m_quant_Bound_K (K : AV → AH → Prop) : KP := finP PP (resC PP 37) K
def m_quant_Bound (K : AV → AH → Prop) (x0 : AV) (H : AH) : Prop :=
  outP CC H (w_box 65 H x0 none) fun v1 H1 =>
  outP CC H1 (w_load (some 2) H1 v1) fun v2 H2 =>
  outP CC H2 (some (.enter 75 [v2])) fun v3 H3 =>
  outP CC H3 (w_un .not H3 v3) fun v4 H4 =>
  guardP (boolIs false v4) H4 (outP CC H4 (w_fieldAddr 1 H4 v1)) fun v5 H5 =>
  guardP (boolIs false v4) H5 (outP CC H5 (w_load none H5 v5)) fun v6 H6 =>
  guardP (boolIs false v4) H6 (outP CC H6 (w_len PP 27 H6 v6)) fun v7 H7 =>
  guardP (boolIs false v4) H7 (outP CC H7 (w_int .eql H7 v7 (.int .i64 0))) fun v8 H8 =>
  outP CC H8 (w_pick H8 v4 (.bool true) v8) fun v9 H9 =>
  condP v9
  (K (.int .i32 0) H9)
  (outP CC H9 (w_fieldAddr 1 H9 v1) fun v10 H10 =>
  outP CC H10 (w_load none H10 v10) fun v11 H11 =>
  outP CC H11 (some (.enter 76 [v11])) fun v12 H12 =>
  outP CC H12 (w_conv (.int .i64) H12 v12 none) fun v13 H13 =>
  outP CC H13 (w_int .add H13 v13 (.int .i64 1)) fun v14 H14 =>
  outP CC H14 (w_int .quo H14 v14 (.int .i64 2)) fun v15 H15 =>
  outP CC H15 (w_conv (.int .i32) H15 v15 none) fun v16 H16 =>
  K v16 H16)
theorem m_quant_Bound_eq (K : AV → AH → Prop) (a : TE) (H : AH) : codeP PP CC (subC (bodyC PP 37) []) (m_quant_Bound_K K) a H = m_quant_Bound K (a 0) H :=
  by kernel_rfl
theorem m_quant_Bound_ok (x0 : AV) (H : AH) (K : AV → AH → Prop) (h : m_quant_Bound K x0 H) : CC.call 37 [x0] H K :=
  have h1 : funP PP CC 37 [x0] H K = codeP PP CC (subC (bodyC PP 37) []) (m_quant_Bound_K K) (argE [x0]) H := by kernel_rfl
  have h2 : m_quant_Bound K (argE [x0] 0) H = m_quant_Bound K x0 H := by kernel_rfl
  funP_ok (P := PP) (by kernel_rfl) (by kernel_rfl) ((h1.trans ((m_quant_Bound_eq K (argE [x0]) H).trans h2)).mpr h)

/-! 38: (fieldfare/fieldfareref1.Book).Bound -/
abbrev m_fieldfareref1_Book_Bound_K (K : AV → AH → Prop) : KP := finP PP (resC PP 38) K
abbrev m_fieldfareref1_Book_Boundttt_k (K : AV → AH → Prop) : KP := exP (codeP PP CC (subC (bodyC PP 38) [1, 1, 1, 1]) (m_fieldfareref1_Book_Bound_K K)) (m_fieldfareref1_Book_Bound_K K)
abbrev m_fieldfareref1_Book_Boundtttht_k (K : AV → AH → Prop) : KP := blockP 0 (m_fieldfareref1_Book_Boundttt_k K)
abbrev m_fieldfareref1_Book_Boundttthtb_k (K : AV → AH → Prop) (r0 : (AV × AV × AV × AV) → AH → Prop) : KP := exP (fun (a : TE) (H : AH) => r0 (a 1, a 3, a 10, a 11) H) (m_fieldfareref1_Book_Boundtttht_k K)
def m_fieldfareref1_Book_Boundttthtbl (K : AV → AH → Prop) (r0 : (AV × AV × AV × AV) → AH → Prop) (x1 x3 x10 x11 : AV) (H : AH) : Prop :=
  outP CC H (w_int .lss H x11 x10) fun v1 H1 =>
  condP v1
  (outP CC H1 (w_fieldAddr 1 H1 x1) fun v2 H2 =>
  outP CC H2 (w_load none H2 v2) fun v3 H3 =>
  outP CC H3 (w_indexAddr (.sl 1) H3 v3 x11) fun v4 H4 =>
  outP CC H4 (w_load none H4 v4) fun v5 H5 =>
  outP CC H5 (w_conv (.int .i64) H5 v5 none) fun v6 H6 =>
  outP CC H6 (w_int .add H6 v6 (.int .i64 1)) fun v7 H7 =>
  outP CC H7 (w_int .quo H7 v7 (.int .i64 2)) fun v8 H8 =>
  outP CC H8 (w_max2 H8 x3 v8) fun v9 H9 =>
  outP CC H9 (w_int .add H9 x11 (.int .i64 1)) fun v10 H10 =>
  r0 (x1, v9, x10, v10) H10)
  (outP CC H1 (w_conv (.int .i32) H1 x3 none) fun v11 H11 =>
  K v11 H11)
theorem m_fieldfareref1_Book_Boundttthtbl_eq (K : AV → AH → Prop) (r0 : (AV × AV × AV × AV) → AH → Prop) (a : TE) (H : AH) : codeP PP CC (subC (bodyC PP 38) [1, 1, 1, 0, 1, 0, 0]) (m_fieldfareref1_Book_Boundttthtb_k K r0) a H = m_fieldfareref1_Book_Boundttthtbl K r0 (a 1) (a 3) (a 10) (a 11) H :=
  by kernel_rfl
def m_fieldfareref1_Book_Boundttthtb (K : AV → AH → Prop) (x1 x3 x10 x11 : AV) (H : AH) : Prop :=
  loopP (fun (r0 : (AV × AV × AV × AV) → AH → Prop) (s : (AV × AV × AV × AV)) (H : AH) => m_fieldfareref1_Book_Boundttthtbl K r0 s.1 s.2.1 s.2.2.1 s.2.2.2 H) (x1, x3, x10, x11) H
theorem m_fieldfareref1_Book_Boundttthtb_eq (K : AV → AH → Prop) (a : TE) (H : AH) : codeP PP CC (subC (bodyC PP 38) [1, 1, 1, 0, 1, 0]) (m_fieldfareref1_Book_Boundtttht_k K) a H = m_fieldfareref1_Book_Boundttthtb K (a 1) (a 3) (a 10) (a 11) H :=
  have h1 : codeP PP CC (subC (bodyC PP 38) [1, 1, 1, 0, 1, 0]) (m_fieldfareref1_Book_Boundtttht_k K) a H = loopP (fun (rec : KE) => codeP PP CC (subC (bodyC PP 38) [1, 1, 1, 0, 1, 0, 0]) (exP rec (m_fieldfareref1_Book_Boundtttht_k K))) a H := by kernel_rfl
  have h2 := loopP_iso (F := fun (rec : KE) => codeP PP CC (subC (bodyC PP 38) [1, 1, 1, 0, 1, 0, 0]) (exP rec (m_fieldfareref1_Book_Boundtttht_k K))) (S := (AV × AV × AV × AV)) (fun a => (a 1, a 3, a 10, a 11)) (fun (r0 : (AV × AV × AV × AV) → AH → Prop) (s : (AV × AV × AV × AV)) (H : AH) => m_fieldfareref1_Book_Boundttthtbl K r0 s.1 s.2.1 s.2.2.1 s.2.2.2 H) (fun (r0 : (AV × AV × AV × AV) → AH → Prop) (a : TE) (H : AH) => (show codeP PP CC (subC (bodyC PP 38) [1, 1, 1, 0, 1, 0, 0]) (exP (fun (a : TE) (H : AH) => r0 (a 1, a 3, a 10, a 11) H) (m_fieldfareref1_Book_Boundtttht_k K)) a H = codeP PP CC (subC (bodyC PP 38) [1, 1, 1, 0, 1, 0, 0]) (m_fieldfareref1_Book_Boundttthtb_k K r0) a H from by kernel_rfl).trans (m_fieldfareref1_Book_Boundttthtbl_eq K r0 a H)) a H
  h1.trans h2
theorem m_fieldfareref1_Book_Boundtttht_eq (K : AV → AH → Prop) (a : TE) (H : AH) : codeP PP CC (subC (bodyC PP 38) [1, 1, 1, 0, 1]) (m_fieldfareref1_Book_Boundttt_k K) a H = m_fieldfareref1_Book_Boundttthtb K (a 1) (a 3) (a 10) (a 11) H :=
  have h1 : codeP PP CC (subC (bodyC PP 38) [1, 1, 1, 0, 1]) (m_fieldfareref1_Book_Boundttt_k K) a H = codeP PP CC (subC (bodyC PP 38) [1, 1, 1, 0, 1, 0]) (m_fieldfareref1_Book_Boundtttht_k K) a H := by kernel_rfl
  h1.trans (m_fieldfareref1_Book_Boundttthtb_eq K a H)
abbrev m_fieldfareref1_Book_Boundttth_k (K : AV → AH → Prop) : KP := exP (fun (a : TE) (H : AH) => m_fieldfareref1_Book_Boundttthtb K (a 1) (a 3) (a 10) (a 11) H) (m_fieldfareref1_Book_Boundttt_k K)
def m_fieldfareref1_Book_Boundttth (K : AV → AH → Prop) (x1 x3 : AV) (H : AH) : Prop :=
  outP CC H (w_fieldAddr 1 H x1) fun v1 H1 =>
  outP CC H1 (w_load none H1 v1) fun v2 H2 =>
  outP CC H2 (w_len PP 27 H2 v2) fun v3 H3 =>
  m_fieldfareref1_Book_Boundttthtb K x1 x3 v3 (.int .i64 0) H3
theorem m_fieldfareref1_Book_Boundttth_eq (K : AV → AH → Prop) (a : TE) (H : AH) : codeP PP CC (subC (bodyC PP 38) [1, 1, 1, 0]) (m_fieldfareref1_Book_Boundttt_k K) a H = m_fieldfareref1_Book_Boundttth K (a 1) (a 3) H :=
  have h1 : codeP PP CC (subC (bodyC PP 38) [1, 1, 1, 0]) (m_fieldfareref1_Book_Boundttt_k K) a H = codeP PP CC (subC (bodyC PP 38) [1, 1, 1, 0, 0]) (exP (codeP PP CC (subC (bodyC PP 38) [1, 1, 1, 0, 1]) (m_fieldfareref1_Book_Boundttt_k K)) (m_fieldfareref1_Book_Boundttt_k K)) a H := by kernel_rfl
  have h2 : codeP PP CC (subC (bodyC PP 38) [1, 1, 1, 0, 0]) (exP (codeP PP CC (subC (bodyC PP 38) [1, 1, 1, 0, 1]) (m_fieldfareref1_Book_Boundttt_k K)) (m_fieldfareref1_Book_Boundttt_k K)) a H = codeP PP CC (subC (bodyC PP 38) [1, 1, 1, 0, 0]) (exP (fun (a : TE) (H : AH) => m_fieldfareref1_Book_Boundttthtb K (a 1) (a 3) (a 10) (a 11) H) (m_fieldfareref1_Book_Boundttt_k K)) a H := congrArg (fun k : KE => codeP PP CC (subC (bodyC PP 38) [1, 1, 1, 0, 0]) (exP k (m_fieldfareref1_Book_Boundttt_k K)) a H) (funext fun a => funext fun H => m_fieldfareref1_Book_Boundtttht_eq K a H)
  have h2b : codeP PP CC (subC (bodyC PP 38) [1, 1, 1, 0, 0]) (exP (fun (a : TE) (H : AH) => m_fieldfareref1_Book_Boundttthtb K (a 1) (a 3) (a 10) (a 11) H) (m_fieldfareref1_Book_Boundttt_k K)) a H = codeP PP CC (subC (bodyC PP 38) [1, 1, 1, 0, 0]) (m_fieldfareref1_Book_Boundttth_k K) a H := by kernel_rfl
  have h3 : codeP PP CC (subC (bodyC PP 38) [1, 1, 1, 0, 0]) (m_fieldfareref1_Book_Boundttth_k K) a H = m_fieldfareref1_Book_Boundttth K (a 1) (a 3) H := by kernel_rfl
  ((h1.trans h2).trans h2b).trans h3
theorem m_fieldfareref1_Book_Boundttt_eq (K : AV → AH → Prop) (a : TE) (H : AH) : codeP PP CC (subC (bodyC PP 38) [1, 1, 1]) (m_fieldfareref1_Book_Bound_K K) a H = m_fieldfareref1_Book_Boundttth K (a 1) (a 3) H :=
  have h1 : codeP PP CC (subC (bodyC PP 38) [1, 1, 1]) (m_fieldfareref1_Book_Bound_K K) a H = codeP PP CC (subC (bodyC PP 38) [1, 1, 1, 0]) (m_fieldfareref1_Book_Boundttt_k K) a H := by kernel_rfl
  h1.trans (m_fieldfareref1_Book_Boundttth_eq K a H)
abbrev m_fieldfareref1_Book_Boundtt_k (K : AV → AH → Prop) : KP := exP (fun (a : TE) (H : AH) => m_fieldfareref1_Book_Boundttth K (a 1) (a 3) H) (m_fieldfareref1_Book_Bound_K K)
def m_fieldfareref1_Book_Boundtt (K : AV → AH → Prop) (x1 x3 : AV) (H : AH) : Prop :=
  outP CC H (w_load (some 2) H x1) fun v1 H1 =>
  outP CC H1 (some (.enter 77 [v1])) fun v2 H2 =>
  outP CC H2 (w_un .not H2 v2) fun v3 H3 =>
  condP v3
  (K (.int .i32 0) H3)
  (m_fieldfareref1_Book_Boundttth K x1 x3 H3)
theorem m_fieldfareref1_Book_Boundtt_eq (K : AV → AH → Prop) (a : TE) (H : AH) : codeP PP CC (subC (bodyC PP 38) [1, 1]) (m_fieldfareref1_Book_Bound_K K) a H = m_fieldfareref1_Book_Boundtt K (a 1) (a 3) H :=
  have h1 : codeP PP CC (subC (bodyC PP 38) [1, 1]) (m_fieldfareref1_Book_Bound_K K) a H = codeP PP CC (subC (bodyC PP 38) [1, 1, 0]) (exP (codeP PP CC (subC (bodyC PP 38) [1, 1, 1]) (m_fieldfareref1_Book_Bound_K K)) (m_fieldfareref1_Book_Bound_K K)) a H := by kernel_rfl
  have h2 : codeP PP CC (subC (bodyC PP 38) [1, 1, 0]) (exP (codeP PP CC (subC (bodyC PP 38) [1, 1, 1]) (m_fieldfareref1_Book_Bound_K K)) (m_fieldfareref1_Book_Bound_K K)) a H = codeP PP CC (subC (bodyC PP 38) [1, 1, 0]) (exP (fun (a : TE) (H : AH) => m_fieldfareref1_Book_Boundttth K (a 1) (a 3) H) (m_fieldfareref1_Book_Bound_K K)) a H := congrArg (fun k : KE => codeP PP CC (subC (bodyC PP 38) [1, 1, 0]) (exP k (m_fieldfareref1_Book_Bound_K K)) a H) (funext fun a => funext fun H => m_fieldfareref1_Book_Boundttt_eq K a H)
  have h2b : codeP PP CC (subC (bodyC PP 38) [1, 1, 0]) (exP (fun (a : TE) (H : AH) => m_fieldfareref1_Book_Boundttth K (a 1) (a 3) H) (m_fieldfareref1_Book_Bound_K K)) a H = codeP PP CC (subC (bodyC PP 38) [1, 1, 0]) (m_fieldfareref1_Book_Boundtt_k K) a H := by kernel_rfl
  have h3 : codeP PP CC (subC (bodyC PP 38) [1, 1, 0]) (m_fieldfareref1_Book_Boundtt_k K) a H = m_fieldfareref1_Book_Boundtt K (a 1) (a 3) H := by kernel_rfl
  ((h1.trans h2).trans h2b).trans h3
abbrev m_fieldfareref1_Book_Boundt_k (K : AV → AH → Prop) : KP := exP (fun (a : TE) (H : AH) => m_fieldfareref1_Book_Boundtt K (a 1) (a 3) H) (m_fieldfareref1_Book_Bound_K K)
def m_fieldfareref1_Book_Boundt (K : AV → AH → Prop) (x1 : AV) (H : AH) : Prop :=
  m_fieldfareref1_Book_Boundtt K x1 (.int .i64 0) H
theorem m_fieldfareref1_Book_Boundt_eq (K : AV → AH → Prop) (a : TE) (H : AH) : codeP PP CC (subC (bodyC PP 38) [1]) (m_fieldfareref1_Book_Bound_K K) a H = m_fieldfareref1_Book_Boundt K (a 1) H :=
  have h1 : codeP PP CC (subC (bodyC PP 38) [1]) (m_fieldfareref1_Book_Bound_K K) a H = codeP PP CC (subC (bodyC PP 38) [1, 0]) (exP (codeP PP CC (subC (bodyC PP 38) [1, 1]) (m_fieldfareref1_Book_Bound_K K)) (m_fieldfareref1_Book_Bound_K K)) a H := by kernel_rfl
  have h2 : codeP PP CC (subC (bodyC PP 38) [1, 0]) (exP (codeP PP CC (subC (bodyC PP 38) [1, 1]) (m_fieldfareref1_Book_Bound_K K)) (m_fieldfareref1_Book_Bound_K K)) a H = codeP PP CC (subC (bodyC PP 38) [1, 0]) (exP (fun (a : TE) (H : AH) => m_fieldfareref1_Book_Boundtt K (a 1) (a 3) H) (m_fieldfareref1_Book_Bound_K K)) a H := congrArg (fun k : KE => codeP PP CC (subC (bodyC PP 38) [1, 0]) (exP k (m_fieldfareref1_Book_Bound_K K)) a H) (funext fun a => funext fun H => m_fieldfareref1_Book_Boundtt_eq K a H)
  have h2b : codeP PP CC (subC (bodyC PP 38) [1, 0]) (exP (fun (a : TE) (H : AH) => m_fieldfareref1_Book_Boundtt K (a 1) (a 3) H) (m_fieldfareref1_Book_Bound_K K)) a H = codeP PP CC (subC (bodyC PP 38) [1, 0]) (m_fieldfareref1_Book_Boundt_k K) a H := by kernel_rfl
  have h3 : codeP PP CC (subC (bodyC PP 38) [1, 0]) (m_fieldfareref1_Book_Boundt_k K) a H = m_fieldfareref1_Book_Boundt K (a 1) H := by kernel_rfl
  ((h1.trans h2).trans h2b).trans h3
abbrev m_fieldfareref1_Book_Bound_k (K : AV → AH → Prop) : KP := exP (fun (a : TE) (H : AH) => m_fieldfareref1_Book_Boundt K (a 1) H) (m_fieldfareref1_Book_Bound_K K)
def m_fieldfareref1_Book_Bound (K : AV → AH → Prop) (x0 : AV) (H : AH) : Prop :=
  outP CC H (w_box 67 H x0 none) fun v1 H1 =>
  m_fieldfareref1_Book_Boundt K v1 H1
theorem m_fieldfareref1_Book_Bound_eq (K : AV → AH → Prop) (a : TE) (H : AH) : codeP PP CC (subC (bodyC PP 38) []) (m_fieldfareref1_Book_Bound_K K) a H = m_fieldfareref1_Book_Bound K (a 0) H :=
  have h1 : codeP PP CC (subC (bodyC PP 38) []) (m_fieldfareref1_Book_Bound_K K) a H = codeP PP CC (subC (bodyC PP 38) [0]) (exP (codeP PP CC (subC (bodyC PP 38) [1]) (m_fieldfareref1_Book_Bound_K K)) (m_fieldfareref1_Book_Bound_K K)) a H := by kernel_rfl
  have h2 : codeP PP CC (subC (bodyC PP 38) [0]) (exP (codeP PP CC (subC (bodyC PP 38) [1]) (m_fieldfareref1_Book_Bound_K K)) (m_fieldfareref1_Book_Bound_K K)) a H = codeP PP CC (subC (bodyC PP 38) [0]) (exP (fun (a : TE) (H : AH) => m_fieldfareref1_Book_Boundt K (a 1) H) (m_fieldfareref1_Book_Bound_K K)) a H := congrArg (fun k : KE => codeP PP CC (subC (bodyC PP 38) [0]) (exP k (m_fieldfareref1_Book_Bound_K K)) a H) (funext fun a => funext fun H => m_fieldfareref1_Book_Boundt_eq K a H)
  have h2b : codeP PP CC (subC (bodyC PP 38) [0]) (exP (fun (a : TE) (H : AH) => m_fieldfareref1_Book_Boundt K (a 1) H) (m_fieldfareref1_Book_Bound_K K)) a H = codeP PP CC (subC (bodyC PP 38) [0]) (m_fieldfareref1_Book_Bound_k K) a H := by kernel_rfl
  have h3 : codeP PP CC (subC (bodyC PP 38) [0]) (m_fieldfareref1_Book_Bound_k K) a H = m_fieldfareref1_Book_Bound K (a 0) H := by kernel_rfl
  ((h1.trans h2).trans h2b).trans h3
theorem m_fieldfareref1_Book_Bound_ok (x0 : AV) (H : AH) (K : AV → AH → Prop) (h : m_fieldfareref1_Book_Bound K x0 H) : CC.call 38 [x0] H K :=
  have h1 : funP PP CC 38 [x0] H K = codeP PP CC (subC (bodyC PP 38) []) (m_fieldfareref1_Book_Bound_K K) (argE [x0]) H := by kernel_rfl
  have h2 : m_fieldfareref1_Book_Bound K (argE [x0] 0) H = m_fieldfareref1_Book_Bound K x0 H := by kernel_rfl
  funP_ok (P := PP) (by kernel_rfl) (by kernel_rfl) ((h1.trans ((m_fieldfareref1_Book_Bound_eq K (argE [x0]) H).trans h2)).mpr h)

/-! 39: fieldfare/quant.Code -/
abbrev m_quant_Code_K (K : AV → AH → Prop) : KP := finP PP (resC PP 39) K
abbrev m_quant_Codettt_k (K : AV → AH → Prop) : KP := exP (codeP PP CC (subC (bodyC PP 39) [1, 1, 1, 1]) (m_quant_Code_K K)) (m_quant_Code_K K)
abbrev m_quant_Codetttht_k (K : AV → AH → Prop) : KP := blockP 0 (m_quant_Codettt_k K)
abbrev m_quant_Codettthtb_k (K : AV → AH → Prop) (r0 : (AV × AV × AV × AV × AV) → AH → Prop) : KP := exP (fun (a : TE) (H : AH) => r0 (a 1, a 2, a 5, a 17, a 18) H) (m_quant_Codetttht_k K)
def m_quant_Codettthtbl (K : AV → AH → Prop) (r0 : (AV × AV × AV × AV × AV) → AH → Prop) (x1 x2 x5 x17 x18 : AV) (H : AH) : Prop :=
  outP CC H (w_int .lss H x18 x17) fun v1 H1 =>
  condP v1
  (outP CC H1 (w_len PP 28 H1 x1) fun v2 H2 =>
  outP CC H2 (w_int .lss H2 x18 v2) fun v3 H3 =>
  condP v3
  (outP CC H3 (w_fieldAddr 0 H3 x2) fun v4 H4 =>
  outP CC H4 (w_load none H4 v4) fun v5 H5 =>
  outP CC H5 (w_indexAddr (.sl 1) H5 v5 x18) fun v6 H6 =>
  outP CC H6 (w_load none H6 v6) fun v7 H7 =>
  outP CC H7 (w_conv (.int .i64) H7 v7 none) fun v8 H8 =>
  outP CC H8 (w_fieldAddr 1 H8 x2) fun v9 H9 =>
  outP CC H9 (w_load none H9 v9) fun v10 H10 =>
  outP CC H10 (w_indexAddr (.sl 1) H10 v10 x18) fun v11 H11 =>
  outP CC H11 (w_load none H11 v11) fun v12 H12 =>
  outP CC H12 (w_conv (.int .i64) H12 v12 none) fun v13 H13 =>
  outP CC H13 (w_indexAddr (.sl 1) H13 x1 x18) fun v14 H14 =>
  outP CC H14 (w_load none H14 v14) fun v15 H15 =>
  outP CC H15 (w_conv (.int .i64) H15 v15 none) fun v16 H16 =>
  outP CC H16 (w_int .sub H16 v16 v8) fun v17 H17 =>
  outP CC H17 (w_int .quo H17 v13 (.int .i64 2)) fun v18 H18 =>
  outP CC H18 (w_int .add H18 v17 v18) fun v19 H19 =>
  outP CC H19 (some (.enter 78 [v19, v13])) fun v20 H20 =>
  outP CC H20 (w_max2 H20 v20 (.int .i64 0)) fun v21 H21 =>
  outP CC H21 (w_min2 H21 v21 (.int .i64 255)) fun v22 H22 =>
  outP CC H22 (w_conv (.int .u8) H22 v22 none) fun v23 H23 =>
  outP CC H23 (w_indexAddr (.sl 1) H23 x5 x18) fun v24 H24 =>
  outP CC H24 (w_store 1 H24 v24 v23) fun _v25 H25 =>
  outP CC H25 (w_int .add H25 x18 (.int .i64 1)) fun v26 H26 =>
  r0 (x1, x2, x5, x17, v26) H26)
  (outP CC H3 (w_int .add H3 x18 (.int .i64 1)) fun v27 H27 =>
  r0 (x1, x2, x5, x17, v27) H27))
  (K x5 H1)
theorem m_quant_Codettthtbl_eq (K : AV → AH → Prop) (r0 : (AV × AV × AV × AV × AV) → AH → Prop) (a : TE) (H : AH) : codeP PP CC (subC (bodyC PP 39) [1, 1, 1, 0, 1, 0, 0]) (m_quant_Codettthtb_k K r0) a H = m_quant_Codettthtbl K r0 (a 1) (a 2) (a 5) (a 17) (a 18) H :=
  by kernel_rfl
def m_quant_Codettthtb (K : AV → AH → Prop) (x1 x2 x5 x17 x18 : AV) (H : AH) : Prop :=
  loopP (fun (r0 : (AV × AV × AV × AV × AV) → AH → Prop) (s : (AV × AV × AV × AV × AV)) (H : AH) => m_quant_Codettthtbl K r0 s.1 s.2.1 s.2.2.1 s.2.2.2.1 s.2.2.2.2 H) (x1, x2, x5, x17, x18) H
theorem m_quant_Codettthtb_eq (K : AV → AH → Prop) (a : TE) (H : AH) : codeP PP CC (subC (bodyC PP 39) [1, 1, 1, 0, 1, 0]) (m_quant_Codetttht_k K) a H = m_quant_Codettthtb K (a 1) (a 2) (a 5) (a 17) (a 18) H :=
  have h1 : codeP PP CC (subC (bodyC PP 39) [1, 1, 1, 0, 1, 0]) (m_quant_Codetttht_k K) a H = loopP (fun (rec : KE) => codeP PP CC (subC (bodyC PP 39) [1, 1, 1, 0, 1, 0, 0]) (exP rec (m_quant_Codetttht_k K))) a H := by kernel_rfl
  have h2 := loopP_iso (F := fun (rec : KE) => codeP PP CC (subC (bodyC PP 39) [1, 1, 1, 0, 1, 0, 0]) (exP rec (m_quant_Codetttht_k K))) (S := (AV × AV × AV × AV × AV)) (fun a => (a 1, a 2, a 5, a 17, a 18)) (fun (r0 : (AV × AV × AV × AV × AV) → AH → Prop) (s : (AV × AV × AV × AV × AV)) (H : AH) => m_quant_Codettthtbl K r0 s.1 s.2.1 s.2.2.1 s.2.2.2.1 s.2.2.2.2 H) (fun (r0 : (AV × AV × AV × AV × AV) → AH → Prop) (a : TE) (H : AH) => (show codeP PP CC (subC (bodyC PP 39) [1, 1, 1, 0, 1, 0, 0]) (exP (fun (a : TE) (H : AH) => r0 (a 1, a 2, a 5, a 17, a 18) H) (m_quant_Codetttht_k K)) a H = codeP PP CC (subC (bodyC PP 39) [1, 1, 1, 0, 1, 0, 0]) (m_quant_Codettthtb_k K r0) a H from by kernel_rfl).trans (m_quant_Codettthtbl_eq K r0 a H)) a H
  h1.trans h2
theorem m_quant_Codetttht_eq (K : AV → AH → Prop) (a : TE) (H : AH) : codeP PP CC (subC (bodyC PP 39) [1, 1, 1, 0, 1]) (m_quant_Codettt_k K) a H = m_quant_Codettthtb K (a 1) (a 2) (a 5) (a 17) (a 18) H :=
  have h1 : codeP PP CC (subC (bodyC PP 39) [1, 1, 1, 0, 1]) (m_quant_Codettt_k K) a H = codeP PP CC (subC (bodyC PP 39) [1, 1, 1, 0, 1, 0]) (m_quant_Codetttht_k K) a H := by kernel_rfl
  h1.trans (m_quant_Codettthtb_eq K a H)
abbrev m_quant_Codettth_k (K : AV → AH → Prop) : KP := exP (fun (a : TE) (H : AH) => m_quant_Codettthtb K (a 1) (a 2) (a 5) (a 17) (a 18) H) (m_quant_Codettt_k K)
def m_quant_Codettth (K : AV → AH → Prop) (x1 x2 x5 : AV) (H : AH) : Prop :=
  outP CC H (w_len PP 72 H x5) fun v1 H1 =>
  m_quant_Codettthtb K x1 x2 x5 v1 (.int .i64 0) H1
theorem m_quant_Codettth_eq (K : AV → AH → Prop) (a : TE) (H : AH) : codeP PP CC (subC (bodyC PP 39) [1, 1, 1, 0]) (m_quant_Codettt_k K) a H = m_quant_Codettth K (a 1) (a 2) (a 5) H :=
  have h1 : codeP PP CC (subC (bodyC PP 39) [1, 1, 1, 0]) (m_quant_Codettt_k K) a H = codeP PP CC (subC (bodyC PP 39) [1, 1, 1, 0, 0]) (exP (codeP PP CC (subC (bodyC PP 39) [1, 1, 1, 0, 1]) (m_quant_Codettt_k K)) (m_quant_Codettt_k K)) a H := by kernel_rfl
  have h2 : codeP PP CC (subC (bodyC PP 39) [1, 1, 1, 0, 0]) (exP (codeP PP CC (subC (bodyC PP 39) [1, 1, 1, 0, 1]) (m_quant_Codettt_k K)) (m_quant_Codettt_k K)) a H = codeP PP CC (subC (bodyC PP 39) [1, 1, 1, 0, 0]) (exP (fun (a : TE) (H : AH) => m_quant_Codettthtb K (a 1) (a 2) (a 5) (a 17) (a 18) H) (m_quant_Codettt_k K)) a H := congrArg (fun k : KE => codeP PP CC (subC (bodyC PP 39) [1, 1, 1, 0, 0]) (exP k (m_quant_Codettt_k K)) a H) (funext fun a => funext fun H => m_quant_Codetttht_eq K a H)
  have h2b : codeP PP CC (subC (bodyC PP 39) [1, 1, 1, 0, 0]) (exP (fun (a : TE) (H : AH) => m_quant_Codettthtb K (a 1) (a 2) (a 5) (a 17) (a 18) H) (m_quant_Codettt_k K)) a H = codeP PP CC (subC (bodyC PP 39) [1, 1, 1, 0, 0]) (m_quant_Codettth_k K) a H := by kernel_rfl
  have h3 : codeP PP CC (subC (bodyC PP 39) [1, 1, 1, 0, 0]) (m_quant_Codettth_k K) a H = m_quant_Codettth K (a 1) (a 2) (a 5) H := by kernel_rfl
  ((h1.trans h2).trans h2b).trans h3
theorem m_quant_Codettt_eq (K : AV → AH → Prop) (a : TE) (H : AH) : codeP PP CC (subC (bodyC PP 39) [1, 1, 1]) (m_quant_Code_K K) a H = m_quant_Codettth K (a 1) (a 2) (a 5) H :=
  have h1 : codeP PP CC (subC (bodyC PP 39) [1, 1, 1]) (m_quant_Code_K K) a H = codeP PP CC (subC (bodyC PP 39) [1, 1, 1, 0]) (m_quant_Codettt_k K) a H := by kernel_rfl
  h1.trans (m_quant_Codettth_eq K a H)
abbrev m_quant_Codett_k (K : AV → AH → Prop) : KP := exP (fun (a : TE) (H : AH) => m_quant_Codettth K (a 1) (a 2) (a 5) H) (m_quant_Code_K K)
def m_quant_Codett (K : AV → AH → Prop) (x1 x2 : AV) (H : AH) : Prop :=
  outP CC H (w_fieldAddr 0 H x2) fun v1 H1 =>
  outP CC H1 (w_load none H1 v1) fun v2 H2 =>
  outP CC H2 (w_len PP 27 H2 v2) fun v3 H3 =>
  outP CC H3 (w_makeSlice PP 5 H3 v3 v3 none) fun v4 H4 =>
  m_quant_Codettth K x1 x2 v4 H4
theorem m_quant_Codett_eq (K : AV → AH → Prop) (a : TE) (H : AH) : codeP PP CC (subC (bodyC PP 39) [1, 1]) (m_quant_Code_K K) a H = m_quant_Codett K (a 1) (a 2) H :=
  have h1 : codeP PP CC (subC (bodyC PP 39) [1, 1]) (m_quant_Code_K K) a H = codeP PP CC (subC (bodyC PP 39) [1, 1, 0]) (exP (codeP PP CC (subC (bodyC PP 39) [1, 1, 1]) (m_quant_Code_K K)) (m_quant_Code_K K)) a H := by kernel_rfl
  have h2 : codeP PP CC (subC (bodyC PP 39) [1, 1, 0]) (exP (codeP PP CC (subC (bodyC PP 39) [1, 1, 1]) (m_quant_Code_K K)) (m_quant_Code_K K)) a H = codeP PP CC (subC (bodyC PP 39) [1, 1, 0]) (exP (fun (a : TE) (H : AH) => m_quant_Codettth K (a 1) (a 2) (a 5) H) (m_quant_Code_K K)) a H := congrArg (fun k : KE => codeP PP CC (subC (bodyC PP 39) [1, 1, 0]) (exP k (m_quant_Code_K K)) a H) (funext fun a => funext fun H => m_quant_Codettt_eq K a H)
  have h2b : codeP PP CC (subC (bodyC PP 39) [1, 1, 0]) (exP (fun (a : TE) (H : AH) => m_quant_Codettth K (a 1) (a 2) (a 5) H) (m_quant_Code_K K)) a H = codeP PP CC (subC (bodyC PP 39) [1, 1, 0]) (m_quant_Codett_k K) a H := by kernel_rfl
  have h3 : codeP PP CC (subC (bodyC PP 39) [1, 1, 0]) (m_quant_Codett_k K) a H = m_quant_Codett K (a 1) (a 2) H := by kernel_rfl
  ((h1.trans h2).trans h2b).trans h3
abbrev m_quant_Codet_k (K : AV → AH → Prop) : KP := exP (fun (a : TE) (H : AH) => m_quant_Codett K (a 1) (a 2) H) (m_quant_Code_K K)
def m_quant_Codet (K : AV → AH → Prop) (x1 x2 : AV) (H : AH) : Prop :=
  outP CC H (w_load (some 2) H x2) fun v1 H1 =>
  outP CC H1 (some (.enter 75 [v1])) fun v2 H2 =>
  outP CC H2 (w_un .not H2 v2) fun v3 H3 =>
  condP v3
  (K (.slice none 0 0 true) H3)
  (m_quant_Codett K x1 x2 H3)
theorem m_quant_Codet_eq (K : AV → AH → Prop) (a : TE) (H : AH) : codeP PP CC (subC (bodyC PP 39) [1]) (m_quant_Code_K K) a H = m_quant_Codet K (a 1) (a 2) H :=
  have h1 : codeP PP CC (subC (bodyC PP 39) [1]) (m_quant_Code_K K) a H = codeP PP CC (subC (bodyC PP 39) [1, 0]) (exP (codeP PP CC (subC (bodyC PP 39) [1, 1]) (m_quant_Code_K K)) (m_quant_Code_K K)) a H := by kernel_rfl
  have h2 : codeP PP CC (subC (bodyC PP 39) [1, 0]) (exP (codeP PP CC (subC (bodyC PP 39) [1, 1]) (m_quant_Code_K K)) (m_quant_Code_K K)) a H = codeP PP CC (subC (bodyC PP 39) [1, 0]) (exP (fun (a : TE) (H : AH) => m_quant_Codett K (a 1) (a 2) H) (m_quant_Code_K K)) a H := congrArg (fun k : KE => codeP PP CC (subC (bodyC PP 39) [1, 0]) (exP k (m_quant_Code_K K)) a H) (funext fun a => funext fun H => m_quant_Codett_eq K a H)
  have h2b : codeP PP CC (subC (bodyC PP 39) [1, 0]) (exP (fun (a : TE) (H : AH) => m_quant_Codett K (a 1) (a 2) H) (m_quant_Code_K K)) a H = codeP PP CC (subC (bodyC PP 39) [1, 0]) (m_quant_Codet_k K) a H := by kernel_rfl
  have h3 : codeP PP CC (subC (bodyC PP 39) [1, 0]) (m_quant_Codet_k K) a H = m_quant_Codet K (a 1) (a 2) H := by kernel_rfl
  ((h1.trans h2).trans h2b).trans h3
abbrev m_quant_Code_k (K : AV → AH → Prop) : KP := exP (fun (a : TE) (H : AH) => m_quant_Codet K (a 1) (a 2) H) (m_quant_Code_K K)
def m_quant_Code (K : AV → AH → Prop) (x0 x1 : AV) (H : AH) : Prop :=
  outP CC H (w_box 65 H x0 none) fun v1 H1 =>
  m_quant_Codet K x1 v1 H1
theorem m_quant_Code_eq (K : AV → AH → Prop) (a : TE) (H : AH) : codeP PP CC (subC (bodyC PP 39) []) (m_quant_Code_K K) a H = m_quant_Code K (a 0) (a 1) H :=
  have h1 : codeP PP CC (subC (bodyC PP 39) []) (m_quant_Code_K K) a H = codeP PP CC (subC (bodyC PP 39) [0]) (exP (codeP PP CC (subC (bodyC PP 39) [1]) (m_quant_Code_K K)) (m_quant_Code_K K)) a H := by kernel_rfl
  have h2 : codeP PP CC (subC (bodyC PP 39) [0]) (exP (codeP PP CC (subC (bodyC PP 39) [1]) (m_quant_Code_K K)) (m_quant_Code_K K)) a H = codeP PP CC (subC (bodyC PP 39) [0]) (exP (fun (a : TE) (H : AH) => m_quant_Codet K (a 1) (a 2) H) (m_quant_Code_K K)) a H := congrArg (fun k : KE => codeP PP CC (subC (bodyC PP 39) [0]) (exP k (m_quant_Code_K K)) a H) (funext fun a => funext fun H => m_quant_Codet_eq K a H)
  have h2b : codeP PP CC (subC (bodyC PP 39) [0]) (exP (fun (a : TE) (H : AH) => m_quant_Codet K (a 1) (a 2) H) (m_quant_Code_K K)) a H = codeP PP CC (subC (bodyC PP 39) [0]) (m_quant_Code_k K) a H := by kernel_rfl
  have h3 : codeP PP CC (subC (bodyC PP 39) [0]) (m_quant_Code_k K) a H = m_quant_Code K (a 0) (a 1) H := by kernel_rfl
  ((h1.trans h2).trans h2b).trans h3
theorem m_quant_Code_ok (x0 x1 : AV) (H : AH) (K : AV → AH → Prop) (h : m_quant_Code K x0 x1 H) : CC.call 39 [x0, x1] H K :=
  have h1 : funP PP CC 39 [x0, x1] H K = codeP PP CC (subC (bodyC PP 39) []) (m_quant_Code_K K) (argE [x0, x1]) H := by kernel_rfl
  have h2 : m_quant_Code K (argE [x0, x1] 0) (argE [x0, x1] 1) H = m_quant_Code K x0 x1 H := by kernel_rfl
  funP_ok (P := PP) (by kernel_rfl) (by kernel_rfl) ((h1.trans ((m_quant_Code_eq K (argE [x0, x1]) H).trans h2)).mpr h)

/-! 40: (fieldfare/fieldfareref1.Book).Code -/
abbrev m_fieldfareref1_Book_Code_K (K : AV → AH → Prop) : KP := finP PP (resC PP 40) K
abbrev m_fieldfareref1_Book_Codettt_k (K : AV → AH → Prop) : KP := exP (codeP PP CC (subC (bodyC PP 40) [1, 1, 1, 1]) (m_fieldfareref1_Book_Code_K K)) (m_fieldfareref1_Book_Code_K K)
abbrev m_fieldfareref1_Book_Codetttht_k (K : AV → AH → Prop) : KP := blockP 0 (m_fieldfareref1_Book_Codettt_k K)
abbrev m_fieldfareref1_Book_Codettthtb_k (K : AV → AH → Prop) (r0 : (AV × AV × AV × AV × AV) → AH → Prop) : KP := exP (fun (a : TE) (H : AH) => r0 (a 1, a 2, a 5, a 13, a 14) H) (m_fieldfareref1_Book_Codetttht_k K)
abbrev m_fieldfareref1_Book_Codettthtbltt_k (K : AV → AH → Prop) (r0 : (AV × AV × AV × AV × AV) → AH → Prop) : KP := exP (codeP PP CC (subC (bodyC PP 40) [1, 1, 1, 0, 1, 0, 0, 1, 1, 1]) (m_fieldfareref1_Book_Codettthtb_k K r0)) (m_fieldfareref1_Book_Codettthtb_k K r0)
abbrev m_fieldfareref1_Book_Codettthtbltth_k (K : AV → AH → Prop) (r0 : (AV × AV × AV × AV × AV) → AH → Prop) : KP := blockP 1 (m_fieldfareref1_Book_Codettthtbltt_k K r0)
def m_fieldfareref1_Book_Codettthtbltthbttt (_K : AV → AH → Prop) (r0 : (AV × AV × AV × AV × AV) → AH → Prop) (x1 x2 x5 x7 x13 x14 : AV) (H : AH) : Prop :=
  outP CC H (w_min2 H x7 (.int .i64 255)) fun v1 H1 =>
  outP CC H1 (w_max2 H1 (.int .i64 0) v1) fun v2 H2 =>
  outP CC H2 (w_conv (.int .u8) H2 v2 none) fun v3 H3 =>
  outP CC H3 (w_buildSlice PP 5 1 H3 [(0, v3)] none) fun v4 H4 =>
  outP CC H4 (w_append 5 1 1 H4 x5 v4 none) fun v5 H5 =>
  outP CC H5 (w_int .add H5 x14 (.int .i64 1)) fun v6 H6 =>
  r0 (x1, x2, v5, x13, v6) H6
theorem m_fieldfareref1_Book_Codettthtbltthbttt_eq (K : AV → AH → Prop) (r0 : (AV × AV × AV × AV × AV) → AH → Prop) (a : TE) (H : AH) : codeP PP CC (subC (bodyC PP 40) [1, 1, 1, 0, 1, 0, 0, 1, 1, 0, 0, 1, 1, 1]) (m_fieldfareref1_Book_Codettthtbltth_k K r0) a H = m_fieldfareref1_Book_Codettthtbltthbttt K r0 (a 1) (a 2) (a 5) (a 7) (a 13) (a 14) H :=
  by kernel_rfl
abbrev m_fieldfareref1_Book_Codettthtbltthbtt_k (K : AV → AH → Prop) (r0 : (AV × AV × AV × AV × AV) → AH → Prop) : KP := exP (fun (a : TE) (H : AH) => m_fieldfareref1_Book_Codettthtbltthbttt K r0 (a 1) (a 2) (a 5) (a 7) (a 13) (a 14) H) (m_fieldfareref1_Book_Codettthtbltth_k K r0)
def m_fieldfareref1_Book_Codettthtbltthbtt (K : AV → AH → Prop) (r0 : (AV × AV × AV × AV × AV) → AH → Prop) (x1 x2 x5 x6 x7 x13 x14 : AV) (H : AH) : Prop :=
  outP CC H (w_len PP 28 H x1) fun v1 H1 =>
  outP CC H1 (w_int .lss H1 x6 v1) fun v2 H2 =>
  condP v2
  (outP CC H2 (w_indexAddr (.sl 1) H2 x1 x6) fun v3 H3 =>
  outP CC H3 (w_load none H3 v3) fun v4 H4 =>
  outP CC H4 (w_conv (.int .i64) H4 v4 none) fun v5 H5 =>
  outP CC H5 (w_fieldAddr 0 H5 x2) fun v6 H6 =>
  outP CC H6 (w_load none H6 v6) fun v7 H7 =>
  outP CC H7 (w_indexAddr (.sl 1) H7 v7 x6) fun v8 H8 =>
  outP CC H8 (w_load none H8 v8) fun v9 H9 =>
  outP CC H9 (w_conv (.int .i64) H9 v9 none) fun v10 H10 =>
  outP CC H10 (w_int .sub H10 v5 v10) fun v11 H11 =>
  outP CC H11 (w_fieldAddr 1 H11 x2) fun v12 H12 =>
  outP CC H12 (w_load none H12 v12) fun v13 H13 =>
  outP CC H13 (w_indexAddr (.sl 1) H13 v13 x6) fun v14 H14 =>
  outP CC H14 (w_load none H14 v14) fun v15 H15 =>
  outP CC H15 (w_conv (.int .i64) H15 v15 none) fun v16 H16 =>
  outP CC H16 (w_int .quo H16 v16 (.int .i64 2)) fun v17 H17 =>
  outP CC H17 (w_int .add H17 v11 v17) fun v18 H18 =>
  outP CC H18 (w_fieldAddr 1 H18 x2) fun v19 H19 =>
  outP CC H19 (w_load none H19 v19) fun v20 H20 =>
  outP CC H20 (w_indexAddr (.sl 1) H20 v20 x6) fun v21 H21 =>
  outP CC H21 (w_load none H21 v21) fun v22 H22 =>
  outP CC H22 (w_conv (.int .i64) H22 v22 none) fun v23 H23 =>
  outP CC H23 (some (.enter 79 [v18, v23])) fun v24 H24 =>
  m_fieldfareref1_Book_Codettthtbltthbttt K r0 x1 x2 x5 v24 x13 x14 H24)
  (m_fieldfareref1_Book_Codettthtbltthbttt K r0 x1 x2 x5 x7 x13 x14 H2)
theorem m_fieldfareref1_Book_Codettthtbltthbtt_eq (K : AV → AH → Prop) (r0 : (AV × AV × AV × AV × AV) → AH → Prop) (a : TE) (H : AH) : codeP PP CC (subC (bodyC PP 40) [1, 1, 1, 0, 1, 0, 0, 1, 1, 0, 0, 1, 1]) (m_fieldfareref1_Book_Codettthtbltth_k K r0) a H = m_fieldfareref1_Book_Codettthtbltthbtt K r0 (a 1) (a 2) (a 5) (a 6) (a 7) (a 13) (a 14) H :=
  have h1 : codeP PP CC (subC (bodyC PP 40) [1, 1, 1, 0, 1, 0, 0, 1, 1, 0, 0, 1, 1]) (m_fieldfareref1_Book_Codettthtbltth_k K r0) a H = codeP PP CC (subC (bodyC PP 40) [1, 1, 1, 0, 1, 0, 0, 1, 1, 0, 0, 1, 1, 0]) (exP (codeP PP CC (subC (bodyC PP 40) [1, 1, 1, 0, 1, 0, 0, 1, 1, 0, 0, 1, 1, 1]) (m_fieldfareref1_Book_Codettthtbltth_k K r0)) (m_fieldfareref1_Book_Codettthtbltth_k K r0)) a H := by kernel_rfl
  have h2 : codeP PP CC (subC (bodyC PP 40) [1, 1, 1, 0, 1, 0, 0, 1, 1, 0, 0, 1, 1, 0]) (exP (codeP PP CC (subC (bodyC PP 40) [1, 1, 1, 0, 1, 0, 0, 1, 1, 0, 0, 1, 1, 1]) (m_fieldfareref1_Book_Codettthtbltth_k K r0)) (m_fieldfareref1_Book_Codettthtbltth_k K r0)) a H = codeP PP CC (subC (bodyC PP 40) [1, 1, 1, 0, 1, 0, 0, 1, 1, 0, 0, 1, 1, 0]) (exP (fun (a : TE) (H : AH) => m_fieldfareref1_Book_Codettthtbltthbttt K r0 (a 1) (a 2) (a 5) (a 7) (a 13) (a 14) H) (m_fieldfareref1_Book_Codettthtbltth_k K r0)) a H := congrArg (fun k : KE => codeP PP CC (subC (bodyC PP 40) [1, 1, 1, 0, 1, 0, 0, 1, 1, 0, 0, 1, 1, 0]) (exP k (m_fieldfareref1_Book_Codettthtbltth_k K r0)) a H) (funext fun a => funext fun H => m_fieldfareref1_Book_Codettthtbltthbttt_eq K r0 a H)
  have h2b : codeP PP CC (subC (bodyC PP 40) [1, 1, 1, 0, 1, 0, 0, 1, 1, 0, 0, 1, 1, 0]) (exP (fun (a : TE) (H : AH) => m_fieldfareref1_Book_Codettthtbltthbttt K r0 (a 1) (a 2) (a 5) (a 7) (a 13) (a 14) H) (m_fieldfareref1_Book_Codettthtbltth_k K r0)) a H = codeP PP CC (subC (bodyC PP 40) [1, 1, 1, 0, 1, 0, 0, 1, 1, 0, 0, 1, 1, 0]) (m_fieldfareref1_Book_Codettthtbltthbtt_k K r0) a H := by kernel_rfl
  have h3 : codeP PP CC (subC (bodyC PP 40) [1, 1, 1, 0, 1, 0, 0, 1, 1, 0, 0, 1, 1, 0]) (m_fieldfareref1_Book_Codettthtbltthbtt_k K r0) a H = m_fieldfareref1_Book_Codettthtbltthbtt K r0 (a 1) (a 2) (a 5) (a 6) (a 7) (a 13) (a 14) H := by kernel_rfl
  ((h1.trans h2).trans h2b).trans h3
abbrev m_fieldfareref1_Book_Codettthtbltthbt_k (K : AV → AH → Prop) (r0 : (AV × AV × AV × AV × AV) → AH → Prop) : KP := exP (fun (a : TE) (H : AH) => m_fieldfareref1_Book_Codettthtbltthbtt K r0 (a 1) (a 2) (a 5) (a 6) (a 7) (a 13) (a 14) H) (m_fieldfareref1_Book_Codettthtbltth_k K r0)
def m_fieldfareref1_Book_Codettthtbltthbt (K : AV → AH → Prop) (r0 : (AV × AV × AV × AV × AV) → AH → Prop) (x1 x2 x5 x6 x13 x14 : AV) (H : AH) : Prop :=
  m_fieldfareref1_Book_Codettthtbltthbtt K r0 x1 x2 x5 x6 (.int .i64 0) x13 x14 H
theorem m_fieldfareref1_Book_Codettthtbltthbt_eq (K : AV → AH → Prop) (r0 : (AV × AV × AV × AV × AV) → AH → Prop) (a : TE) (H : AH) : codeP PP CC (subC (bodyC PP 40) [1, 1, 1, 0, 1, 0, 0, 1, 1, 0, 0, 1]) (m_fieldfareref1_Book_Codettthtbltth_k K r0) a H = m_fieldfareref1_Book_Codettthtbltthbt K r0 (a 1) (a 2) (a 5) (a 6) (a 13) (a 14) H :=
  have h1 : codeP PP CC (subC (bodyC PP 40) [1, 1, 1, 0, 1, 0, 0, 1, 1, 0, 0, 1]) (m_fieldfareref1_Book_Codettthtbltth_k K r0) a H = codeP PP CC (subC (bodyC PP 40) [1, 1, 1, 0, 1, 0, 0, 1, 1, 0, 0, 1, 0]) (exP (codeP PP CC (subC (bodyC PP 40) [1, 1, 1, 0, 1, 0, 0, 1, 1, 0, 0, 1, 1]) (m_fieldfareref1_Book_Codettthtbltth_k K r0)) (m_fieldfareref1_Book_Codettthtbltth_k K r0)) a H := by kernel_rfl
  have h2 : codeP PP CC (subC (bodyC PP 40) [1, 1, 1, 0, 1, 0, 0, 1, 1, 0, 0, 1, 0]) (exP (codeP PP CC (subC (bodyC PP 40) [1, 1, 1, 0, 1, 0, 0, 1, 1, 0, 0, 1, 1]) (m_fieldfareref1_Book_Codettthtbltth_k K r0)) (m_fieldfareref1_Book_Codettthtbltth_k K r0)) a H = codeP PP CC (subC (bodyC PP 40) [1, 1, 1, 0, 1, 0, 0, 1, 1, 0, 0, 1, 0]) (exP (fun (a : TE) (H : AH) => m_fieldfareref1_Book_Codettthtbltthbtt K r0 (a 1) (a 2) (a 5) (a 6) (a 7) (a 13) (a 14) H) (m_fieldfareref1_Book_Codettthtbltth_k K r0)) a H := congrArg (fun k : KE => codeP PP CC (subC (bodyC PP 40) [1, 1, 1, 0, 1, 0, 0, 1, 1, 0, 0, 1, 0]) (exP k (m_fieldfareref1_Book_Codettthtbltth_k K r0)) a H) (funext fun a => funext fun H => m_fieldfareref1_Book_Codettthtbltthbtt_eq K r0 a H)
  have h2b : codeP PP CC (subC (bodyC PP 40) [1, 1, 1, 0, 1, 0, 0, 1, 1, 0, 0, 1, 0]) (exP (fun (a : TE) (H : AH) => m_fieldfareref1_Book_Codettthtbltthbtt K r0 (a 1) (a 2) (a 5) (a 6) (a 7) (a 13) (a 14) H) (m_fieldfareref1_Book_Codettthtbltth_k K r0)) a H = codeP PP CC (subC (bodyC PP 40) [1, 1, 1, 0, 1, 0, 0, 1, 1, 0, 0, 1, 0]) (m_fieldfareref1_Book_Codettthtbltthbt_k K r0) a H := by kernel_rfl
  have h3 : codeP PP CC (subC (bodyC PP 40) [1, 1, 1, 0, 1, 0, 0, 1, 1, 0, 0, 1, 0]) (m_fieldfareref1_Book_Codettthtbltthbt_k K r0) a H = m_fieldfareref1_Book_Codettthtbltthbt K r0 (a 1) (a 2) (a 5) (a 6) (a 13) (a 14) H := by kernel_rfl
  ((h1.trans h2).trans h2b).trans h3
abbrev m_fieldfareref1_Book_Codettthtbltthb_k (K : AV → AH → Prop) (r0 : (AV × AV × AV × AV × AV) → AH → Prop) : KP := exP (fun (a : TE) (H : AH) => m_fieldfareref1_Book_Codettthtbltthbt K r0 (a 1) (a 2) (a 5) (a 6) (a 13) (a 14) H) (m_fieldfareref1_Book_Codettthtbltth_k K r0)
def m_fieldfareref1_Book_Codettthtbltthb (K : AV → AH → Prop) (r0 : (AV × AV × AV × AV × AV) → AH → Prop) (x1 x2 x5 x13 x14 : AV) (H : AH) : Prop :=
  m_fieldfareref1_Book_Codettthtbltthbt K r0 x1 x2 x5 x14 x13 x14 H
theorem m_fieldfareref1_Book_Codettthtbltthb_eq (K : AV → AH → Prop) (r0 : (AV × AV × AV × AV × AV) → AH → Prop) (a : TE) (H : AH) : codeP PP CC (subC (bodyC PP 40) [1, 1, 1, 0, 1, 0, 0, 1, 1, 0, 0]) (m_fieldfareref1_Book_Codettthtbltth_k K r0) a H = m_fieldfareref1_Book_Codettthtbltthb K r0 (a 1) (a 2) (a 5) (a 13) (a 14) H :=
  have h1 : codeP PP CC (subC (bodyC PP 40) [1, 1, 1, 0, 1, 0, 0, 1, 1, 0, 0]) (m_fieldfareref1_Book_Codettthtbltth_k K r0) a H = codeP PP CC (subC (bodyC PP 40) [1, 1, 1, 0, 1, 0, 0, 1, 1, 0, 0, 0]) (exP (codeP PP CC (subC (bodyC PP 40) [1, 1, 1, 0, 1, 0, 0, 1, 1, 0, 0, 1]) (m_fieldfareref1_Book_Codettthtbltth_k K r0)) (m_fieldfareref1_Book_Codettthtbltth_k K r0)) a H := by kernel_rfl
  have h2 : codeP PP CC (subC (bodyC PP 40) [1, 1, 1, 0, 1, 0, 0, 1, 1, 0, 0, 0]) (exP (codeP PP CC (subC (bodyC PP 40) [1, 1, 1, 0, 1, 0, 0, 1, 1, 0, 0, 1]) (m_fieldfareref1_Book_Codettthtbltth_k K r0)) (m_fieldfareref1_Book_Codettthtbltth_k K r0)) a H = codeP PP CC (subC (bodyC PP 40) [1, 1, 1, 0, 1, 0, 0, 1, 1, 0, 0, 0]) (exP (fun (a : TE) (H : AH) => m_fieldfareref1_Book_Codettthtbltthbt K r0 (a 1) (a 2) (a 5) (a 6) (a 13) (a 14) H) (m_fieldfareref1_Book_Codettthtbltth_k K r0)) a H := congrArg (fun k : KE => codeP PP CC (subC (bodyC PP 40) [1, 1, 1, 0, 1, 0, 0, 1, 1, 0, 0, 0]) (exP k (m_fieldfareref1_Book_Codettthtbltth_k K r0)) a H) (funext fun a => funext fun H => m_fieldfareref1_Book_Codettthtbltthbt_eq K r0 a H)
  have h2b : codeP PP CC (subC (bodyC PP 40) [1, 1, 1, 0, 1, 0, 0, 1, 1, 0, 0, 0]) (exP (fun (a : TE) (H : AH) => m_fieldfareref1_Book_Codettthtbltthbt K r0 (a 1) (a 2) (a 5) (a 6) (a 13) (a 14) H) (m_fieldfareref1_Book_Codettthtbltth_k K r0)) a H = codeP PP CC (subC (bodyC PP 40) [1, 1, 1, 0, 1, 0, 0, 1, 1, 0, 0, 0]) (m_fieldfareref1_Book_Codettthtbltthb_k K r0) a H := by kernel_rfl
  have h3 : codeP PP CC (subC (bodyC PP 40) [1, 1, 1, 0, 1, 0, 0, 1, 1, 0, 0, 0]) (m_fieldfareref1_Book_Codettthtbltthb_k K r0) a H = m_fieldfareref1_Book_Codettthtbltthb K r0 (a 1) (a 2) (a 5) (a 13) (a 14) H := by kernel_rfl
  ((h1.trans h2).trans h2b).trans h3
theorem m_fieldfareref1_Book_Codettthtbltth_eq (K : AV → AH → Prop) (r0 : (AV × AV × AV × AV × AV) → AH → Prop) (a : TE) (H : AH) : codeP PP CC (subC (bodyC PP 40) [1, 1, 1, 0, 1, 0, 0, 1, 1, 0]) (m_fieldfareref1_Book_Codettthtbltt_k K r0) a H = m_fieldfareref1_Book_Codettthtbltthb K r0 (a 1) (a 2) (a 5) (a 13) (a 14) H :=
  have h1 : codeP PP CC (subC (bodyC PP 40) [1, 1, 1, 0, 1, 0, 0, 1, 1, 0]) (m_fieldfareref1_Book_Codettthtbltt_k K r0) a H = codeP PP CC (subC (bodyC PP 40) [1, 1, 1, 0, 1, 0, 0, 1, 1, 0, 0]) (m_fieldfareref1_Book_Codettthtbltth_k K r0) a H := by kernel_rfl
  h1.trans (m_fieldfareref1_Book_Codettthtbltthb_eq K r0 a H)
theorem m_fieldfareref1_Book_Codettthtbltt_eq (K : AV → AH → Prop) (r0 : (AV × AV × AV × AV × AV) → AH → Prop) (a : TE) (H : AH) : codeP PP CC (subC (bodyC PP 40) [1, 1, 1, 0, 1, 0, 0, 1, 1]) (m_fieldfareref1_Book_Codettthtb_k K r0) a H = m_fieldfareref1_Book_Codettthtbltthb K r0 (a 1) (a 2) (a 5) (a 13) (a 14) H :=
  have h1 : codeP PP CC (subC (bodyC PP 40) [1, 1, 1, 0, 1, 0, 0, 1, 1]) (m_fieldfareref1_Book_Codettthtb_k K r0) a H = codeP PP CC (subC (bodyC PP 40) [1, 1, 1, 0, 1, 0, 0, 1, 1, 0]) (m_fieldfareref1_Book_Codettthtbltt_k K r0) a H := by kernel_rfl
  h1.trans (m_fieldfareref1_Book_Codettthtbltth_eq K r0 a H)
abbrev m_fieldfareref1_Book_Codettthtblt_k (K : AV → AH → Prop) (r0 : (AV × AV × AV × AV × AV) → AH → Prop) : KP := exP (fun (a : TE) (H : AH) => m_fieldfareref1_Book_Codettthtbltthb K r0 (a 1) (a 2) (a 5) (a 13) (a 14) H) (m_fieldfareref1_Book_Codettthtb_k K r0)
def m_fieldfareref1_Book_Codettthtblt (K : AV → AH → Prop) (r0 : (AV × AV × AV × AV × AV) → AH → Prop) (x1 x2 x5 x13 x14 x15 : AV) (H : AH) : Prop :=
  condP x15
  (m_fieldfareref1_Book_Codettthtbltthb K r0 x1 x2 x5 x13 x14 H)
  (K x5 H)
theorem m_fieldfareref1_Book_Codettthtblt_eq (K : AV → AH → Prop) (r0 : (AV × AV × AV × AV × AV) → AH → Prop) (a : TE) (H : AH) : codeP PP CC (subC (bodyC PP 40) [1, 1, 1, 0, 1, 0, 0, 1]) (m_fieldfareref1_Book_Codettthtb_k K r0) a H = m_fieldfareref1_Book_Codettthtblt K r0 (a 1) (a 2) (a 5) (a 13) (a 14) (a 15) H :=
  have h1 : codeP PP CC (subC (bodyC PP 40) [1, 1, 1, 0, 1, 0, 0, 1]) (m_fieldfareref1_Book_Codettthtb_k K r0) a H = codeP PP CC (subC (bodyC PP 40) [1, 1, 1, 0, 1, 0, 0, 1, 0]) (exP (codeP PP CC (subC (bodyC PP 40) [1, 1, 1, 0, 1, 0, 0, 1, 1]) (m_fieldfareref1_Book_Codettthtb_k K r0)) (m_fieldfareref1_Book_Codettthtb_k K r0)) a H := by kernel_rfl
  have h2 : codeP PP CC (subC (bodyC PP 40) [1, 1, 1, 0, 1, 0, 0, 1, 0]) (exP (codeP PP CC (subC (bodyC PP 40) [1, 1, 1, 0, 1, 0, 0, 1, 1]) (m_fieldfareref1_Book_Codettthtb_k K r0)) (m_fieldfareref1_Book_Codettthtb_k K r0)) a H = codeP PP CC (subC (bodyC PP 40) [1, 1, 1, 0, 1, 0, 0, 1, 0]) (exP (fun (a : TE) (H : AH) => m_fieldfareref1_Book_Codettthtbltthb K r0 (a 1) (a 2) (a 5) (a 13) (a 14) H) (m_fieldfareref1_Book_Codettthtb_k K r0)) a H := congrArg (fun k : KE => codeP PP CC (subC (bodyC PP 40) [1, 1, 1, 0, 1, 0, 0, 1, 0]) (exP k (m_fieldfareref1_Book_Codettthtb_k K r0)) a H) (funext fun a => funext fun H => m_fieldfareref1_Book_Codettthtbltt_eq K r0 a H)
  have h2b : codeP PP CC (subC (bodyC PP 40) [1, 1, 1, 0, 1, 0, 0, 1, 0]) (exP (fun (a : TE) (H : AH) => m_fieldfareref1_Book_Codettthtbltthb K r0 (a 1) (a 2) (a 5) (a 13) (a 14) H) (m_fieldfareref1_Book_Codettthtb_k K r0)) a H = codeP PP CC (subC (bodyC PP 40) [1, 1, 1, 0, 1, 0, 0, 1, 0]) (m_fieldfareref1_Book_Codettthtblt_k K r0) a H := by kernel_rfl
  have h3 : codeP PP CC (subC (bodyC PP 40) [1, 1, 1, 0, 1, 0, 0, 1, 0]) (m_fieldfareref1_Book_Codettthtblt_k K r0) a H = m_fieldfareref1_Book_Codettthtblt K r0 (a 1) (a 2) (a 5) (a 13) (a 14) (a 15) H := by kernel_rfl
  ((h1.trans h2).trans h2b).trans h3
abbrev m_fieldfareref1_Book_Codettthtbl_k (K : AV → AH → Prop) (r0 : (AV × AV × AV × AV × AV) → AH → Prop) : KP := exP (fun (a : TE) (H : AH) => m_fieldfareref1_Book_Codettthtblt K r0 (a 1) (a 2) (a 5) (a 13) (a 14) (a 15) H) (m_fieldfareref1_Book_Codettthtb_k K r0)
def m_fieldfareref1_Book_Codettthtbl (K : AV → AH → Prop) (r0 : (AV × AV × AV × AV × AV) → AH → Prop) (x1 x2 x5 x13 x14 : AV) (H : AH) : Prop :=
  outP CC H (w_int .lss H x14 x13) fun v1 H1 =>
  m_fieldfareref1_Book_Codettthtblt K r0 x1 x2 x5 x13 x14 v1 H1
theorem m_fieldfareref1_Book_Codettthtbl_eq (K : AV → AH → Prop) (r0 : (AV × AV × AV × AV × AV) → AH → Prop) (a : TE) (H : AH) : codeP PP CC (subC (bodyC PP 40) [1, 1, 1, 0, 1, 0, 0]) (m_fieldfareref1_Book_Codettthtb_k K r0) a H = m_fieldfareref1_Book_Codettthtbl K r0 (a 1) (a 2) (a 5) (a 13) (a 14) H :=
  have h1 : codeP PP CC (subC (bodyC PP 40) [1, 1, 1, 0, 1, 0, 0]) (m_fieldfareref1_Book_Codettthtb_k K r0) a H = codeP PP CC (subC (bodyC PP 40) [1, 1, 1, 0, 1, 0, 0, 0]) (exP (codeP PP CC (subC (bodyC PP 40) [1, 1, 1, 0, 1, 0, 0, 1]) (m_fieldfareref1_Book_Codettthtb_k K r0)) (m_fieldfareref1_Book_Codettthtb_k K r0)) a H := by kernel_rfl
  have h2 : codeP PP CC (subC (bodyC PP 40) [1, 1, 1, 0, 1, 0, 0, 0]) (exP (codeP PP CC (subC (bodyC PP 40) [1, 1, 1, 0, 1, 0, 0, 1]) (m_fieldfareref1_Book_Codettthtb_k K r0)) (m_fieldfareref1_Book_Codettthtb_k K r0)) a H = codeP PP CC (subC (bodyC PP 40) [1, 1, 1, 0, 1, 0, 0, 0]) (exP (fun (a : TE) (H : AH) => m_fieldfareref1_Book_Codettthtblt K r0 (a 1) (a 2) (a 5) (a 13) (a 14) (a 15) H) (m_fieldfareref1_Book_Codettthtb_k K r0)) a H := congrArg (fun k : KE => codeP PP CC (subC (bodyC PP 40) [1, 1, 1, 0, 1, 0, 0, 0]) (exP k (m_fieldfareref1_Book_Codettthtb_k K r0)) a H) (funext fun a => funext fun H => m_fieldfareref1_Book_Codettthtblt_eq K r0 a H)
  have h2b : codeP PP CC (subC (bodyC PP 40) [1, 1, 1, 0, 1, 0, 0, 0]) (exP (fun (a : TE) (H : AH) => m_fieldfareref1_Book_Codettthtblt K r0 (a 1) (a 2) (a 5) (a 13) (a 14) (a 15) H) (m_fieldfareref1_Book_Codettthtb_k K r0)) a H = codeP PP CC (subC (bodyC PP 40) [1, 1, 1, 0, 1, 0, 0, 0]) (m_fieldfareref1_Book_Codettthtbl_k K r0) a H := by kernel_rfl
  have h3 : codeP PP CC (subC (bodyC PP 40) [1, 1, 1, 0, 1, 0, 0, 0]) (m_fieldfareref1_Book_Codettthtbl_k K r0) a H = m_fieldfareref1_Book_Codettthtbl K r0 (a 1) (a 2) (a 5) (a 13) (a 14) H := by kernel_rfl
  ((h1.trans h2).trans h2b).trans h3
def m_fieldfareref1_Book_Codettthtb (K : AV → AH → Prop) (x1 x2 x5 x13 x14 : AV) (H : AH) : Prop :=
  loopP (fun (r0 : (AV × AV × AV × AV × AV) → AH → Prop) (s : (AV × AV × AV × AV × AV)) (H : AH) => m_fieldfareref1_Book_Codettthtbl K r0 s.1 s.2.1 s.2.2.1 s.2.2.2.1 s.2.2.2.2 H) (x1, x2, x5, x13, x14) H
theorem m_fieldfareref1_Book_Codettthtb_eq (K : AV → AH → Prop) (a : TE) (H : AH) : codeP PP CC (subC (bodyC PP 40) [1, 1, 1, 0, 1, 0]) (m_fieldfareref1_Book_Codetttht_k K) a H = m_fieldfareref1_Book_Codettthtb K (a 1) (a 2) (a 5) (a 13) (a 14) H :=
  have h1 : codeP PP CC (subC (bodyC PP 40) [1, 1, 1, 0, 1, 0]) (m_fieldfareref1_Book_Codetttht_k K) a H = loopP (fun (rec : KE) => codeP PP CC (subC (bodyC PP 40) [1, 1, 1, 0, 1, 0, 0]) (exP rec (m_fieldfareref1_Book_Codetttht_k K))) a H := by kernel_rfl
  have h2 := loopP_iso (F := fun (rec : KE) => codeP PP CC (subC (bodyC PP 40) [1, 1, 1, 0, 1, 0, 0]) (exP rec (m_fieldfareref1_Book_Codetttht_k K))) (S := (AV × AV × AV × AV × AV)) (fun a => (a 1, a 2, a 5, a 13, a 14)) (fun (r0 : (AV × AV × AV × AV × AV) → AH → Prop) (s : (AV × AV × AV × AV × AV)) (H : AH) => m_fieldfareref1_Book_Codettthtbl K r0 s.1 s.2.1 s.2.2.1 s.2.2.2.1 s.2.2.2.2 H) (fun (r0 : (AV × AV × AV × AV × AV) → AH → Prop) (a : TE) (H : AH) => (show codeP PP CC (subC (bodyC PP 40) [1, 1, 1, 0, 1, 0, 0]) (exP (fun (a : TE) (H : AH) => r0 (a 1, a 2, a 5, a 13, a 14) H) (m_fieldfareref1_Book_Codetttht_k K)) a H = codeP PP CC (subC (bodyC PP 40) [1, 1, 1, 0, 1, 0, 0]) (m_fieldfareref1_Book_Codettthtb_k K r0) a H from by kernel_rfl).trans (m_fieldfareref1_Book_Codettthtbl_eq K r0 a H)) a H
  h1.trans h2
theorem m_fieldfareref1_Book_Codetttht_eq (K : AV → AH → Prop) (a : TE) (H : AH) : codeP PP CC (subC (bodyC PP 40) [1, 1, 1, 0, 1]) (m_fieldfareref1_Book_Codettt_k K) a H = m_fieldfareref1_Book_Codettthtb K (a 1) (a 2) (a 5) (a 13) (a 14) H :=
  have h1 : codeP PP CC (subC (bodyC PP 40) [1, 1, 1, 0, 1]) (m_fieldfareref1_Book_Codettt_k K) a H = codeP PP CC (subC (bodyC PP 40) [1, 1, 1, 0, 1, 0]) (m_fieldfareref1_Book_Codetttht_k K) a H := by kernel_rfl
  h1.trans (m_fieldfareref1_Book_Codettthtb_eq K a H)
abbrev m_fieldfareref1_Book_Codettth_k (K : AV → AH → Prop) : KP := exP (fun (a : TE) (H : AH) => m_fieldfareref1_Book_Codettthtb K (a 1) (a 2) (a 5) (a 13) (a 14) H) (m_fieldfareref1_Book_Codettt_k K)
def m_fieldfareref1_Book_Codettth (K : AV → AH → Prop) (x1 x2 x5 : AV) (H : AH) : Prop :=
  outP CC H (w_fieldAddr 0 H x2) fun v1 H1 =>
  outP CC H1 (w_load none H1 v1) fun v2 H2 =>
  outP CC H2 (w_len PP 27 H2 v2) fun v3 H3 =>
  m_fieldfareref1_Book_Codettthtb K x1 x2 x5 v3 (.int .i64 0) H3
theorem m_fieldfareref1_Book_Codettth_eq (K : AV → AH → Prop) (a : TE) (H : AH) : codeP PP CC (subC (bodyC PP 40) [1, 1, 1, 0]) (m_fieldfareref1_Book_Codettt_k K) a H = m_fieldfareref1_Book_Codettth K (a 1) (a 2) (a 5) H :=
  have h1 : codeP PP CC (subC (bodyC PP 40) [1, 1, 1, 0]) (m_fieldfareref1_Book_Codettt_k K) a H = codeP PP CC (subC (bodyC PP 40) [1, 1, 1, 0, 0]) (exP (codeP PP CC (subC (bodyC PP 40) [1, 1, 1, 0, 1]) (m_fieldfareref1_Book_Codettt_k K)) (m_fieldfareref1_Book_Codettt_k K)) a H := by kernel_rfl
  have h2 : codeP PP CC (subC (bodyC PP 40) [1, 1, 1, 0, 0]) (exP (codeP PP CC (subC (bodyC PP 40) [1, 1, 1, 0, 1]) (m_fieldfareref1_Book_Codettt_k K)) (m_fieldfareref1_Book_Codettt_k K)) a H = codeP PP CC (subC (bodyC PP 40) [1, 1, 1, 0, 0]) (exP (fun (a : TE) (H : AH) => m_fieldfareref1_Book_Codettthtb K (a 1) (a 2) (a 5) (a 13) (a 14) H) (m_fieldfareref1_Book_Codettt_k K)) a H := congrArg (fun k : KE => codeP PP CC (subC (bodyC PP 40) [1, 1, 1, 0, 0]) (exP k (m_fieldfareref1_Book_Codettt_k K)) a H) (funext fun a => funext fun H => m_fieldfareref1_Book_Codetttht_eq K a H)
  have h2b : codeP PP CC (subC (bodyC PP 40) [1, 1, 1, 0, 0]) (exP (fun (a : TE) (H : AH) => m_fieldfareref1_Book_Codettthtb K (a 1) (a 2) (a 5) (a 13) (a 14) H) (m_fieldfareref1_Book_Codettt_k K)) a H = codeP PP CC (subC (bodyC PP 40) [1, 1, 1, 0, 0]) (m_fieldfareref1_Book_Codettth_k K) a H := by kernel_rfl
  have h3 : codeP PP CC (subC (bodyC PP 40) [1, 1, 1, 0, 0]) (m_fieldfareref1_Book_Codettth_k K) a H = m_fieldfareref1_Book_Codettth K (a 1) (a 2) (a 5) H := by kernel_rfl
  ((h1.trans h2).trans h2b).trans h3
theorem m_fieldfareref1_Book_Codettt_eq (K : AV → AH → Prop) (a : TE) (H : AH) : codeP PP CC (subC (bodyC PP 40) [1, 1, 1]) (m_fieldfareref1_Book_Code_K K) a H = m_fieldfareref1_Book_Codettth K (a 1) (a 2) (a 5) H :=
  have h1 : codeP PP CC (subC (bodyC PP 40) [1, 1, 1]) (m_fieldfareref1_Book_Code_K K) a H = codeP PP CC (subC (bodyC PP 40) [1, 1, 1, 0]) (m_fieldfareref1_Book_Codettt_k K) a H := by kernel_rfl
  h1.trans (m_fieldfareref1_Book_Codettth_eq K a H)
abbrev m_fieldfareref1_Book_Codett_k (K : AV → AH → Prop) : KP := exP (fun (a : TE) (H : AH) => m_fieldfareref1_Book_Codettth K (a 1) (a 2) (a 5) H) (m_fieldfareref1_Book_Code_K K)
def m_fieldfareref1_Book_Codett (K : AV → AH → Prop) (x1 x2 x5 : AV) (H : AH) : Prop :=
  outP CC H (w_load (some 2) H x2) fun v1 H1 =>
  outP CC H1 (some (.enter 77 [v1])) fun v2 H2 =>
  outP CC H2 (w_un .not H2 v2) fun v3 H3 =>
  condP v3
  (K (.slice none 0 0 true) H3)
  (m_fieldfareref1_Book_Codettth K x1 x2 x5 H3)
theorem m_fieldfareref1_Book_Codett_eq (K : AV → AH → Prop) (a : TE) (H : AH) : codeP PP CC (subC (bodyC PP 40) [1, 1]) (m_fieldfareref1_Book_Code_K K) a H = m_fieldfareref1_Book_Codett K (a 1) (a 2) (a 5) H :=
  have h1 : codeP PP CC (subC (bodyC PP 40) [1, 1]) (m_fieldfareref1_Book_Code_K K) a H = codeP PP CC (subC (bodyC PP 40) [1, 1, 0]) (exP (codeP PP CC (subC (bodyC PP 40) [1, 1, 1]) (m_fieldfareref1_Book_Code_K K)) (m_fieldfareref1_Book_Code_K K)) a H := by kernel_rfl
  have h2 : codeP PP CC (subC (bodyC PP 40) [1, 1, 0]) (exP (codeP PP CC (subC (bodyC PP 40) [1, 1, 1]) (m_fieldfareref1_Book_Code_K K)) (m_fieldfareref1_Book_Code_K K)) a H = codeP PP CC (subC (bodyC PP 40) [1, 1, 0]) (exP (fun (a : TE) (H : AH) => m_fieldfareref1_Book_Codettth K (a 1) (a 2) (a 5) H) (m_fieldfareref1_Book_Code_K K)) a H := congrArg (fun k : KE => codeP PP CC (subC (bodyC PP 40) [1, 1, 0]) (exP k (m_fieldfareref1_Book_Code_K K)) a H) (funext fun a => funext fun H => m_fieldfareref1_Book_Codettt_eq K a H)
  have h2b : codeP PP CC (subC (bodyC PP 40) [1, 1, 0]) (exP (fun (a : TE) (H : AH) => m_fieldfareref1_Book_Codettth K (a 1) (a 2) (a 5) H) (m_fieldfareref1_Book_Code_K K)) a H = codeP PP CC (subC (bodyC PP 40) [1, 1, 0]) (m_fieldfareref1_Book_Codett_k K) a H := by kernel_rfl
  have h3 : codeP PP CC (subC (bodyC PP 40) [1, 1, 0]) (m_fieldfareref1_Book_Codett_k K) a H = m_fieldfareref1_Book_Codett K (a 1) (a 2) (a 5) H := by kernel_rfl
  ((h1.trans h2).trans h2b).trans h3
abbrev m_fieldfareref1_Book_Codet_k (K : AV → AH → Prop) : KP := exP (fun (a : TE) (H : AH) => m_fieldfareref1_Book_Codett K (a 1) (a 2) (a 5) H) (m_fieldfareref1_Book_Code_K K)
def m_fieldfareref1_Book_Codet (K : AV → AH → Prop) (x1 x2 : AV) (H : AH) : Prop :=
  m_fieldfareref1_Book_Codett K x1 x2 (.slice none 0 0 true) H
theorem m_fieldfareref1_Book_Codet_eq (K : AV → AH → Prop) (a : TE) (H : AH) : codeP PP CC (subC (bodyC PP 40) [1]) (m_fieldfareref1_Book_Code_K K) a H = m_fieldfareref1_Book_Codet K (a 1) (a 2) H :=
  have h1 : codeP PP CC (subC (bodyC PP 40) [1]) (m_fieldfareref1_Book_Code_K K) a H = codeP PP CC (subC (bodyC PP 40) [1, 0]) (exP (codeP PP CC (subC (bodyC PP 40) [1, 1]) (m_fieldfareref1_Book_Code_K K)) (m_fieldfareref1_Book_Code_K K)) a H := by kernel_rfl
  have h2 : codeP PP CC (subC (bodyC PP 40) [1, 0]) (exP (codeP PP CC (subC (bodyC PP 40) [1, 1]) (m_fieldfareref1_Book_Code_K K)) (m_fieldfareref1_Book_Code_K K)) a H = codeP PP CC (subC (bodyC PP 40) [1, 0]) (exP (fun (a : TE) (H : AH) => m_fieldfareref1_Book_Codett K (a 1) (a 2) (a 5) H) (m_fieldfareref1_Book_Code_K K)) a H := congrArg (fun k : KE => codeP PP CC (subC (bodyC PP 40) [1, 0]) (exP k (m_fieldfareref1_Book_Code_K K)) a H) (funext fun a => funext fun H => m_fieldfareref1_Book_Codett_eq K a H)
  have h2b : codeP PP CC (subC (bodyC PP 40) [1, 0]) (exP (fun (a : TE) (H : AH) => m_fieldfareref1_Book_Codett K (a 1) (a 2) (a 5) H) (m_fieldfareref1_Book_Code_K K)) a H = codeP PP CC (subC (bodyC PP 40) [1, 0]) (m_fieldfareref1_Book_Codet_k K) a H := by kernel_rfl
  have h3 : codeP PP CC (subC (bodyC PP 40) [1, 0]) (m_fieldfareref1_Book_Codet_k K) a H = m_fieldfareref1_Book_Codet K (a 1) (a 2) H := by kernel_rfl
  ((h1.trans h2).trans h2b).trans h3
abbrev m_fieldfareref1_Book_Code_k (K : AV → AH → Prop) : KP := exP (fun (a : TE) (H : AH) => m_fieldfareref1_Book_Codet K (a 1) (a 2) H) (m_fieldfareref1_Book_Code_K K)
def m_fieldfareref1_Book_Code (K : AV → AH → Prop) (x0 x1 : AV) (H : AH) : Prop :=
  outP CC H (w_box 67 H x0 none) fun v1 H1 =>
  m_fieldfareref1_Book_Codet K x1 v1 H1
theorem m_fieldfareref1_Book_Code_eq (K : AV → AH → Prop) (a : TE) (H : AH) : codeP PP CC (subC (bodyC PP 40) []) (m_fieldfareref1_Book_Code_K K) a H = m_fieldfareref1_Book_Code K (a 0) (a 1) H :=
  have h1 : codeP PP CC (subC (bodyC PP 40) []) (m_fieldfareref1_Book_Code_K K) a H = codeP PP CC (subC (bodyC PP 40) [0]) (exP (codeP PP CC (subC (bodyC PP 40) [1]) (m_fieldfareref1_Book_Code_K K)) (m_fieldfareref1_Book_Code_K K)) a H := by kernel_rfl
  have h2 : codeP PP CC (subC (bodyC PP 40) [0]) (exP (codeP PP CC (subC (bodyC PP 40) [1]) (m_fieldfareref1_Book_Code_K K)) (m_fieldfareref1_Book_Code_K K)) a H = codeP PP CC (subC (bodyC PP 40) [0]) (exP (fun (a : TE) (H : AH) => m_fieldfareref1_Book_Codet K (a 1) (a 2) H) (m_fieldfareref1_Book_Code_K K)) a H := congrArg (fun k : KE => codeP PP CC (subC (bodyC PP 40) [0]) (exP k (m_fieldfareref1_Book_Code_K K)) a H) (funext fun a => funext fun H => m_fieldfareref1_Book_Codet_eq K a H)
  have h2b : codeP PP CC (subC (bodyC PP 40) [0]) (exP (fun (a : TE) (H : AH) => m_fieldfareref1_Book_Codet K (a 1) (a 2) H) (m_fieldfareref1_Book_Code_K K)) a H = codeP PP CC (subC (bodyC PP 40) [0]) (m_fieldfareref1_Book_Code_k K) a H := by kernel_rfl
  have h3 : codeP PP CC (subC (bodyC PP 40) [0]) (m_fieldfareref1_Book_Code_k K) a H = m_fieldfareref1_Book_Code K (a 0) (a 1) H := by kernel_rfl
  ((h1.trans h2).trans h2b).trans h3
theorem m_fieldfareref1_Book_Code_ok (x0 x1 : AV) (H : AH) (K : AV → AH → Prop) (h : m_fieldfareref1_Book_Code K x0 x1 H) : CC.call 40 [x0, x1] H K :=
  have h1 : funP PP CC 40 [x0, x1] H K = codeP PP CC (subC (bodyC PP 40) []) (m_fieldfareref1_Book_Code_K K) (argE [x0, x1]) H := by kernel_rfl
  have h2 : m_fieldfareref1_Book_Code K (argE [x0, x1] 0) (argE [x0, x1] 1) H = m_fieldfareref1_Book_Code K x0 x1 H := by kernel_rfl
  funP_ok (P := PP) (by kernel_rfl) (by kernel_rfl) ((h1.trans ((m_fieldfareref1_Book_Code_eq K (argE [x0, x1]) H).trans h2)).mpr h)

/-! 41: fieldfare/quant.Back -/
abbrev m_quant_Back_K (K : AV → AH → Prop) : KP := finP PP (resC PP 41) K
abbrev m_quant_Backttt_k (K : AV → AH → Prop) : KP := exP (codeP PP CC (subC (bodyC PP 41) [1, 1, 1, 1]) (m_quant_Back_K K)) (m_quant_Back_K K)
abbrev m_quant_Backtttht_k (K : AV → AH → Prop) : KP := blockP 0 (m_quant_Backttt_k K)
abbrev m_quant_Backttthtb_k (K : AV → AH → Prop) (r0 : (AV × AV × AV × AV × AV) → AH → Prop) : KP := exP (fun (a : TE) (H : AH) => r0 (a 1, a 2, a 5, a 16, a 17) H) (m_quant_Backtttht_k K)
abbrev m_quant_Backttthtbltt_k (K : AV → AH → Prop) (r0 : (AV × AV × AV × AV × AV) → AH → Prop) : KP := exP (codeP PP CC (subC (bodyC PP 41) [1, 1, 1, 0, 1, 0, 0, 1, 1, 1]) (m_quant_Backttthtb_k K r0)) (m_quant_Backttthtb_k K r0)
abbrev m_quant_Backttthtbltth_k (K : AV → AH → Prop) (r0 : (AV × AV × AV × AV × AV) → AH → Prop) : KP := blockP 1 (m_quant_Backttthtbltt_k K r0)
def m_quant_Backttthtbltthbttt (_K : AV → AH → Prop) (r0 : (AV × AV × AV × AV × AV) → AH → Prop) (x1 x2 x5 x6 x7 x16 x17 : AV) (H : AH) : Prop :=
  outP CC H (w_max2 H x7 (.int .i64 (-1048576))) fun v1 H1 =>
  outP CC H1 (w_min2 H1 v1 (.int .i64 1048576)) fun v2 H2 =>
  outP CC H2 (w_conv (.int .i32) H2 v2 none) fun v3 H3 =>
  outP CC H3 (w_indexAddr (.sl 1) H3 x5 x6) fun v4 H4 =>
  outP CC H4 (w_store 1 H4 v4 v3) fun _v5 H5 =>
  outP CC H5 (w_int .add H5 x17 (.int .i64 1)) fun v6 H6 =>
  r0 (x1, x2, x5, x16, v6) H6
theorem m_quant_Backttthtbltthbttt_eq (K : AV → AH → Prop) (r0 : (AV × AV × AV × AV × AV) → AH → Prop) (a : TE) (H : AH) : codeP PP CC (subC (bodyC PP 41) [1, 1, 1, 0, 1, 0, 0, 1, 1, 0, 0, 1, 1, 1]) (m_quant_Backttthtbltth_k K r0) a H = m_quant_Backttthtbltthbttt K r0 (a 1) (a 2) (a 5) (a 6) (a 7) (a 16) (a 17) H :=
  by kernel_rfl
abbrev m_quant_Backttthtbltthbtt_k (K : AV → AH → Prop) (r0 : (AV × AV × AV × AV × AV) → AH → Prop) : KP := exP (fun (a : TE) (H : AH) => m_quant_Backttthtbltthbttt K r0 (a 1) (a 2) (a 5) (a 6) (a 7) (a 16) (a 17) H) (m_quant_Backttthtbltth_k K r0)
def m_quant_Backttthtbltthbtt (K : AV → AH → Prop) (r0 : (AV × AV × AV × AV × AV) → AH → Prop) (x1 x2 x5 x6 x7 x16 x17 : AV) (H : AH) : Prop :=
  outP CC H (w_len PP 72 H x1) fun v1 H1 =>
  outP CC H1 (w_int .lss H1 x6 v1) fun v2 H2 =>
  condP v2
  (outP CC H2 (w_fieldAddr 1 H2 x2) fun v3 H3 =>
  outP CC H3 (w_load none H3 v3) fun v4 H4 =>
  outP CC H4 (w_indexAddr (.sl 1) H4 v4 x6) fun v5 H5 =>
  outP CC H5 (w_load none H5 v5) fun v6 H6 =>
  outP CC H6 (w_conv (.int .i64) H6 v6 none) fun v7 H7 =>
  outP CC H7 (w_indexAddr (.sl 1) H7 x1 x6) fun v8 H8 =>
  outP CC H8 (w_load none H8 v8) fun v9 H9 =>
  outP CC H9 (w_conv (.int .i64) H9 v9 none) fun v10 H10 =>
  outP CC H10 (w_int .mul H10 v7 v10) fun v11 H11 =>
  outP CC H11 (w_int .add H11 x7 v11) fun v12 H12 =>
  m_quant_Backttthtbltthbttt K r0 x1 x2 x5 x6 v12 x16 x17 H12)
  (m_quant_Backttthtbltthbttt K r0 x1 x2 x5 x6 x7 x16 x17 H2)
theorem m_quant_Backttthtbltthbtt_eq (K : AV → AH → Prop) (r0 : (AV × AV × AV × AV × AV) → AH → Prop) (a : TE) (H : AH) : codeP PP CC (subC (bodyC PP 41) [1, 1, 1, 0, 1, 0, 0, 1, 1, 0, 0, 1, 1]) (m_quant_Backttthtbltth_k K r0) a H = m_quant_Backttthtbltthbtt K r0 (a 1) (a 2) (a 5) (a 6) (a 7) (a 16) (a 17) H :=
  have h1 : codeP PP CC (subC (bodyC PP 41) [1, 1, 1, 0, 1, 0, 0, 1, 1, 0, 0, 1, 1]) (m_quant_Backttthtbltth_k K r0) a H = codeP PP CC (subC (bodyC PP 41) [1, 1, 1, 0, 1, 0, 0, 1, 1, 0, 0, 1, 1, 0]) (exP (codeP PP CC (subC (bodyC PP 41) [1, 1, 1, 0, 1, 0, 0, 1, 1, 0, 0, 1, 1, 1]) (m_quant_Backttthtbltth_k K r0)) (m_quant_Backttthtbltth_k K r0)) a H := by kernel_rfl
  have h2 : codeP PP CC (subC (bodyC PP 41) [1, 1, 1, 0, 1, 0, 0, 1, 1, 0, 0, 1, 1, 0]) (exP (codeP PP CC (subC (bodyC PP 41) [1, 1, 1, 0, 1, 0, 0, 1, 1, 0, 0, 1, 1, 1]) (m_quant_Backttthtbltth_k K r0)) (m_quant_Backttthtbltth_k K r0)) a H = codeP PP CC (subC (bodyC PP 41) [1, 1, 1, 0, 1, 0, 0, 1, 1, 0, 0, 1, 1, 0]) (exP (fun (a : TE) (H : AH) => m_quant_Backttthtbltthbttt K r0 (a 1) (a 2) (a 5) (a 6) (a 7) (a 16) (a 17) H) (m_quant_Backttthtbltth_k K r0)) a H := congrArg (fun k : KE => codeP PP CC (subC (bodyC PP 41) [1, 1, 1, 0, 1, 0, 0, 1, 1, 0, 0, 1, 1, 0]) (exP k (m_quant_Backttthtbltth_k K r0)) a H) (funext fun a => funext fun H => m_quant_Backttthtbltthbttt_eq K r0 a H)
  have h2b : codeP PP CC (subC (bodyC PP 41) [1, 1, 1, 0, 1, 0, 0, 1, 1, 0, 0, 1, 1, 0]) (exP (fun (a : TE) (H : AH) => m_quant_Backttthtbltthbttt K r0 (a 1) (a 2) (a 5) (a 6) (a 7) (a 16) (a 17) H) (m_quant_Backttthtbltth_k K r0)) a H = codeP PP CC (subC (bodyC PP 41) [1, 1, 1, 0, 1, 0, 0, 1, 1, 0, 0, 1, 1, 0]) (m_quant_Backttthtbltthbtt_k K r0) a H := by kernel_rfl
  have h3 : codeP PP CC (subC (bodyC PP 41) [1, 1, 1, 0, 1, 0, 0, 1, 1, 0, 0, 1, 1, 0]) (m_quant_Backttthtbltthbtt_k K r0) a H = m_quant_Backttthtbltthbtt K r0 (a 1) (a 2) (a 5) (a 6) (a 7) (a 16) (a 17) H := by kernel_rfl
  ((h1.trans h2).trans h2b).trans h3
abbrev m_quant_Backttthtbltthbt_k (K : AV → AH → Prop) (r0 : (AV × AV × AV × AV × AV) → AH → Prop) : KP := exP (fun (a : TE) (H : AH) => m_quant_Backttthtbltthbtt K r0 (a 1) (a 2) (a 5) (a 6) (a 7) (a 16) (a 17) H) (m_quant_Backttthtbltth_k K r0)
def m_quant_Backttthtbltthbt (K : AV → AH → Prop) (r0 : (AV × AV × AV × AV × AV) → AH → Prop) (x1 x2 x5 x6 x16 x17 : AV) (H : AH) : Prop :=
  outP CC H (w_fieldAddr 0 H x2) fun v1 H1 =>
  outP CC H1 (w_load none H1 v1) fun v2 H2 =>
  outP CC H2 (w_indexAddr (.sl 1) H2 v2 x6) fun v3 H3 =>
  outP CC H3 (w_load none H3 v3) fun v4 H4 =>
  outP CC H4 (w_conv (.int .i64) H4 v4 none) fun v5 H5 =>
  m_quant_Backttthtbltthbtt K r0 x1 x2 x5 x6 v5 x16 x17 H5
theorem m_quant_Backttthtbltthbt_eq (K : AV → AH → Prop) (r0 : (AV × AV × AV × AV × AV) → AH → Prop) (a : TE) (H : AH) : codeP PP CC (subC (bodyC PP 41) [1, 1, 1, 0, 1, 0, 0, 1, 1, 0, 0, 1]) (m_quant_Backttthtbltth_k K r0) a H = m_quant_Backttthtbltthbt K r0 (a 1) (a 2) (a 5) (a 6) (a 16) (a 17) H :=
  have h1 : codeP PP CC (subC (bodyC PP 41) [1, 1, 1, 0, 1, 0, 0, 1, 1, 0, 0, 1]) (m_quant_Backttthtbltth_k K r0) a H = codeP PP CC (subC (bodyC PP 41) [1, 1, 1, 0, 1, 0, 0, 1, 1, 0, 0, 1, 0]) (exP (codeP PP CC (subC (bodyC PP 41) [1, 1, 1, 0, 1, 0, 0, 1, 1, 0, 0, 1, 1]) (m_quant_Backttthtbltth_k K r0)) (m_quant_Backttthtbltth_k K r0)) a H := by kernel_rfl
  have h2 : codeP PP CC (subC (bodyC PP 41) [1, 1, 1, 0, 1, 0, 0, 1, 1, 0, 0, 1, 0]) (exP (codeP PP CC (subC (bodyC PP 41) [1, 1, 1, 0, 1, 0, 0, 1, 1, 0, 0, 1, 1]) (m_quant_Backttthtbltth_k K r0)) (m_quant_Backttthtbltth_k K r0)) a H = codeP PP CC (subC (bodyC PP 41) [1, 1, 1, 0, 1, 0, 0, 1, 1, 0, 0, 1, 0]) (exP (fun (a : TE) (H : AH) => m_quant_Backttthtbltthbtt K r0 (a 1) (a 2) (a 5) (a 6) (a 7) (a 16) (a 17) H) (m_quant_Backttthtbltth_k K r0)) a H := congrArg (fun k : KE => codeP PP CC (subC (bodyC PP 41) [1, 1, 1, 0, 1, 0, 0, 1, 1, 0, 0, 1, 0]) (exP k (m_quant_Backttthtbltth_k K r0)) a H) (funext fun a => funext fun H => m_quant_Backttthtbltthbtt_eq K r0 a H)
  have h2b : codeP PP CC (subC (bodyC PP 41) [1, 1, 1, 0, 1, 0, 0, 1, 1, 0, 0, 1, 0]) (exP (fun (a : TE) (H : AH) => m_quant_Backttthtbltthbtt K r0 (a 1) (a 2) (a 5) (a 6) (a 7) (a 16) (a 17) H) (m_quant_Backttthtbltth_k K r0)) a H = codeP PP CC (subC (bodyC PP 41) [1, 1, 1, 0, 1, 0, 0, 1, 1, 0, 0, 1, 0]) (m_quant_Backttthtbltthbt_k K r0) a H := by kernel_rfl
  have h3 : codeP PP CC (subC (bodyC PP 41) [1, 1, 1, 0, 1, 0, 0, 1, 1, 0, 0, 1, 0]) (m_quant_Backttthtbltthbt_k K r0) a H = m_quant_Backttthtbltthbt K r0 (a 1) (a 2) (a 5) (a 6) (a 16) (a 17) H := by kernel_rfl
  ((h1.trans h2).trans h2b).trans h3
abbrev m_quant_Backttthtbltthb_k (K : AV → AH → Prop) (r0 : (AV × AV × AV × AV × AV) → AH → Prop) : KP := exP (fun (a : TE) (H : AH) => m_quant_Backttthtbltthbt K r0 (a 1) (a 2) (a 5) (a 6) (a 16) (a 17) H) (m_quant_Backttthtbltth_k K r0)
def m_quant_Backttthtbltthb (K : AV → AH → Prop) (r0 : (AV × AV × AV × AV × AV) → AH → Prop) (x1 x2 x5 x16 x17 : AV) (H : AH) : Prop :=
  m_quant_Backttthtbltthbt K r0 x1 x2 x5 x17 x16 x17 H
theorem m_quant_Backttthtbltthb_eq (K : AV → AH → Prop) (r0 : (AV × AV × AV × AV × AV) → AH → Prop) (a : TE) (H : AH) : codeP PP CC (subC (bodyC PP 41) [1, 1, 1, 0, 1, 0, 0, 1, 1, 0, 0]) (m_quant_Backttthtbltth_k K r0) a H = m_quant_Backttthtbltthb K r0 (a 1) (a 2) (a 5) (a 16) (a 17) H :=
  have h1 : codeP PP CC (subC (bodyC PP 41) [1, 1, 1, 0, 1, 0, 0, 1, 1, 0, 0]) (m_quant_Backttthtbltth_k K r0) a H = codeP PP CC (subC (bodyC PP 41) [1, 1, 1, 0, 1, 0, 0, 1, 1, 0, 0, 0]) (exP (codeP PP CC (subC (bodyC PP 41) [1, 1, 1, 0, 1, 0, 0, 1, 1, 0, 0, 1]) (m_quant_Backttthtbltth_k K r0)) (m_quant_Backttthtbltth_k K r0)) a H := by kernel_rfl
  have h2 : codeP PP CC (subC (bodyC PP 41) [1, 1, 1, 0, 1, 0, 0, 1, 1, 0, 0, 0]) (exP (codeP PP CC (subC (bodyC PP 41) [1, 1, 1, 0, 1, 0, 0, 1, 1, 0, 0, 1]) (m_quant_Backttthtbltth_k K r0)) (m_quant_Backttthtbltth_k K r0)) a H = codeP PP CC (subC (bodyC PP 41) [1, 1, 1, 0, 1, 0, 0, 1, 1, 0, 0, 0]) (exP (fun (a : TE) (H : AH) => m_quant_Backttthtbltthbt K r0 (a 1) (a 2) (a 5) (a 6) (a 16) (a 17) H) (m_quant_Backttthtbltth_k K r0)) a H := congrArg (fun k : KE => codeP PP CC (subC (bodyC PP 41) [1, 1, 1, 0, 1, 0, 0, 1, 1, 0, 0, 0]) (exP k (m_quant_Backttthtbltth_k K r0)) a H) (funext fun a => funext fun H => m_quant_Backttthtbltthbt_eq K r0 a H)
  have h2b : codeP PP CC (subC (bodyC PP 41) [1, 1, 1, 0, 1, 0, 0, 1, 1, 0, 0, 0]) (exP (fun (a : TE) (H : AH) => m_quant_Backttthtbltthbt K r0 (a 1) (a 2) (a 5) (a 6) (a 16) (a 17) H) (m_quant_Backttthtbltth_k K r0)) a H = codeP PP CC (subC (bodyC PP 41) [1, 1, 1, 0, 1, 0, 0, 1, 1, 0, 0, 0]) (m_quant_Backttthtbltthb_k K r0) a H := by kernel_rfl
  have h3 : codeP PP CC (subC (bodyC PP 41) [1, 1, 1, 0, 1, 0, 0, 1, 1, 0, 0, 0]) (m_quant_Backttthtbltthb_k K r0) a H = m_quant_Backttthtbltthb K r0 (a 1) (a 2) (a 5) (a 16) (a 17) H := by kernel_rfl
  ((h1.trans h2).trans h2b).trans h3
theorem m_quant_Backttthtbltth_eq (K : AV → AH → Prop) (r0 : (AV × AV × AV × AV × AV) → AH → Prop) (a : TE) (H : AH) : codeP PP CC (subC (bodyC PP 41) [1, 1, 1, 0, 1, 0, 0, 1, 1, 0]) (m_quant_Backttthtbltt_k K r0) a H = m_quant_Backttthtbltthb K r0 (a 1) (a 2) (a 5) (a 16) (a 17) H :=
  have h1 : codeP PP CC (subC (bodyC PP 41) [1, 1, 1, 0, 1, 0, 0, 1, 1, 0]) (m_quant_Backttthtbltt_k K r0) a H = codeP PP CC (subC (bodyC PP 41) [1, 1, 1, 0, 1, 0, 0, 1, 1, 0, 0]) (m_quant_Backttthtbltth_k K r0) a H := by kernel_rfl
  h1.trans (m_quant_Backttthtbltthb_eq K r0 a H)
theorem m_quant_Backttthtbltt_eq (K : AV → AH → Prop) (r0 : (AV × AV × AV × AV × AV) → AH → Prop) (a : TE) (H : AH) : codeP PP CC (subC (bodyC PP 41) [1, 1, 1, 0, 1, 0, 0, 1, 1]) (m_quant_Backttthtb_k K r0) a H = m_quant_Backttthtbltthb K r0 (a 1) (a 2) (a 5) (a 16) (a 17) H :=
  have h1 : codeP PP CC (subC (bodyC PP 41) [1, 1, 1, 0, 1, 0, 0, 1, 1]) (m_quant_Backttthtb_k K r0) a H = codeP PP CC (subC (bodyC PP 41) [1, 1, 1, 0, 1, 0, 0, 1, 1, 0]) (m_quant_Backttthtbltt_k K r0) a H := by kernel_rfl
  h1.trans (m_quant_Backttthtbltth_eq K r0 a H)
abbrev m_quant_Backttthtblt_k (K : AV → AH → Prop) (r0 : (AV × AV × AV × AV × AV) → AH → Prop) : KP := exP (fun (a : TE) (H : AH) => m_quant_Backttthtbltthb K r0 (a 1) (a 2) (a 5) (a 16) (a 17) H) (m_quant_Backttthtb_k K r0)
def m_quant_Backttthtblt (K : AV → AH → Prop) (r0 : (AV × AV × AV × AV × AV) → AH → Prop) (x1 x2 x5 x16 x17 x18 : AV) (H : AH) : Prop :=
  condP x18
  (m_quant_Backttthtbltthb K r0 x1 x2 x5 x16 x17 H)
  (K x5 H)
theorem m_quant_Backttthtblt_eq (K : AV → AH → Prop) (r0 : (AV × AV × AV × AV × AV) → AH → Prop) (a : TE) (H : AH) : codeP PP CC (subC (bodyC PP 41) [1, 1, 1, 0, 1, 0, 0, 1]) (m_quant_Backttthtb_k K r0) a H = m_quant_Backttthtblt K r0 (a 1) (a 2) (a 5) (a 16) (a 17) (a 18) H :=
  have h1 : codeP PP CC (subC (bodyC PP 41) [1, 1, 1, 0, 1, 0, 0, 1]) (m_quant_Backttthtb_k K r0) a H = codeP PP CC (subC (bodyC PP 41) [1, 1, 1, 0, 1, 0, 0, 1, 0]) (exP (codeP PP CC (subC (bodyC PP 41) [1, 1, 1, 0, 1, 0, 0, 1, 1]) (m_quant_Backttthtb_k K r0)) (m_quant_Backttthtb_k K r0)) a H := by kernel_rfl
  have h2 : codeP PP CC (subC (bodyC PP 41) [1, 1, 1, 0, 1, 0, 0, 1, 0]) (exP (codeP PP CC (subC (bodyC PP 41) [1, 1, 1, 0, 1, 0, 0, 1, 1]) (m_quant_Backttthtb_k K r0)) (m_quant_Backttthtb_k K r0)) a H = codeP PP CC (subC (bodyC PP 41) [1, 1, 1, 0, 1, 0, 0, 1, 0]) (exP (fun (a : TE) (H : AH) => m_quant_Backttthtbltthb K r0 (a 1) (a 2) (a 5) (a 16) (a 17) H) (m_quant_Backttthtb_k K r0)) a H := congrArg (fun k : KE => codeP PP CC (subC (bodyC PP 41) [1, 1, 1, 0, 1, 0, 0, 1, 0]) (exP k (m_quant_Backttthtb_k K r0)) a H) (funext fun a => funext fun H => m_quant_Backttthtbltt_eq K r0 a H)
  have h2b : codeP PP CC (subC (bodyC PP 41) [1, 1, 1, 0, 1, 0, 0, 1, 0]) (exP (fun (a : TE) (H : AH) => m_quant_Backttthtbltthb K r0 (a 1) (a 2) (a 5) (a 16) (a 17) H) (m_quant_Backttthtb_k K r0)) a H = codeP PP CC (subC (bodyC PP 41) [1, 1, 1, 0, 1, 0, 0, 1, 0]) (m_quant_Backttthtblt_k K r0) a H := by kernel_rfl
  have h3 : codeP PP CC (subC (bodyC PP 41) [1, 1, 1, 0, 1, 0, 0, 1, 0]) (m_quant_Backttthtblt_k K r0) a H = m_quant_Backttthtblt K r0 (a 1) (a 2) (a 5) (a 16) (a 17) (a 18) H := by kernel_rfl
  ((h1.trans h2).trans h2b).trans h3
abbrev m_quant_Backttthtbl_k (K : AV → AH → Prop) (r0 : (AV × AV × AV × AV × AV) → AH → Prop) : KP := exP (fun (a : TE) (H : AH) => m_quant_Backttthtblt K r0 (a 1) (a 2) (a 5) (a 16) (a 17) (a 18) H) (m_quant_Backttthtb_k K r0)
def m_quant_Backttthtbl (K : AV → AH → Prop) (r0 : (AV × AV × AV × AV × AV) → AH → Prop) (x1 x2 x5 x16 x17 : AV) (H : AH) : Prop :=
  outP CC H (w_int .lss H x17 x16) fun v1 H1 =>
  m_quant_Backttthtblt K r0 x1 x2 x5 x16 x17 v1 H1
theorem m_quant_Backttthtbl_eq (K : AV → AH → Prop) (r0 : (AV × AV × AV × AV × AV) → AH → Prop) (a : TE) (H : AH) : codeP PP CC (subC (bodyC PP 41) [1, 1, 1, 0, 1, 0, 0]) (m_quant_Backttthtb_k K r0) a H = m_quant_Backttthtbl K r0 (a 1) (a 2) (a 5) (a 16) (a 17) H :=
  have h1 : codeP PP CC (subC (bodyC PP 41) [1, 1, 1, 0, 1, 0, 0]) (m_quant_Backttthtb_k K r0) a H = codeP PP CC (subC (bodyC PP 41) [1, 1, 1, 0, 1, 0, 0, 0]) (exP (codeP PP CC (subC (bodyC PP 41) [1, 1, 1, 0, 1, 0, 0, 1]) (m_quant_Backttthtb_k K r0)) (m_quant_Backttthtb_k K r0)) a H := by kernel_rfl
  have h2 : codeP PP CC (subC (bodyC PP 41) [1, 1, 1, 0, 1, 0, 0, 0]) (exP (codeP PP CC (subC (bodyC PP 41) [1, 1, 1, 0, 1, 0, 0, 1]) (m_quant_Backttthtb_k K r0)) (m_quant_Backttthtb_k K r0)) a H = codeP PP CC (subC (bodyC PP 41) [1, 1, 1, 0, 1, 0, 0, 0]) (exP (fun (a : TE) (H : AH) => m_quant_Backttthtblt K r0 (a 1) (a 2) (a 5) (a 16) (a 17) (a 18) H) (m_quant_Backttthtb_k K r0)) a H := congrArg (fun k : KE => codeP PP CC (subC (bodyC PP 41) [1, 1, 1, 0, 1, 0, 0, 0]) (exP k (m_quant_Backttthtb_k K r0)) a H) (funext fun a => funext fun H => m_quant_Backttthtblt_eq K r0 a H)
  have h2b : codeP PP CC (subC (bodyC PP 41) [1, 1, 1, 0, 1, 0, 0, 0]) (exP (fun (a : TE) (H : AH) => m_quant_Backttthtblt K r0 (a 1) (a 2) (a 5) (a 16) (a 17) (a 18) H) (m_quant_Backttthtb_k K r0)) a H = codeP PP CC (subC (bodyC PP 41) [1, 1, 1, 0, 1, 0, 0, 0]) (m_quant_Backttthtbl_k K r0) a H := by kernel_rfl
  have h3 : codeP PP CC (subC (bodyC PP 41) [1, 1, 1, 0, 1, 0, 0, 0]) (m_quant_Backttthtbl_k K r0) a H = m_quant_Backttthtbl K r0 (a 1) (a 2) (a 5) (a 16) (a 17) H := by kernel_rfl
  ((h1.trans h2).trans h2b).trans h3
def m_quant_Backttthtb (K : AV → AH → Prop) (x1 x2 x5 x16 x17 : AV) (H : AH) : Prop :=
  loopP (fun (r0 : (AV × AV × AV × AV × AV) → AH → Prop) (s : (AV × AV × AV × AV × AV)) (H : AH) => m_quant_Backttthtbl K r0 s.1 s.2.1 s.2.2.1 s.2.2.2.1 s.2.2.2.2 H) (x1, x2, x5, x16, x17) H
theorem m_quant_Backttthtb_eq (K : AV → AH → Prop) (a : TE) (H : AH) : codeP PP CC (subC (bodyC PP 41) [1, 1, 1, 0, 1, 0]) (m_quant_Backtttht_k K) a H = m_quant_Backttthtb K (a 1) (a 2) (a 5) (a 16) (a 17) H :=
  have h1 : codeP PP CC (subC (bodyC PP 41) [1, 1, 1, 0, 1, 0]) (m_quant_Backtttht_k K) a H = loopP (fun (rec : KE) => codeP PP CC (subC (bodyC PP 41) [1, 1, 1, 0, 1, 0, 0]) (exP rec (m_quant_Backtttht_k K))) a H := by kernel_rfl
  have h2 := loopP_iso (F := fun (rec : KE) => codeP PP CC (subC (bodyC PP 41) [1, 1, 1, 0, 1, 0, 0]) (exP rec (m_quant_Backtttht_k K))) (S := (AV × AV × AV × AV × AV)) (fun a => (a 1, a 2, a 5, a 16, a 17)) (fun (r0 : (AV × AV × AV × AV × AV) → AH → Prop) (s : (AV × AV × AV × AV × AV)) (H : AH) => m_quant_Backttthtbl K r0 s.1 s.2.1 s.2.2.1 s.2.2.2.1 s.2.2.2.2 H) (fun (r0 : (AV × AV × AV × AV × AV) → AH → Prop) (a : TE) (H : AH) => (show codeP PP CC (subC (bodyC PP 41) [1, 1, 1, 0, 1, 0, 0]) (exP (fun (a : TE) (H : AH) => r0 (a 1, a 2, a 5, a 16, a 17) H) (m_quant_Backtttht_k K)) a H = codeP PP CC (subC (bodyC PP 41) [1, 1, 1, 0, 1, 0, 0]) (m_quant_Backttthtb_k K r0) a H from by kernel_rfl).trans (m_quant_Backttthtbl_eq K r0 a H)) a H
  h1.trans h2
theorem m_quant_Backtttht_eq (K : AV → AH → Prop) (a : TE) (H : AH) : codeP PP CC (subC (bodyC PP 41) [1, 1, 1, 0, 1]) (m_quant_Backttt_k K) a H = m_quant_Backttthtb K (a 1) (a 2) (a 5) (a 16) (a 17) H :=
  have h1 : codeP PP CC (subC (bodyC PP 41) [1, 1, 1, 0, 1]) (m_quant_Backttt_k K) a H = codeP PP CC (subC (bodyC PP 41) [1, 1, 1, 0, 1, 0]) (m_quant_Backtttht_k K) a H := by kernel_rfl
  h1.trans (m_quant_Backttthtb_eq K a H)
abbrev m_quant_Backttth_k (K : AV → AH → Prop) : KP := exP (fun (a : TE) (H : AH) => m_quant_Backttthtb K (a 1) (a 2) (a 5) (a 16) (a 17) H) (m_quant_Backttt_k K)
def m_quant_Backttth (K : AV → AH → Prop) (x1 x2 x5 : AV) (H : AH) : Prop :=
  outP CC H (w_len PP 28 H x5) fun v1 H1 =>
  m_quant_Backttthtb K x1 x2 x5 v1 (.int .i64 0) H1
theorem m_quant_Backttth_eq (K : AV → AH → Prop) (a : TE) (H : AH) : codeP PP CC (subC (bodyC PP 41) [1, 1, 1, 0]) (m_quant_Backttt_k K) a H = m_quant_Backttth K (a 1) (a 2) (a 5) H :=
  have h1 : codeP PP CC (subC (bodyC PP 41) [1, 1, 1, 0]) (m_quant_Backttt_k K) a H = codeP PP CC (subC (bodyC PP 41) [1, 1, 1, 0, 0]) (exP (codeP PP CC (subC (bodyC PP 41) [1, 1, 1, 0, 1]) (m_quant_Backttt_k K)) (m_quant_Backttt_k K)) a H := by kernel_rfl
  have h2 : codeP PP CC (subC (bodyC PP 41) [1, 1, 1, 0, 0]) (exP (codeP PP CC (subC (bodyC PP 41) [1, 1, 1, 0, 1]) (m_quant_Backttt_k K)) (m_quant_Backttt_k K)) a H = codeP PP CC (subC (bodyC PP 41) [1, 1, 1, 0, 0]) (exP (fun (a : TE) (H : AH) => m_quant_Backttthtb K (a 1) (a 2) (a 5) (a 16) (a 17) H) (m_quant_Backttt_k K)) a H := congrArg (fun k : KE => codeP PP CC (subC (bodyC PP 41) [1, 1, 1, 0, 0]) (exP k (m_quant_Backttt_k K)) a H) (funext fun a => funext fun H => m_quant_Backtttht_eq K a H)
  have h2b : codeP PP CC (subC (bodyC PP 41) [1, 1, 1, 0, 0]) (exP (fun (a : TE) (H : AH) => m_quant_Backttthtb K (a 1) (a 2) (a 5) (a 16) (a 17) H) (m_quant_Backttt_k K)) a H = codeP PP CC (subC (bodyC PP 41) [1, 1, 1, 0, 0]) (m_quant_Backttth_k K) a H := by kernel_rfl
  have h3 : codeP PP CC (subC (bodyC PP 41) [1, 1, 1, 0, 0]) (m_quant_Backttth_k K) a H = m_quant_Backttth K (a 1) (a 2) (a 5) H := by kernel_rfl
  ((h1.trans h2).trans h2b).trans h3
theorem m_quant_Backttt_eq (K : AV → AH → Prop) (a : TE) (H : AH) : codeP PP CC (subC (bodyC PP 41) [1, 1, 1]) (m_quant_Back_K K) a H = m_quant_Backttth K (a 1) (a 2) (a 5) H :=
  have h1 : codeP PP CC (subC (bodyC PP 41) [1, 1, 1]) (m_quant_Back_K K) a H = codeP PP CC (subC (bodyC PP 41) [1, 1, 1, 0]) (m_quant_Backttt_k K) a H := by kernel_rfl
  h1.trans (m_quant_Backttth_eq K a H)
abbrev m_quant_Backtt_k (K : AV → AH → Prop) : KP := exP (fun (a : TE) (H : AH) => m_quant_Backttth K (a 1) (a 2) (a 5) H) (m_quant_Back_K K)
def m_quant_Backtt (K : AV → AH → Prop) (x1 x2 : AV) (H : AH) : Prop :=
  outP CC H (w_fieldAddr 0 H x2) fun v1 H1 =>
  outP CC H1 (w_load none H1 v1) fun v2 H2 =>
  outP CC H2 (w_len PP 27 H2 v2) fun v3 H3 =>
  outP CC H3 (w_makeSlice PP 21 H3 v3 v3 none) fun v4 H4 =>
  m_quant_Backttth K x1 x2 v4 H4
theorem m_quant_Backtt_eq (K : AV → AH → Prop) (a : TE) (H : AH) : codeP PP CC (subC (bodyC PP 41) [1, 1]) (m_quant_Back_K K) a H = m_quant_Backtt K (a 1) (a 2) H :=
  have h1 : codeP PP CC (subC (bodyC PP 41) [1, 1]) (m_quant_Back_K K) a H = codeP PP CC (subC (bodyC PP 41) [1, 1, 0]) (exP (codeP PP CC (subC (bodyC PP 41) [1, 1, 1]) (m_quant_Back_K K)) (m_quant_Back_K K)) a H := by kernel_rfl
  have h2 : codeP PP CC (subC (bodyC PP 41) [1, 1, 0]) (exP (codeP PP CC (subC (bodyC PP 41) [1, 1, 1]) (m_quant_Back_K K)) (m_quant_Back_K K)) a H = codeP PP CC (subC (bodyC PP 41) [1, 1, 0]) (exP (fun (a : TE) (H : AH) => m_quant_Backttth K (a 1) (a 2) (a 5) H) (m_quant_Back_K K)) a H := congrArg (fun k : KE => codeP PP CC (subC (bodyC PP 41) [1, 1, 0]) (exP k (m_quant_Back_K K)) a H) (funext fun a => funext fun H => m_quant_Backttt_eq K a H)
  have h2b : codeP PP CC (subC (bodyC PP 41) [1, 1, 0]) (exP (fun (a : TE) (H : AH) => m_quant_Backttth K (a 1) (a 2) (a 5) H) (m_quant_Back_K K)) a H = codeP PP CC (subC (bodyC PP 41) [1, 1, 0]) (m_quant_Backtt_k K) a H := by kernel_rfl
  have h3 : codeP PP CC (subC (bodyC PP 41) [1, 1, 0]) (m_quant_Backtt_k K) a H = m_quant_Backtt K (a 1) (a 2) H := by kernel_rfl
  ((h1.trans h2).trans h2b).trans h3
abbrev m_quant_Backt_k (K : AV → AH → Prop) : KP := exP (fun (a : TE) (H : AH) => m_quant_Backtt K (a 1) (a 2) H) (m_quant_Back_K K)
def m_quant_Backt (K : AV → AH → Prop) (x1 x2 : AV) (H : AH) : Prop :=
  outP CC H (w_load (some 2) H x2) fun v1 H1 =>
  outP CC H1 (some (.enter 75 [v1])) fun v2 H2 =>
  outP CC H2 (w_un .not H2 v2) fun v3 H3 =>
  condP v3
  (K (.slice none 0 0 true) H3)
  (m_quant_Backtt K x1 x2 H3)
theorem m_quant_Backt_eq (K : AV → AH → Prop) (a : TE) (H : AH) : codeP PP CC (subC (bodyC PP 41) [1]) (m_quant_Back_K K) a H = m_quant_Backt K (a 1) (a 2) H :=
  have h1 : codeP PP CC (subC (bodyC PP 41) [1]) (m_quant_Back_K K) a H = codeP PP CC (subC (bodyC PP 41) [1, 0]) (exP (codeP PP CC (subC (bodyC PP 41) [1, 1]) (m_quant_Back_K K)) (m_quant_Back_K K)) a H := by kernel_rfl
  have h2 : codeP PP CC (subC (bodyC PP 41) [1, 0]) (exP (codeP PP CC (subC (bodyC PP 41) [1, 1]) (m_quant_Back_K K)) (m_quant_Back_K K)) a H = codeP PP CC (subC (bodyC PP 41) [1, 0]) (exP (fun (a : TE) (H : AH) => m_quant_Backtt K (a 1) (a 2) H) (m_quant_Back_K K)) a H := congrArg (fun k : KE => codeP PP CC (subC (bodyC PP 41) [1, 0]) (exP k (m_quant_Back_K K)) a H) (funext fun a => funext fun H => m_quant_Backtt_eq K a H)
  have h2b : codeP PP CC (subC (bodyC PP 41) [1, 0]) (exP (fun (a : TE) (H : AH) => m_quant_Backtt K (a 1) (a 2) H) (m_quant_Back_K K)) a H = codeP PP CC (subC (bodyC PP 41) [1, 0]) (m_quant_Backt_k K) a H := by kernel_rfl
  have h3 : codeP PP CC (subC (bodyC PP 41) [1, 0]) (m_quant_Backt_k K) a H = m_quant_Backt K (a 1) (a 2) H := by kernel_rfl
  ((h1.trans h2).trans h2b).trans h3
abbrev m_quant_Back_k (K : AV → AH → Prop) : KP := exP (fun (a : TE) (H : AH) => m_quant_Backt K (a 1) (a 2) H) (m_quant_Back_K K)
def m_quant_Back (K : AV → AH → Prop) (x0 x1 : AV) (H : AH) : Prop :=
  outP CC H (w_box 65 H x0 none) fun v1 H1 =>
  m_quant_Backt K x1 v1 H1
theorem m_quant_Back_eq (K : AV → AH → Prop) (a : TE) (H : AH) : codeP PP CC (subC (bodyC PP 41) []) (m_quant_Back_K K) a H = m_quant_Back K (a 0) (a 1) H :=
  have h1 : codeP PP CC (subC (bodyC PP 41) []) (m_quant_Back_K K) a H = codeP PP CC (subC (bodyC PP 41) [0]) (exP (codeP PP CC (subC (bodyC PP 41) [1]) (m_quant_Back_K K)) (m_quant_Back_K K)) a H := by kernel_rfl
  have h2 : codeP PP CC (subC (bodyC PP 41) [0]) (exP (codeP PP CC (subC (bodyC PP 41) [1]) (m_quant_Back_K K)) (m_quant_Back_K K)) a H = codeP PP CC (subC (bodyC PP 41) [0]) (exP (fun (a : TE) (H : AH) => m_quant_Backt K (a 1) (a 2) H) (m_quant_Back_K K)) a H := congrArg (fun k : KE => codeP PP CC (subC (bodyC PP 41) [0]) (exP k (m_quant_Back_K K)) a H) (funext fun a => funext fun H => m_quant_Backt_eq K a H)
  have h2b : codeP PP CC (subC (bodyC PP 41) [0]) (exP (fun (a : TE) (H : AH) => m_quant_Backt K (a 1) (a 2) H) (m_quant_Back_K K)) a H = codeP PP CC (subC (bodyC PP 41) [0]) (m_quant_Back_k K) a H := by kernel_rfl
  have h3 : codeP PP CC (subC (bodyC PP 41) [0]) (m_quant_Back_k K) a H = m_quant_Back K (a 0) (a 1) H := by kernel_rfl
  ((h1.trans h2).trans h2b).trans h3
theorem m_quant_Back_ok (x0 x1 : AV) (H : AH) (K : AV → AH → Prop) (h : m_quant_Back K x0 x1 H) : CC.call 41 [x0, x1] H K :=
  have h1 : funP PP CC 41 [x0, x1] H K = codeP PP CC (subC (bodyC PP 41) []) (m_quant_Back_K K) (argE [x0, x1]) H := by kernel_rfl
  have h2 : m_quant_Back K (argE [x0, x1] 0) (argE [x0, x1] 1) H = m_quant_Back K x0 x1 H := by kernel_rfl
  funP_ok (P := PP) (by kernel_rfl) (by kernel_rfl) ((h1.trans ((m_quant_Back_eq K (argE [x0, x1]) H).trans h2)).mpr h)

/-! 42: (fieldfare/fieldfareref1.Book).Back -/
abbrev m_fieldfareref1_Book_Back_K (K : AV → AH → Prop) : KP := finP PP (resC PP 42) K
abbrev m_fieldfareref1_Book_Backttt_k (K : AV → AH → Prop) : KP := exP (codeP PP CC (subC (bodyC PP 42) [1, 1, 1, 1]) (m_fieldfareref1_Book_Back_K K)) (m_fieldfareref1_Book_Back_K K)
abbrev m_fieldfareref1_Book_Backtttht_k (K : AV → AH → Prop) : KP := blockP 0 (m_fieldfareref1_Book_Backttt_k K)
abbrev m_fieldfareref1_Book_Backttthtb_k (K : AV → AH → Prop) (r0 : (AV × AV × AV × AV × AV) → AH → Prop) : KP := exP (fun (a : TE) (H : AH) => r0 (a 1, a 2, a 5, a 13, a 14) H) (m_fieldfareref1_Book_Backtttht_k K)
abbrev m_fieldfareref1_Book_Backttthtbltt_k (K : AV → AH → Prop) (r0 : (AV × AV × AV × AV × AV) → AH → Prop) : KP := exP (codeP PP CC (subC (bodyC PP 42) [1, 1, 1, 0, 1, 0, 0, 1, 1, 1]) (m_fieldfareref1_Book_Backttthtb_k K r0)) (m_fieldfareref1_Book_Backttthtb_k K r0)
abbrev m_fieldfareref1_Book_Backttthtbltth_k (K : AV → AH → Prop) (r0 : (AV × AV × AV × AV × AV) → AH → Prop) : KP := blockP 1 (m_fieldfareref1_Book_Backttthtbltt_k K r0)
def m_fieldfareref1_Book_Backttthtbltthbttt (_K : AV → AH → Prop) (r0 : (AV × AV × AV × AV × AV) → AH → Prop) (x1 x2 x5 x6 x7 x13 x14 : AV) (H : AH) : Prop :=
  outP CC (H.more 1) (w_fieldAddr 0 (H.more 1) x2) fun v1 H1 =>
  outP CC H1 (w_load none H1 v1) fun v2 H2 =>
  outP CC H2 (w_indexAddr (.sl 1) H2 v2 x6) fun v3 H3 =>
  outP CC H3 (w_load none H3 v3) fun v4 H4 =>
  outP CC H4 (w_conv (.int .i64) H4 v4 none) fun v5 H5 =>
  outP CC H5 (w_fieldAddr 1 H5 x2) fun v6 H6 =>
  outP CC H6 (w_load none H6 v6) fun v7 H7 =>
  outP CC H7 (w_indexAddr (.sl 1) H7 v7 x6) fun v8 H8 =>
  outP CC H8 (w_load none H8 v8) fun v9 H9 =>
  outP CC H9 (w_conv (.int .i64) H9 v9 none) fun v10 H10 =>
  outP CC H10 (w_int .mul H10 v10 x7) fun v11 H11 =>
  outP CC H11 (w_int .add H11 v5 v11) fun v12 H12 =>
  outP CC H12 (w_min2 H12 v12 (.int .i64 1048576)) fun v13 H13 =>
  outP CC H13 (w_max2 H13 (.int .i64 (-1048576)) v13) fun v14 H14 =>
  outP CC H14 (w_conv (.int .i32) H14 v14 none) fun v15 H15 =>
  outP CC H15 (w_buildSlice PP 21 1 H15 [(0, v15)] (some (Nat.add H.next 0))) fun v16 H16 =>
  outP CC H16 (w_append 21 1 4 H16 x5 v16 none) fun v17 H17 =>
  outP CC H17 (w_int .add H17 x14 (.int .i64 1)) fun v18 H18 =>
  r0 (x1, x2, v17, x13, v18) H18
theorem m_fieldfareref1_Book_Backttthtbltthbttt_eq (K : AV → AH → Prop) (r0 : (AV × AV × AV × AV × AV) → AH → Prop) (a : TE) (H : AH) : codeP PP CC (subC (bodyC PP 42) [1, 1, 1, 0, 1, 0, 0, 1, 1, 0, 0, 1, 1, 1]) (m_fieldfareref1_Book_Backttthtbltth_k K r0) a H = m_fieldfareref1_Book_Backttthtbltthbttt K r0 (a 1) (a 2) (a 5) (a 6) (a 7) (a 13) (a 14) H :=
  by kernel_rfl
abbrev m_fieldfareref1_Book_Backttthtbltthbtt_k (K : AV → AH → Prop) (r0 : (AV × AV × AV × AV × AV) → AH → Prop) : KP := exP (fun (a : TE) (H : AH) => m_fieldfareref1_Book_Backttthtbltthbttt K r0 (a 1) (a 2) (a 5) (a 6) (a 7) (a 13) (a 14) H) (m_fieldfareref1_Book_Backttthtbltth_k K r0)
def m_fieldfareref1_Book_Backttthtbltthbtt (K : AV → AH → Prop) (r0 : (AV × AV × AV × AV × AV) → AH → Prop) (x1 x2 x5 x6 x7 x13 x14 : AV) (H : AH) : Prop :=
  outP CC H (w_len PP 72 H x1) fun v1 H1 =>
  outP CC H1 (w_int .lss H1 x6 v1) fun v2 H2 =>
  condP v2
  (outP CC H2 (w_indexAddr (.sl 1) H2 x1 x6) fun v3 H3 =>
  outP CC H3 (w_load none H3 v3) fun v4 H4 =>
  outP CC H4 (w_conv (.int .i64) H4 v4 none) fun v5 H5 =>
  m_fieldfareref1_Book_Backttthtbltthbttt K r0 x1 x2 x5 x6 v5 x13 x14 H5)
  (m_fieldfareref1_Book_Backttthtbltthbttt K r0 x1 x2 x5 x6 x7 x13 x14 H2)
theorem m_fieldfareref1_Book_Backttthtbltthbtt_eq (K : AV → AH → Prop) (r0 : (AV × AV × AV × AV × AV) → AH → Prop) (a : TE) (H : AH) : codeP PP CC (subC (bodyC PP 42) [1, 1, 1, 0, 1, 0, 0, 1, 1, 0, 0, 1, 1]) (m_fieldfareref1_Book_Backttthtbltth_k K r0) a H = m_fieldfareref1_Book_Backttthtbltthbtt K r0 (a 1) (a 2) (a 5) (a 6) (a 7) (a 13) (a 14) H :=
  have h1 : codeP PP CC (subC (bodyC PP 42) [1, 1, 1, 0, 1, 0, 0, 1, 1, 0, 0, 1, 1]) (m_fieldfareref1_Book_Backttthtbltth_k K r0) a H = codeP PP CC (subC (bodyC PP 42) [1, 1, 1, 0, 1, 0, 0, 1, 1, 0, 0, 1, 1, 0]) (exP (codeP PP CC (subC (bodyC PP 42) [1, 1, 1, 0, 1, 0, 0, 1, 1, 0, 0, 1, 1, 1]) (m_fieldfareref1_Book_Backttthtbltth_k K r0)) (m_fieldfareref1_Book_Backttthtbltth_k K r0)) a H := by kernel_rfl
  have h2 : codeP PP CC (subC (bodyC PP 42) [1, 1, 1, 0, 1, 0, 0, 1, 1, 0, 0, 1, 1, 0]) (exP (codeP PP CC (subC (bodyC PP 42) [1, 1, 1, 0, 1, 0, 0, 1, 1, 0, 0, 1, 1, 1]) (m_fieldfareref1_Book_Backttthtbltth_k K r0)) (m_fieldfareref1_Book_Backttthtbltth_k K r0)) a H = codeP PP CC (subC (bodyC PP 42) [1, 1, 1, 0, 1, 0, 0, 1, 1, 0, 0, 1, 1, 0]) (exP (fun (a : TE) (H : AH) => m_fieldfareref1_Book_Backttthtbltthbttt K r0 (a 1) (a 2) (a 5) (a 6) (a 7) (a 13) (a 14) H) (m_fieldfareref1_Book_Backttthtbltth_k K r0)) a H := congrArg (fun k : KE => codeP PP CC (subC (bodyC PP 42) [1, 1, 1, 0, 1, 0, 0, 1, 1, 0, 0, 1, 1, 0]) (exP k (m_fieldfareref1_Book_Backttthtbltth_k K r0)) a H) (funext fun a => funext fun H => m_fieldfareref1_Book_Backttthtbltthbttt_eq K r0 a H)
  have h2b : codeP PP CC (subC (bodyC PP 42) [1, 1, 1, 0, 1, 0, 0, 1, 1, 0, 0, 1, 1, 0]) (exP (fun (a : TE) (H : AH) => m_fieldfareref1_Book_Backttthtbltthbttt K r0 (a 1) (a 2) (a 5) (a 6) (a 7) (a 13) (a 14) H) (m_fieldfareref1_Book_Backttthtbltth_k K r0)) a H = codeP PP CC (subC (bodyC PP 42) [1, 1, 1, 0, 1, 0, 0, 1, 1, 0, 0, 1, 1, 0]) (m_fieldfareref1_Book_Backttthtbltthbtt_k K r0) a H := by kernel_rfl
  have h3 : codeP PP CC (subC (bodyC PP 42) [1, 1, 1, 0, 1, 0, 0, 1, 1, 0, 0, 1, 1, 0]) (m_fieldfareref1_Book_Backttthtbltthbtt_k K r0) a H = m_fieldfareref1_Book_Backttthtbltthbtt K r0 (a 1) (a 2) (a 5) (a 6) (a 7) (a 13) (a 14) H := by kernel_rfl
  ((h1.trans h2).trans h2b).trans h3
abbrev m_fieldfareref1_Book_Backttthtbltthbt_k (K : AV → AH → Prop) (r0 : (AV × AV × AV × AV × AV) → AH → Prop) : KP := exP (fun (a : TE) (H : AH) => m_fieldfareref1_Book_Backttthtbltthbtt K r0 (a 1) (a 2) (a 5) (a 6) (a 7) (a 13) (a 14) H) (m_fieldfareref1_Book_Backttthtbltth_k K r0)
def m_fieldfareref1_Book_Backttthtbltthbt (K : AV → AH → Prop) (r0 : (AV × AV × AV × AV × AV) → AH → Prop) (x1 x2 x5 x6 x13 x14 : AV) (H : AH) : Prop :=
  m_fieldfareref1_Book_Backttthtbltthbtt K r0 x1 x2 x5 x6 (.int .i64 0) x13 x14 H
theorem m_fieldfareref1_Book_Backttthtbltthbt_eq (K : AV → AH → Prop) (r0 : (AV × AV × AV × AV × AV) → AH → Prop) (a : TE) (H : AH) : codeP PP CC (subC (bodyC PP 42) [1, 1, 1, 0, 1, 0, 0, 1, 1, 0, 0, 1]) (m_fieldfareref1_Book_Backttthtbltth_k K r0) a H = m_fieldfareref1_Book_Backttthtbltthbt K r0 (a 1) (a 2) (a 5) (a 6) (a 13) (a 14) H :=
  have h1 : codeP PP CC (subC (bodyC PP 42) [1, 1, 1, 0, 1, 0, 0, 1, 1, 0, 0, 1]) (m_fieldfareref1_Book_Backttthtbltth_k K r0) a H = codeP PP CC (subC (bodyC PP 42) [1, 1, 1, 0, 1, 0, 0, 1, 1, 0, 0, 1, 0]) (exP (codeP PP CC (subC (bodyC PP 42) [1, 1, 1, 0, 1, 0, 0, 1, 1, 0, 0, 1, 1]) (m_fieldfareref1_Book_Backttthtbltth_k K r0)) (m_fieldfareref1_Book_Backttthtbltth_k K r0)) a H := by kernel_rfl
  have h2 : codeP PP CC (subC (bodyC PP 42) [1, 1, 1, 0, 1, 0, 0, 1, 1, 0, 0, 1, 0]) (exP (codeP PP CC (subC (bodyC PP 42) [1, 1, 1, 0, 1, 0, 0, 1, 1, 0, 0, 1, 1]) (m_fieldfareref1_Book_Backttthtbltth_k K r0)) (m_fieldfareref1_Book_Backttthtbltth_k K r0)) a H = codeP PP CC (subC (bodyC PP 42) [1, 1, 1, 0, 1, 0, 0, 1, 1, 0, 0, 1, 0]) (exP (fun (a : TE) (H : AH) => m_fieldfareref1_Book_Backttthtbltthbtt K r0 (a 1) (a 2) (a 5) (a 6) (a 7) (a 13) (a 14) H) (m_fieldfareref1_Book_Backttthtbltth_k K r0)) a H := congrArg (fun k : KE => codeP PP CC (subC (bodyC PP 42) [1, 1, 1, 0, 1, 0, 0, 1, 1, 0, 0, 1, 0]) (exP k (m_fieldfareref1_Book_Backttthtbltth_k K r0)) a H) (funext fun a => funext fun H => m_fieldfareref1_Book_Backttthtbltthbtt_eq K r0 a H)
  have h2b : codeP PP CC (subC (bodyC PP 42) [1, 1, 1, 0, 1, 0, 0, 1, 1, 0, 0, 1, 0]) (exP (fun (a : TE) (H : AH) => m_fieldfareref1_Book_Backttthtbltthbtt K r0 (a 1) (a 2) (a 5) (a 6) (a 7) (a 13) (a 14) H) (m_fieldfareref1_Book_Backttthtbltth_k K r0)) a H = codeP PP CC (subC (bodyC PP 42) [1, 1, 1, 0, 1, 0, 0, 1, 1, 0, 0, 1, 0]) (m_fieldfareref1_Book_Backttthtbltthbt_k K r0) a H := by kernel_rfl
  have h3 : codeP PP CC (subC (bodyC PP 42) [1, 1, 1, 0, 1, 0, 0, 1, 1, 0, 0, 1, 0]) (m_fieldfareref1_Book_Backttthtbltthbt_k K r0) a H = m_fieldfareref1_Book_Backttthtbltthbt K r0 (a 1) (a 2) (a 5) (a 6) (a 13) (a 14) H := by kernel_rfl
  ((h1.trans h2).trans h2b).trans h3
abbrev m_fieldfareref1_Book_Backttthtbltthb_k (K : AV → AH → Prop) (r0 : (AV × AV × AV × AV × AV) → AH → Prop) : KP := exP (fun (a : TE) (H : AH) => m_fieldfareref1_Book_Backttthtbltthbt K r0 (a 1) (a 2) (a 5) (a 6) (a 13) (a 14) H) (m_fieldfareref1_Book_Backttthtbltth_k K r0)
def m_fieldfareref1_Book_Backttthtbltthb (K : AV → AH → Prop) (r0 : (AV × AV × AV × AV × AV) → AH → Prop) (x1 x2 x5 x13 x14 : AV) (H : AH) : Prop :=
  m_fieldfareref1_Book_Backttthtbltthbt K r0 x1 x2 x5 x14 x13 x14 H
theorem m_fieldfareref1_Book_Backttthtbltthb_eq (K : AV → AH → Prop) (r0 : (AV × AV × AV × AV × AV) → AH → Prop) (a : TE) (H : AH) : codeP PP CC (subC (bodyC PP 42) [1, 1, 1, 0, 1, 0, 0, 1, 1, 0, 0]) (m_fieldfareref1_Book_Backttthtbltth_k K r0) a H = m_fieldfareref1_Book_Backttthtbltthb K r0 (a 1) (a 2) (a 5) (a 13) (a 14) H :=
  have h1 : codeP PP CC (subC (bodyC PP 42) [1, 1, 1, 0, 1, 0, 0, 1, 1, 0, 0]) (m_fieldfareref1_Book_Backttthtbltth_k K r0) a H = codeP PP CC (subC (bodyC PP 42) [1, 1, 1, 0, 1, 0, 0, 1, 1, 0, 0, 0]) (exP (codeP PP CC (subC (bodyC PP 42) [1, 1, 1, 0, 1, 0, 0, 1, 1, 0, 0, 1]) (m_fieldfareref1_Book_Backttthtbltth_k K r0)) (m_fieldfareref1_Book_Backttthtbltth_k K r0)) a H := by kernel_rfl
  have h2 : codeP PP CC (subC (bodyC PP 42) [1, 1, 1, 0, 1, 0, 0, 1, 1, 0, 0, 0]) (exP (codeP PP CC (subC (bodyC PP 42) [1, 1, 1, 0, 1, 0, 0, 1, 1, 0, 0, 1]) (m_fieldfareref1_Book_Backttthtbltth_k K r0)) (m_fieldfareref1_Book_Backttthtbltth_k K r0)) a H = codeP PP CC (subC (bodyC PP 42) [1, 1, 1, 0, 1, 0, 0, 1, 1, 0, 0, 0]) (exP (fun (a : TE) (H : AH) => m_fieldfareref1_Book_Backttthtbltthbt K r0 (a 1) (a 2) (a 5) (a 6) (a 13) (a 14) H) (m_fieldfareref1_Book_Backttthtbltth_k K r0)) a H := congrArg (fun k : KE => codeP PP CC (subC (bodyC PP 42) [1, 1, 1, 0, 1, 0, 0, 1, 1, 0, 0, 0]) (exP k (m_fieldfareref1_Book_Backttthtbltth_k K r0)) a H) (funext fun a => funext fun H => m_fieldfareref1_Book_Backttthtbltthbt_eq K r0 a H)
  have h2b : codeP PP CC (subC (bodyC PP 42) [1, 1, 1, 0, 1, 0, 0, 1, 1, 0, 0, 0]) (exP (fun (a : TE) (H : AH) => m_fieldfareref1_Book_Backttthtbltthbt K r0 (a 1) (a 2) (a 5) (a 6) (a 13) (a 14) H) (m_fieldfareref1_Book_Backttthtbltth_k K r0)) a H = codeP PP CC (subC (bodyC PP 42) [1, 1, 1, 0, 1, 0, 0, 1, 1, 0, 0, 0]) (m_fieldfareref1_Book_Backttthtbltthb_k K r0) a H := by kernel_rfl
  have h3 : codeP PP CC (subC (bodyC PP 42) [1, 1, 1, 0, 1, 0, 0, 1, 1, 0, 0, 0]) (m_fieldfareref1_Book_Backttthtbltthb_k K r0) a H = m_fieldfareref1_Book_Backttthtbltthb K r0 (a 1) (a 2) (a 5) (a 13) (a 14) H := by kernel_rfl
  ((h1.trans h2).trans h2b).trans h3
theorem m_fieldfareref1_Book_Backttthtbltth_eq (K : AV → AH → Prop) (r0 : (AV × AV × AV × AV × AV) → AH → Prop) (a : TE) (H : AH) : codeP PP CC (subC (bodyC PP 42) [1, 1, 1, 0, 1, 0, 0, 1, 1, 0]) (m_fieldfareref1_Book_Backttthtbltt_k K r0) a H = m_fieldfareref1_Book_Backttthtbltthb K r0 (a 1) (a 2) (a 5) (a 13) (a 14) H :=
  have h1 : codeP PP CC (subC (bodyC PP 42) [1, 1, 1, 0, 1, 0, 0, 1, 1, 0]) (m_fieldfareref1_Book_Backttthtbltt_k K r0) a H = codeP PP CC (subC (bodyC PP 42) [1, 1, 1, 0, 1, 0, 0, 1, 1, 0, 0]) (m_fieldfareref1_Book_Backttthtbltth_k K r0) a H := by kernel_rfl
  h1.trans (m_fieldfareref1_Book_Backttthtbltthb_eq K r0 a H)
theorem m_fieldfareref1_Book_Backttthtbltt_eq (K : AV → AH → Prop) (r0 : (AV × AV × AV × AV × AV) → AH → Prop) (a : TE) (H : AH) : codeP PP CC (subC (bodyC PP 42) [1, 1, 1, 0, 1, 0, 0, 1, 1]) (m_fieldfareref1_Book_Backttthtb_k K r0) a H = m_fieldfareref1_Book_Backttthtbltthb K r0 (a 1) (a 2) (a 5) (a 13) (a 14) H :=
  have h1 : codeP PP CC (subC (bodyC PP 42) [1, 1, 1, 0, 1, 0, 0, 1, 1]) (m_fieldfareref1_Book_Backttthtb_k K r0) a H = codeP PP CC (subC (bodyC PP 42) [1, 1, 1, 0, 1, 0, 0, 1, 1, 0]) (m_fieldfareref1_Book_Backttthtbltt_k K r0) a H := by kernel_rfl
  h1.trans (m_fieldfareref1_Book_Backttthtbltth_eq K r0 a H)
abbrev m_fieldfareref1_Book_Backttthtblt_k (K : AV → AH → Prop) (r0 : (AV × AV × AV × AV × AV) → AH → Prop) : KP := exP (fun (a : TE) (H : AH) => m_fieldfareref1_Book_Backttthtbltthb K r0 (a 1) (a 2) (a 5) (a 13) (a 14) H) (m_fieldfareref1_Book_Backttthtb_k K r0)
def m_fieldfareref1_Book_Backttthtblt (K : AV → AH → Prop) (r0 : (AV × AV × AV × AV × AV) → AH → Prop) (x1 x2 x5 x13 x14 x15 : AV) (H : AH) : Prop :=
  condP x15
  (m_fieldfareref1_Book_Backttthtbltthb K r0 x1 x2 x5 x13 x14 H)
  (K x5 H)
theorem m_fieldfareref1_Book_Backttthtblt_eq (K : AV → AH → Prop) (r0 : (AV × AV × AV × AV × AV) → AH → Prop) (a : TE) (H : AH) : codeP PP CC (subC (bodyC PP 42) [1, 1, 1, 0, 1, 0, 0, 1]) (m_fieldfareref1_Book_Backttthtb_k K r0) a H = m_fieldfareref1_Book_Backttthtblt K r0 (a 1) (a 2) (a 5) (a 13) (a 14) (a 15) H :=
  have h1 : codeP PP CC (subC (bodyC PP 42) [1, 1, 1, 0, 1, 0, 0, 1]) (m_fieldfareref1_Book_Backttthtb_k K r0) a H = codeP PP CC (subC (bodyC PP 42) [1, 1, 1, 0, 1, 0, 0, 1, 0]) (exP (codeP PP CC (subC (bodyC PP 42) [1, 1, 1, 0, 1, 0, 0, 1, 1]) (m_fieldfareref1_Book_Backttthtb_k K r0)) (m_fieldfareref1_Book_Backttthtb_k K r0)) a H := by kernel_rfl
  have h2 : codeP PP CC (subC (bodyC PP 42) [1, 1, 1, 0, 1, 0, 0, 1, 0]) (exP (codeP PP CC (subC (bodyC PP 42) [1, 1, 1, 0, 1, 0, 0, 1, 1]) (m_fieldfareref1_Book_Backttthtb_k K r0)) (m_fieldfareref1_Book_Backttthtb_k K r0)) a H = codeP PP CC (subC (bodyC PP 42) [1, 1, 1, 0, 1, 0, 0, 1, 0]) (exP (fun (a : TE) (H : AH) => m_fieldfareref1_Book_Backttthtbltthb K r0 (a 1) (a 2) (a 5) (a 13) (a 14) H) (m_fieldfareref1_Book_Backttthtb_k K r0)) a H := congrArg (fun k : KE => codeP PP CC (subC (bodyC PP 42) [1, 1, 1, 0, 1, 0, 0, 1, 0]) (exP k (m_fieldfareref1_Book_Backttthtb_k K r0)) a H) (funext fun a => funext fun H => m_fieldfareref1_Book_Backttthtbltt_eq K r0 a H)
  have h2b : codeP PP CC (subC (bodyC PP 42) [1, 1, 1, 0, 1, 0, 0, 1, 0]) (exP (fun (a : TE) (H : AH) => m_fieldfareref1_Book_Backttthtbltthb K r0 (a 1) (a 2) (a 5) (a 13) (a 14) H) (m_fieldfareref1_Book_Backttthtb_k K r0)) a H = codeP PP CC (subC (bodyC PP 42) [1, 1, 1, 0, 1, 0, 0, 1, 0]) (m_fieldfareref1_Book_Backttthtblt_k K r0) a H := by kernel_rfl
  have h3 : codeP PP CC (subC (bodyC PP 42) [1, 1, 1, 0, 1, 0, 0, 1, 0]) (m_fieldfareref1_Book_Backttthtblt_k K r0) a H = m_fieldfareref1_Book_Backttthtblt K r0 (a 1) (a 2) (a 5) (a 13) (a 14) (a 15) H := by kernel_rfl
  ((h1.trans h2).trans h2b).trans h3
abbrev m_fieldfareref1_Book_Backttthtbl_k (K : AV → AH → Prop) (r0 : (AV × AV × AV × AV × AV) → AH → Prop) : KP := exP (fun (a : TE) (H : AH) => m_fieldfareref1_Book_Backttthtblt K r0 (a 1) (a 2) (a 5) (a 13) (a 14) (a 15) H) (m_fieldfareref1_Book_Backttthtb_k K r0)
def m_fieldfareref1_Book_Backttthtbl (K : AV → AH → Prop) (r0 : (AV × AV × AV × AV × AV) → AH → Prop) (x1 x2 x5 x13 x14 : AV) (H : AH) : Prop :=
  outP CC H (w_int .lss H x14 x13) fun v1 H1 =>
  m_fieldfareref1_Book_Backttthtblt K r0 x1 x2 x5 x13 x14 v1 H1
theorem m_fieldfareref1_Book_Backttthtbl_eq (K : AV → AH → Prop) (r0 : (AV × AV × AV × AV × AV) → AH → Prop) (a : TE) (H : AH) : codeP PP CC (subC (bodyC PP 42) [1, 1, 1, 0, 1, 0, 0]) (m_fieldfareref1_Book_Backttthtb_k K r0) a H = m_fieldfareref1_Book_Backttthtbl K r0 (a 1) (a 2) (a 5) (a 13) (a 14) H :=
  have h1 : codeP PP CC (subC (bodyC PP 42) [1, 1, 1, 0, 1, 0, 0]) (m_fieldfareref1_Book_Backttthtb_k K r0) a H = codeP PP CC (subC (bodyC PP 42) [1, 1, 1, 0, 1, 0, 0, 0]) (exP (codeP PP CC (subC (bodyC PP 42) [1, 1, 1, 0, 1, 0, 0, 1]) (m_fieldfareref1_Book_Backttthtb_k K r0)) (m_fieldfareref1_Book_Backttthtb_k K r0)) a H := by kernel_rfl
  have h2 : codeP PP CC (subC (bodyC PP 42) [1, 1, 1, 0, 1, 0, 0, 0]) (exP (codeP PP CC (subC (bodyC PP 42) [1, 1, 1, 0, 1, 0, 0, 1]) (m_fieldfareref1_Book_Backttthtb_k K r0)) (m_fieldfareref1_Book_Backttthtb_k K r0)) a H = codeP PP CC (subC (bodyC PP 42) [1, 1, 1, 0, 1, 0, 0, 0]) (exP (fun (a : TE) (H : AH) => m_fieldfareref1_Book_Backttthtblt K r0 (a 1) (a 2) (a 5) (a 13) (a 14) (a 15) H) (m_fieldfareref1_Book_Backttthtb_k K r0)) a H := congrArg (fun k : KE => codeP PP CC (subC (bodyC PP 42) [1, 1, 1, 0, 1, 0, 0, 0]) (exP k (m_fieldfareref1_Book_Backttthtb_k K r0)) a H) (funext fun a => funext fun H => m_fieldfareref1_Book_Backttthtblt_eq K r0 a H)
  have h2b : codeP PP CC (subC (bodyC PP 42) [1, 1, 1, 0, 1, 0, 0, 0]) (exP (fun (a : TE) (H : AH) => m_fieldfareref1_Book_Backttthtblt K r0 (a 1) (a 2) (a 5) (a 13) (a 14) (a 15) H) (m_fieldfareref1_Book_Backttthtb_k K r0)) a H = codeP PP CC (subC (bodyC PP 42) [1, 1, 1, 0, 1, 0, 0, 0]) (m_fieldfareref1_Book_Backttthtbl_k K r0) a H := by kernel_rfl
  have h3 : codeP PP CC (subC (bodyC PP 42) [1, 1, 1, 0, 1, 0, 0, 0]) (m_fieldfareref1_Book_Backttthtbl_k K r0) a H = m_fieldfareref1_Book_Backttthtbl K r0 (a 1) (a 2) (a 5) (a 13) (a 14) H := by kernel_rfl
  ((h1.trans h2).trans h2b).trans h3
def m_fieldfareref1_Book_Backttthtb (K : AV → AH → Prop) (x1 x2 x5 x13 x14 : AV) (H : AH) : Prop :=
  loopP (fun (r0 : (AV × AV × AV × AV × AV) → AH → Prop) (s : (AV × AV × AV × AV × AV)) (H : AH) => m_fieldfareref1_Book_Backttthtbl K r0 s.1 s.2.1 s.2.2.1 s.2.2.2.1 s.2.2.2.2 H) (x1, x2, x5, x13, x14) H
theorem m_fieldfareref1_Book_Backttthtb_eq (K : AV → AH → Prop) (a : TE) (H : AH) : codeP PP CC (subC (bodyC PP 42) [1, 1, 1, 0, 1, 0]) (m_fieldfareref1_Book_Backtttht_k K) a H = m_fieldfareref1_Book_Backttthtb K (a 1) (a 2) (a 5) (a 13) (a 14) H :=
  have h1 : codeP PP CC (subC (bodyC PP 42) [1, 1, 1, 0, 1, 0]) (m_fieldfareref1_Book_Backtttht_k K) a H = loopP (fun (rec : KE) => codeP PP CC (subC (bodyC PP 42) [1, 1, 1, 0, 1, 0, 0]) (exP rec (m_fieldfareref1_Book_Backtttht_k K))) a H := by kernel_rfl
  have h2 := loopP_iso (F := fun (rec : KE) => codeP PP CC (subC (bodyC PP 42) [1, 1, 1, 0, 1, 0, 0]) (exP rec (m_fieldfareref1_Book_Backtttht_k K))) (S := (AV × AV × AV × AV × AV)) (fun a => (a 1, a 2, a 5, a 13, a 14)) (fun (r0 : (AV × AV × AV × AV × AV) → AH → Prop) (s : (AV × AV × AV × AV × AV)) (H : AH) => m_fieldfareref1_Book_Backttthtbl K r0 s.1 s.2.1 s.2.2.1 s.2.2.2.1 s.2.2.2.2 H) (fun (r0 : (AV × AV × AV × AV × AV) → AH → Prop) (a : TE) (H : AH) => (show codeP PP CC (subC (bodyC PP 42) [1, 1, 1, 0, 1, 0, 0]) (exP (fun (a : TE) (H : AH) => r0 (a 1, a 2, a 5, a 13, a 14) H) (m_fieldfareref1_Book_Backtttht_k K)) a H = codeP PP CC (subC (bodyC PP 42) [1, 1, 1, 0, 1, 0, 0]) (m_fieldfareref1_Book_Backttthtb_k K r0) a H from by kernel_rfl).trans (m_fieldfareref1_Book_Backttthtbl_eq K r0 a H)) a H
  h1.trans h2
theorem m_fieldfareref1_Book_Backtttht_eq (K : AV → AH → Prop) (a : TE) (H : AH) : codeP PP CC (subC (bodyC PP 42) [1, 1, 1, 0, 1]) (m_fieldfareref1_Book_Backttt_k K) a H = m_fieldfareref1_Book_Backttthtb K (a 1) (a 2) (a 5) (a 13) (a 14) H :=
  have h1 : codeP PP CC (subC (bodyC PP 42) [1, 1, 1, 0, 1]) (m_fieldfareref1_Book_Backttt_k K) a H = codeP PP CC (subC (bodyC PP 42) [1, 1, 1, 0, 1, 0]) (m_fieldfareref1_Book_Backtttht_k K) a H := by kernel_rfl
  h1.trans (m_fieldfareref1_Book_Backttthtb_eq K a H)
abbrev m_fieldfareref1_Book_Backttth_k (K : AV → AH → Prop) : KP := exP (fun (a : TE) (H : AH) => m_fieldfareref1_Book_Backttthtb K (a 1) (a 2) (a 5) (a 13) (a 14) H) (m_fieldfareref1_Book_Backttt_k K)
def m_fieldfareref1_Book_Backttth (K : AV → AH → Prop) (x1 x2 x5 : AV) (H : AH) : Prop :=
  outP CC H (w_fieldAddr 0 H x2) fun v1 H1 =>
  outP CC H1 (w_load none H1 v1) fun v2 H2 =>
  outP CC H2 (w_len PP 27 H2 v2) fun v3 H3 =>
  m_fieldfareref1_Book_Backttthtb K x1 x2 x5 v3 (.int .i64 0) H3
theorem m_fieldfareref1_Book_Backttth_eq (K : AV → AH → Prop) (a : TE) (H : AH) : codeP PP CC (subC (bodyC PP 42) [1, 1, 1, 0]) (m_fieldfareref1_Book_Backttt_k K) a H = m_fieldfareref1_Book_Backttth K (a 1) (a 2) (a 5) H :=
  have h1 : codeP PP CC (subC (bodyC PP 42) [1, 1, 1, 0]) (m_fieldfareref1_Book_Backttt_k K) a H = codeP PP CC (subC (bodyC PP 42) [1, 1, 1, 0, 0]) (exP (codeP PP CC (subC (bodyC PP 42) [1, 1, 1, 0, 1]) (m_fieldfareref1_Book_Backttt_k K)) (m_fieldfareref1_Book_Backttt_k K)) a H := by kernel_rfl
  have h2 : codeP PP CC (subC (bodyC PP 42) [1, 1, 1, 0, 0]) (exP (codeP PP CC (subC (bodyC PP 42) [1, 1, 1, 0, 1]) (m_fieldfareref1_Book_Backttt_k K)) (m_fieldfareref1_Book_Backttt_k K)) a H = codeP PP CC (subC (bodyC PP 42) [1, 1, 1, 0, 0]) (exP (fun (a : TE) (H : AH) => m_fieldfareref1_Book_Backttthtb K (a 1) (a 2) (a 5) (a 13) (a 14) H) (m_fieldfareref1_Book_Backttt_k K)) a H := congrArg (fun k : KE => codeP PP CC (subC (bodyC PP 42) [1, 1, 1, 0, 0]) (exP k (m_fieldfareref1_Book_Backttt_k K)) a H) (funext fun a => funext fun H => m_fieldfareref1_Book_Backtttht_eq K a H)
  have h2b : codeP PP CC (subC (bodyC PP 42) [1, 1, 1, 0, 0]) (exP (fun (a : TE) (H : AH) => m_fieldfareref1_Book_Backttthtb K (a 1) (a 2) (a 5) (a 13) (a 14) H) (m_fieldfareref1_Book_Backttt_k K)) a H = codeP PP CC (subC (bodyC PP 42) [1, 1, 1, 0, 0]) (m_fieldfareref1_Book_Backttth_k K) a H := by kernel_rfl
  have h3 : codeP PP CC (subC (bodyC PP 42) [1, 1, 1, 0, 0]) (m_fieldfareref1_Book_Backttth_k K) a H = m_fieldfareref1_Book_Backttth K (a 1) (a 2) (a 5) H := by kernel_rfl
  ((h1.trans h2).trans h2b).trans h3
theorem m_fieldfareref1_Book_Backttt_eq (K : AV → AH → Prop) (a : TE) (H : AH) : codeP PP CC (subC (bodyC PP 42) [1, 1, 1]) (m_fieldfareref1_Book_Back_K K) a H = m_fieldfareref1_Book_Backttth K (a 1) (a 2) (a 5) H :=
  have h1 : codeP PP CC (subC (bodyC PP 42) [1, 1, 1]) (m_fieldfareref1_Book_Back_K K) a H = codeP PP CC (subC (bodyC PP 42) [1, 1, 1, 0]) (m_fieldfareref1_Book_Backttt_k K) a H := by kernel_rfl
  h1.trans (m_fieldfareref1_Book_Backttth_eq K a H)
abbrev m_fieldfareref1_Book_Backtt_k (K : AV → AH → Prop) : KP := exP (fun (a : TE) (H : AH) => m_fieldfareref1_Book_Backttth K (a 1) (a 2) (a 5) H) (m_fieldfareref1_Book_Back_K K)
def m_fieldfareref1_Book_Backtt (K : AV → AH → Prop) (x1 x2 x5 : AV) (H : AH) : Prop :=
  outP CC H (w_load (some 2) H x2) fun v1 H1 =>
  outP CC H1 (some (.enter 77 [v1])) fun v2 H2 =>
  outP CC H2 (w_un .not H2 v2) fun v3 H3 =>
  condP v3
  (K (.slice none 0 0 true) H3)
  (m_fieldfareref1_Book_Backttth K x1 x2 x5 H3)
theorem m_fieldfareref1_Book_Backtt_eq (K : AV → AH → Prop) (a : TE) (H : AH) : codeP PP CC (subC (bodyC PP 42) [1, 1]) (m_fieldfareref1_Book_Back_K K) a H = m_fieldfareref1_Book_Backtt K (a 1) (a 2) (a 5) H :=
  have h1 : codeP PP CC (subC (bodyC PP 42) [1, 1]) (m_fieldfareref1_Book_Back_K K) a H = codeP PP CC (subC (bodyC PP 42) [1, 1, 0]) (exP (codeP PP CC (subC (bodyC PP 42) [1, 1, 1]) (m_fieldfareref1_Book_Back_K K)) (m_fieldfareref1_Book_Back_K K)) a H := by kernel_rfl
  have h2 : codeP PP CC (subC (bodyC PP 42) [1, 1, 0]) (exP (codeP PP CC (subC (bodyC PP 42) [1, 1, 1]) (m_fieldfareref1_Book_Back_K K)) (m_fieldfareref1_Book_Back_K K)) a H = codeP PP CC (subC (bodyC PP 42) [1, 1, 0]) (exP (fun (a : TE) (H : AH) => m_fieldfareref1_Book_Backttth K (a 1) (a 2) (a 5) H) (m_fieldfareref1_Book_Back_K K)) a H := congrArg (fun k : KE => codeP PP CC (subC (bodyC PP 42) [1, 1, 0]) (exP k (m_fieldfareref1_Book_Back_K K)) a H) (funext fun a => funext fun H => m_fieldfareref1_Book_Backttt_eq K a H)
  have h2b : codeP PP CC (subC (bodyC PP 42) [1, 1, 0]) (exP (fun (a : TE) (H : AH) => m_fieldfareref1_Book_Backttth K (a 1) (a 2) (a 5) H) (m_fieldfareref1_Book_Back_K K)) a H = codeP PP CC (subC (bodyC PP 42) [1, 1, 0]) (m_fieldfareref1_Book_Backtt_k K) a H := by kernel_rfl
  have h3 : codeP PP CC (subC (bodyC PP 42) [1, 1, 0]) (m_fieldfareref1_Book_Backtt_k K) a H = m_fieldfareref1_Book_Backtt K (a 1) (a 2) (a 5) H := by kernel_rfl
  ((h1.trans h2).trans h2b).trans h3
abbrev m_fieldfareref1_Book_Backt_k (K : AV → AH → Prop) : KP := exP (fun (a : TE) (H : AH) => m_fieldfareref1_Book_Backtt K (a 1) (a 2) (a 5) H) (m_fieldfareref1_Book_Back_K K)
def m_fieldfareref1_Book_Backt (K : AV → AH → Prop) (x1 x2 : AV) (H : AH) : Prop :=
  m_fieldfareref1_Book_Backtt K x1 x2 (.slice none 0 0 true) H
theorem m_fieldfareref1_Book_Backt_eq (K : AV → AH → Prop) (a : TE) (H : AH) : codeP PP CC (subC (bodyC PP 42) [1]) (m_fieldfareref1_Book_Back_K K) a H = m_fieldfareref1_Book_Backt K (a 1) (a 2) H :=
  have h1 : codeP PP CC (subC (bodyC PP 42) [1]) (m_fieldfareref1_Book_Back_K K) a H = codeP PP CC (subC (bodyC PP 42) [1, 0]) (exP (codeP PP CC (subC (bodyC PP 42) [1, 1]) (m_fieldfareref1_Book_Back_K K)) (m_fieldfareref1_Book_Back_K K)) a H := by kernel_rfl
  have h2 : codeP PP CC (subC (bodyC PP 42) [1, 0]) (exP (codeP PP CC (subC (bodyC PP 42) [1, 1]) (m_fieldfareref1_Book_Back_K K)) (m_fieldfareref1_Book_Back_K K)) a H = codeP PP CC (subC (bodyC PP 42) [1, 0]) (exP (fun (a : TE) (H : AH) => m_fieldfareref1_Book_Backtt K (a 1) (a 2) (a 5) H) (m_fieldfareref1_Book_Back_K K)) a H := congrArg (fun k : KE => codeP PP CC (subC (bodyC PP 42) [1, 0]) (exP k (m_fieldfareref1_Book_Back_K K)) a H) (funext fun a => funext fun H => m_fieldfareref1_Book_Backtt_eq K a H)
  have h2b : codeP PP CC (subC (bodyC PP 42) [1, 0]) (exP (fun (a : TE) (H : AH) => m_fieldfareref1_Book_Backtt K (a 1) (a 2) (a 5) H) (m_fieldfareref1_Book_Back_K K)) a H = codeP PP CC (subC (bodyC PP 42) [1, 0]) (m_fieldfareref1_Book_Backt_k K) a H := by kernel_rfl
  have h3 : codeP PP CC (subC (bodyC PP 42) [1, 0]) (m_fieldfareref1_Book_Backt_k K) a H = m_fieldfareref1_Book_Backt K (a 1) (a 2) H := by kernel_rfl
  ((h1.trans h2).trans h2b).trans h3
abbrev m_fieldfareref1_Book_Back_k (K : AV → AH → Prop) : KP := exP (fun (a : TE) (H : AH) => m_fieldfareref1_Book_Backt K (a 1) (a 2) H) (m_fieldfareref1_Book_Back_K K)
def m_fieldfareref1_Book_Back (K : AV → AH → Prop) (x0 x1 : AV) (H : AH) : Prop :=
  outP CC H (w_box 67 H x0 none) fun v1 H1 =>
  m_fieldfareref1_Book_Backt K x1 v1 H1
theorem m_fieldfareref1_Book_Back_eq (K : AV → AH → Prop) (a : TE) (H : AH) : codeP PP CC (subC (bodyC PP 42) []) (m_fieldfareref1_Book_Back_K K) a H = m_fieldfareref1_Book_Back K (a 0) (a 1) H :=
  have h1 : codeP PP CC (subC (bodyC PP 42) []) (m_fieldfareref1_Book_Back_K K) a H = codeP PP CC (subC (bodyC PP 42) [0]) (exP (codeP PP CC (subC (bodyC PP 42) [1]) (m_fieldfareref1_Book_Back_K K)) (m_fieldfareref1_Book_Back_K K)) a H := by kernel_rfl
  have h2 : codeP PP CC (subC (bodyC PP 42) [0]) (exP (codeP PP CC (subC (bodyC PP 42) [1]) (m_fieldfareref1_Book_Back_K K)) (m_fieldfareref1_Book_Back_K K)) a H = codeP PP CC (subC (bodyC PP 42) [0]) (exP (fun (a : TE) (H : AH) => m_fieldfareref1_Book_Backt K (a 1) (a 2) H) (m_fieldfareref1_Book_Back_K K)) a H := congrArg (fun k : KE => codeP PP CC (subC (bodyC PP 42) [0]) (exP k (m_fieldfareref1_Book_Back_K K)) a H) (funext fun a => funext fun H => m_fieldfareref1_Book_Backt_eq K a H)
  have h2b : codeP PP CC (subC (bodyC PP 42) [0]) (exP (fun (a : TE) (H : AH) => m_fieldfareref1_Book_Backt K (a 1) (a 2) H) (m_fieldfareref1_Book_Back_K K)) a H = codeP PP CC (subC (bodyC PP 42) [0]) (m_fieldfareref1_Book_Back_k K) a H := by kernel_rfl
  have h3 : codeP PP CC (subC (bodyC PP 42) [0]) (m_fieldfareref1_Book_Back_k K) a H = m_fieldfareref1_Book_Back K (a 0) (a 1) H := by kernel_rfl
  ((h1.trans h2).trans h2b).trans h3
theorem m_fieldfareref1_Book_Back_ok (x0 x1 : AV) (H : AH) (K : AV → AH → Prop) (h : m_fieldfareref1_Book_Back K x0 x1 H) : CC.call 42 [x0, x1] H K :=
  have h1 : funP PP CC 42 [x0, x1] H K = codeP PP CC (subC (bodyC PP 42) []) (m_fieldfareref1_Book_Back_K K) (argE [x0, x1]) H := by kernel_rfl
  have h2 : m_fieldfareref1_Book_Back K (argE [x0, x1] 0) (argE [x0, x1] 1) H = m_fieldfareref1_Book_Back K x0 x1 H := by kernel_rfl
  funP_ok (P := PP) (by kernel_rfl) (by kernel_rfl) ((h1.trans ((m_fieldfareref1_Book_Back_eq K (argE [x0, x1]) H).trans h2)).mpr h)

/-! 75: fieldfare/quant.right -/
abbrev m_quant_right_K (K : AV → AH → Prop) : KP := finP PP (resC PP 75) K
def m_quant_right (K : AV → AH → Prop) (x0 : AV) (H : AH) : Prop :=
  outP CC H (w_box 65 H x0 none) fun v1 H1 =>
  outP CC H1 (w_fieldAddr 0 H1 v1) fun v2 H2 =>
  outP CC H2 (w_load none H2 v2) fun v3 H3 =>
  outP CC H3 (w_len PP 27 H3 v3) fun v4 H4 =>
  outP CC H4 (w_fieldAddr 1 H4 v1) fun v5 H5 =>
  outP CC H5 (w_load none H5 v5) fun v6 H6 =>
  outP CC H6 (w_len PP 27 H6 v6) fun v7 H7 =>
  outP CC H7 (w_int .eql H7 v4 v7) fun v8 H8 =>
  guardP (boolIs true v8) H8 (outP CC H8 (w_fieldAddr 1 H8 v1)) fun v9 H9 =>
  guardP (boolIs true v8) H9 (outP CC H9 (w_load none H9 v9)) fun v10 H10 =>
  guardP (boolIs true v8) H10 (outP CC H10 (some (.enter 98 [v10, (.fn (.func 99) [] [])]))) fun v11 H11 =>
  guardP (boolIs true v8) H11 (outP CC H11 (w_un .not H11 v11)) fun v12 H12 =>
  outP CC H12 (w_pick H12 v8 v12 (.bool false)) fun v13 H13 =>
  K v13 H13
theorem m_quant_right_eq (K : AV → AH → Prop) (a : TE) (H : AH) : codeP PP CC (subC (bodyC PP 75) []) (m_quant_right_K K) a H = m_quant_right K (a 0) H :=
  by kernel_rfl
theorem m_quant_right_ok (x0 : AV) (H : AH) (K : AV → AH → Prop) (h : m_quant_right K x0 H) : CC.call 75 [x0] H K :=
  have h1 : funP PP CC 75 [x0] H K = codeP PP CC (subC (bodyC PP 75) []) (m_quant_right_K K) (argE [x0]) H := by kernel_rfl
  have h2 : m_quant_right K (argE [x0] 0) H = m_quant_right K x0 H := by kernel_rfl
  funP_ok (P := PP) (by kernel_rfl) (by kernel_rfl) ((h1.trans ((m_quant_right_eq K (argE [x0]) H).trans h2)).mpr h)

/-! 76: slices.Max[[]int32,int32] -/
abbrev m_slices_Max_int32_int32_K (K : AV → AH → Prop) : KP := finP PP (resC PP 76) K
abbrev m_slices_Max_int32_int32ttt_k (K : AV → AH → Prop) : KP := exP (codeP PP CC (subC (bodyC PP 76) [1, 1, 1, 1]) (m_slices_Max_int32_int32_K K)) (m_slices_Max_int32_int32_K K)
abbrev m_slices_Max_int32_int32tttht_k (K : AV → AH → Prop) : KP := blockP 0 (m_slices_Max_int32_int32ttt_k K)
abbrev m_slices_Max_int32_int32ttthtb_k (K : AV → AH → Prop) (r0 : (AV × AV × AV) → AH → Prop) : KP := exP (fun (a : TE) (H : AH) => r0 (a 0, a 3, a 4) H) (m_slices_Max_int32_int32tttht_k K)
def m_slices_Max_int32_int32ttthtbl (K : AV → AH → Prop) (r0 : (AV × AV × AV) → AH → Prop) (x0 x3 x4 : AV) (H : AH) : Prop :=
  outP CC H (w_len PP 27 H x0) fun v1 H1 =>
  outP CC H1 (w_int .lss H1 x4 v1) fun v2 H2 =>
  condP v2
  (outP CC H2 (w_indexAddr (.sl 1) H2 x0 x4) fun v3 H3 =>
  outP CC H3 (w_load none H3 v3) fun v4 H4 =>
  outP CC H4 (w_max2 H4 x3 v4) fun v5 H5 =>
  outP CC H5 (w_int .add H5 x4 (.int .i64 1)) fun v6 H6 =>
  r0 (x0, v5, v6) H6)
  (K x3 H2)
theorem m_slices_Max_int32_int32ttthtbl_eq (K : AV → AH → Prop) (r0 : (AV × AV × AV) → AH → Prop) (a : TE) (H : AH) : codeP PP CC (subC (bodyC PP 76) [1, 1, 1, 0, 1, 0, 0]) (m_slices_Max_int32_int32ttthtb_k K r0) a H = m_slices_Max_int32_int32ttthtbl K r0 (a 0) (a 3) (a 4) H :=
  by kernel_rfl
def m_slices_Max_int32_int32ttthtb (K : AV → AH → Prop) (x0 x3 x4 : AV) (H : AH) : Prop :=
  loopP (fun (r0 : (AV × AV × AV) → AH → Prop) (s : (AV × AV × AV)) (H : AH) => m_slices_Max_int32_int32ttthtbl K r0 s.1 s.2.1 s.2.2 H) (x0, x3, x4) H
theorem m_slices_Max_int32_int32ttthtb_eq (K : AV → AH → Prop) (a : TE) (H : AH) : codeP PP CC (subC (bodyC PP 76) [1, 1, 1, 0, 1, 0]) (m_slices_Max_int32_int32tttht_k K) a H = m_slices_Max_int32_int32ttthtb K (a 0) (a 3) (a 4) H :=
  have h1 : codeP PP CC (subC (bodyC PP 76) [1, 1, 1, 0, 1, 0]) (m_slices_Max_int32_int32tttht_k K) a H = loopP (fun (rec : KE) => codeP PP CC (subC (bodyC PP 76) [1, 1, 1, 0, 1, 0, 0]) (exP rec (m_slices_Max_int32_int32tttht_k K))) a H := by kernel_rfl
  have h2 := loopP_iso (F := fun (rec : KE) => codeP PP CC (subC (bodyC PP 76) [1, 1, 1, 0, 1, 0, 0]) (exP rec (m_slices_Max_int32_int32tttht_k K))) (S := (AV × AV × AV)) (fun a => (a 0, a 3, a 4)) (fun (r0 : (AV × AV × AV) → AH → Prop) (s : (AV × AV × AV)) (H : AH) => m_slices_Max_int32_int32ttthtbl K r0 s.1 s.2.1 s.2.2 H) (fun (r0 : (AV × AV × AV) → AH → Prop) (a : TE) (H : AH) => (show codeP PP CC (subC (bodyC PP 76) [1, 1, 1, 0, 1, 0, 0]) (exP (fun (a : TE) (H : AH) => r0 (a 0, a 3, a 4) H) (m_slices_Max_int32_int32tttht_k K)) a H = codeP PP CC (subC (bodyC PP 76) [1, 1, 1, 0, 1, 0, 0]) (m_slices_Max_int32_int32ttthtb_k K r0) a H from by kernel_rfl).trans (m_slices_Max_int32_int32ttthtbl_eq K r0 a H)) a H
  h1.trans h2
theorem m_slices_Max_int32_int32tttht_eq (K : AV → AH → Prop) (a : TE) (H : AH) : codeP PP CC (subC (bodyC PP 76) [1, 1, 1, 0, 1]) (m_slices_Max_int32_int32ttt_k K) a H = m_slices_Max_int32_int32ttthtb K (a 0) (a 3) (a 4) H :=
  have h1 : codeP PP CC (subC (bodyC PP 76) [1, 1, 1, 0, 1]) (m_slices_Max_int32_int32ttt_k K) a H = codeP PP CC (subC (bodyC PP 76) [1, 1, 1, 0, 1, 0]) (m_slices_Max_int32_int32tttht_k K) a H := by kernel_rfl
  h1.trans (m_slices_Max_int32_int32ttthtb_eq K a H)
abbrev m_slices_Max_int32_int32ttth_k (K : AV → AH → Prop) : KP := exP (fun (a : TE) (H : AH) => m_slices_Max_int32_int32ttthtb K (a 0) (a 3) (a 4) H) (m_slices_Max_int32_int32ttt_k K)
def m_slices_Max_int32_int32ttth (K : AV → AH → Prop) (x0 x3 : AV) (H : AH) : Prop :=
  m_slices_Max_int32_int32ttthtb K x0 x3 (.int .i64 1) H
theorem m_slices_Max_int32_int32ttth_eq (K : AV → AH → Prop) (a : TE) (H : AH) : codeP PP CC (subC (bodyC PP 76) [1, 1, 1, 0]) (m_slices_Max_int32_int32ttt_k K) a H = m_slices_Max_int32_int32ttth K (a 0) (a 3) H :=
  have h1 : codeP PP CC (subC (bodyC PP 76) [1, 1, 1, 0]) (m_slices_Max_int32_int32ttt_k K) a H = codeP PP CC (subC (bodyC PP 76) [1, 1, 1, 0, 0]) (exP (codeP PP CC (subC (bodyC PP 76) [1, 1, 1, 0, 1]) (m_slices_Max_int32_int32ttt_k K)) (m_slices_Max_int32_int32ttt_k K)) a H := by kernel_rfl
  have h2 : codeP PP CC (subC (bodyC PP 76) [1, 1, 1, 0, 0]) (exP (codeP PP CC (subC (bodyC PP 76) [1, 1, 1, 0, 1]) (m_slices_Max_int32_int32ttt_k K)) (m_slices_Max_int32_int32ttt_k K)) a H = codeP PP CC (subC (bodyC PP 76) [1, 1, 1, 0, 0]) (exP (fun (a : TE) (H : AH) => m_slices_Max_int32_int32ttthtb K (a 0) (a 3) (a 4) H) (m_slices_Max_int32_int32ttt_k K)) a H := congrArg (fun k : KE => codeP PP CC (subC (bodyC PP 76) [1, 1, 1, 0, 0]) (exP k (m_slices_Max_int32_int32ttt_k K)) a H) (funext fun a => funext fun H => m_slices_Max_int32_int32tttht_eq K a H)
  have h2b : codeP PP CC (subC (bodyC PP 76) [1, 1, 1, 0, 0]) (exP (fun (a : TE) (H : AH) => m_slices_Max_int32_int32ttthtb K (a 0) (a 3) (a 4) H) (m_slices_Max_int32_int32ttt_k K)) a H = codeP PP CC (subC (bodyC PP 76) [1, 1, 1, 0, 0]) (m_slices_Max_int32_int32ttth_k K) a H := by kernel_rfl
  have h3 : codeP PP CC (subC (bodyC PP 76) [1, 1, 1, 0, 0]) (m_slices_Max_int32_int32ttth_k K) a H = m_slices_Max_int32_int32ttth K (a 0) (a 3) H := by kernel_rfl
  ((h1.trans h2).trans h2b).trans h3
theorem m_slices_Max_int32_int32ttt_eq (K : AV → AH → Prop) (a : TE) (H : AH) : codeP PP CC (subC (bodyC PP 76) [1, 1, 1]) (m_slices_Max_int32_int32_K K) a H = m_slices_Max_int32_int32ttth K (a 0) (a 3) H :=
  have h1 : codeP PP CC (subC (bodyC PP 76) [1, 1, 1]) (m_slices_Max_int32_int32_K K) a H = codeP PP CC (subC (bodyC PP 76) [1, 1, 1, 0]) (m_slices_Max_int32_int32ttt_k K) a H := by kernel_rfl
  h1.trans (m_slices_Max_int32_int32ttth_eq K a H)
abbrev m_slices_Max_int32_int32tt_k (K : AV → AH → Prop) : KP := exP (fun (a : TE) (H : AH) => m_slices_Max_int32_int32ttth K (a 0) (a 3) H) (m_slices_Max_int32_int32_K K)
def m_slices_Max_int32_int32tt (K : AV → AH → Prop) (x0 : AV) (H : AH) : Prop :=
  outP CC H (w_indexAddr (.sl 1) H x0 (.int .i64 0)) fun v1 H1 =>
  outP CC H1 (w_load none H1 v1) fun v2 H2 =>
  m_slices_Max_int32_int32ttth K x0 v2 H2
theorem m_slices_Max_int32_int32tt_eq (K : AV → AH → Prop) (a : TE) (H : AH) : codeP PP CC (subC (bodyC PP 76) [1, 1]) (m_slices_Max_int32_int32_K K) a H = m_slices_Max_int32_int32tt K (a 0) H :=
  have h1 : codeP PP CC (subC (bodyC PP 76) [1, 1]) (m_slices_Max_int32_int32_K K) a H = codeP PP CC (subC (bodyC PP 76) [1, 1, 0]) (exP (codeP PP CC (subC (bodyC PP 76) [1, 1, 1]) (m_slices_Max_int32_int32_K K)) (m_slices_Max_int32_int32_K K)) a H := by kernel_rfl
  have h2 : codeP PP CC (subC (bodyC PP 76) [1, 1, 0]) (exP (codeP PP CC (subC (bodyC PP 76) [1, 1, 1]) (m_slices_Max_int32_int32_K K)) (m_slices_Max_int32_int32_K K)) a H = codeP PP CC (subC (bodyC PP 76) [1, 1, 0]) (exP (fun (a : TE) (H : AH) => m_slices_Max_int32_int32ttth K (a 0) (a 3) H) (m_slices_Max_int32_int32_K K)) a H := congrArg (fun k : KE => codeP PP CC (subC (bodyC PP 76) [1, 1, 0]) (exP k (m_slices_Max_int32_int32_K K)) a H) (funext fun a => funext fun H => m_slices_Max_int32_int32ttt_eq K a H)
  have h2b : codeP PP CC (subC (bodyC PP 76) [1, 1, 0]) (exP (fun (a : TE) (H : AH) => m_slices_Max_int32_int32ttth K (a 0) (a 3) H) (m_slices_Max_int32_int32_K K)) a H = codeP PP CC (subC (bodyC PP 76) [1, 1, 0]) (m_slices_Max_int32_int32tt_k K) a H := by kernel_rfl
  have h3 : codeP PP CC (subC (bodyC PP 76) [1, 1, 0]) (m_slices_Max_int32_int32tt_k K) a H = m_slices_Max_int32_int32tt K (a 0) H := by kernel_rfl
  ((h1.trans h2).trans h2b).trans h3
abbrev m_slices_Max_int32_int32t_k (K : AV → AH → Prop) : KP := exP (fun (a : TE) (H : AH) => m_slices_Max_int32_int32tt K (a 0) H) (m_slices_Max_int32_int32_K K)
def m_slices_Max_int32_int32t (K : AV → AH → Prop) (x0 : AV) (H : AH) : Prop :=
  outP CC H (w_len PP 27 H x0) fun v1 H1 =>
  outP CC H1 (w_int .lss H1 v1 (.int .i64 1)) fun v2 H2 =>
  condP v2
  (outP CC H2 (some (.val (.iface 9 (.str [115, 108, 105, 99, 101, 115, 46, 77, 97, 120, 58, 32, 101, 109, 112, 116, 121, 32, 108, 105, 115, 116])) H2)) fun _v3 H3 =>
  outP CC H3 (none) fun _v4 H4 =>
  m_slices_Max_int32_int32tt K x0 H4)
  (m_slices_Max_int32_int32tt K x0 H2)
theorem m_slices_Max_int32_int32t_eq (K : AV → AH → Prop) (a : TE) (H : AH) : codeP PP CC (subC (bodyC PP 76) [1]) (m_slices_Max_int32_int32_K K) a H = m_slices_Max_int32_int32t K (a 0) H :=
  have h1 : codeP PP CC (subC (bodyC PP 76) [1]) (m_slices_Max_int32_int32_K K) a H = codeP PP CC (subC (bodyC PP 76) [1, 0]) (exP (codeP PP CC (subC (bodyC PP 76) [1, 1]) (m_slices_Max_int32_int32_K K)) (m_slices_Max_int32_int32_K K)) a H := by kernel_rfl
  have h2 : codeP PP CC (subC (bodyC PP 76) [1, 0]) (exP (codeP PP CC (subC (bodyC PP 76) [1, 1]) (m_slices_Max_int32_int32_K K)) (m_slices_Max_int32_int32_K K)) a H = codeP PP CC (subC (bodyC PP 76) [1, 0]) (exP (fun (a : TE) (H : AH) => m_slices_Max_int32_int32tt K (a 0) H) (m_slices_Max_int32_int32_K K)) a H := congrArg (fun k : KE => codeP PP CC (subC (bodyC PP 76) [1, 0]) (exP k (m_slices_Max_int32_int32_K K)) a H) (funext fun a => funext fun H => m_slices_Max_int32_int32tt_eq K a H)
  have h2b : codeP PP CC (subC (bodyC PP 76) [1, 0]) (exP (fun (a : TE) (H : AH) => m_slices_Max_int32_int32tt K (a 0) H) (m_slices_Max_int32_int32_K K)) a H = codeP PP CC (subC (bodyC PP 76) [1, 0]) (m_slices_Max_int32_int32t_k K) a H := by kernel_rfl
  have h3 : codeP PP CC (subC (bodyC PP 76) [1, 0]) (m_slices_Max_int32_int32t_k K) a H = m_slices_Max_int32_int32t K (a 0) H := by kernel_rfl
  ((h1.trans h2).trans h2b).trans h3
abbrev m_slices_Max_int32_int32_k (K : AV → AH → Prop) : KP := exP (fun (a : TE) (H : AH) => m_slices_Max_int32_int32t K (a 0) H) (m_slices_Max_int32_int32_K K)
def m_slices_Max_int32_int32 (K : AV → AH → Prop) (x0 : AV) (H : AH) : Prop :=
  m_slices_Max_int32_int32t K x0 H
theorem m_slices_Max_int32_int32_eq (K : AV → AH → Prop) (a : TE) (H : AH) : codeP PP CC (subC (bodyC PP 76) []) (m_slices_Max_int32_int32_K K) a H = m_slices_Max_int32_int32 K (a 0) H :=
  have h1 : codeP PP CC (subC (bodyC PP 76) []) (m_slices_Max_int32_int32_K K) a H = codeP PP CC (subC (bodyC PP 76) [0]) (exP (codeP PP CC (subC (bodyC PP 76) [1]) (m_slices_Max_int32_int32_K K)) (m_slices_Max_int32_int32_K K)) a H := by kernel_rfl
  have h2 : codeP PP CC (subC (bodyC PP 76) [0]) (exP (codeP PP CC (subC (bodyC PP 76) [1]) (m_slices_Max_int32_int32_K K)) (m_slices_Max_int32_int32_K K)) a H = codeP PP CC (subC (bodyC PP 76) [0]) (exP (fun (a : TE) (H : AH) => m_slices_Max_int32_int32t K (a 0) H) (m_slices_Max_int32_int32_K K)) a H := congrArg (fun k : KE => codeP PP CC (subC (bodyC PP 76) [0]) (exP k (m_slices_Max_int32_int32_K K)) a H) (funext fun a => funext fun H => m_slices_Max_int32_int32t_eq K a H)
  have h2b : codeP PP CC (subC (bodyC PP 76) [0]) (exP (fun (a : TE) (H : AH) => m_slices_Max_int32_int32t K (a 0) H) (m_slices_Max_int32_int32_K K)) a H = codeP PP CC (subC (bodyC PP 76) [0]) (m_slices_Max_int32_int32_k K) a H := by kernel_rfl
  have h3 : codeP PP CC (subC (bodyC PP 76) [0]) (m_slices_Max_int32_int32_k K) a H = m_slices_Max_int32_int32 K (a 0) H := by kernel_rfl
  ((h1.trans h2).trans h2b).trans h3
theorem m_slices_Max_int32_int32_ok (x0 : AV) (H : AH) (K : AV → AH → Prop) (h : m_slices_Max_int32_int32 K x0 H) : CC.call 76 [x0] H K :=
  have h1 : funP PP CC 76 [x0] H K = codeP PP CC (subC (bodyC PP 76) []) (m_slices_Max_int32_int32_K K) (argE [x0]) H := by kernel_rfl
  have h2 : m_slices_Max_int32_int32 K (argE [x0] 0) H = m_slices_Max_int32_int32 K x0 H := by kernel_rfl
  funP_ok (P := PP) (by kernel_rfl) (by kernel_rfl) ((h1.trans ((m_slices_Max_int32_int32_eq K (argE [x0]) H).trans h2)).mpr h)

/-! 77: (fieldfare/fieldfareref1.Book).fine -/
abbrev m_fieldfareref1_Book_fine_K (K : AV → AH → Prop) : KP := finP PP (resC PP 77) K
abbrev m_fieldfareref1_Book_finet_k (K : AV → AH → Prop) : KP := exP (codeP PP CC (subC (bodyC PP 77) [1, 1]) (m_fieldfareref1_Book_fine_K K)) (m_fieldfareref1_Book_fine_K K)
abbrev m_fieldfareref1_Book_finetht_k (K : AV → AH → Prop) : KP := blockP 0 (m_fieldfareref1_Book_finet_k K)
abbrev m_fieldfareref1_Book_finethtb_k (K : AV → AH → Prop) (r0 : (AV × AV × AV) → AH → Prop) : KP := exP (fun (a : TE) (H : AH) => r0 (a 1, a 6, a 7) H) (m_fieldfareref1_Book_finetht_k K)
def m_fieldfareref1_Book_finethtbl (K : AV → AH → Prop) (r0 : (AV × AV × AV) → AH → Prop) (x1 x6 x7 : AV) (H : AH) : Prop :=
  outP CC H (w_int .lss H x7 x6) fun v1 H1 =>
  condP v1
  (outP CC H1 (w_fieldAddr 1 H1 x1) fun v2 H2 =>
  outP CC H2 (w_load none H2 v2) fun v3 H3 =>
  outP CC H3 (w_indexAddr (.sl 1) H3 v3 x7) fun v4 H4 =>
  outP CC H4 (w_load none H4 v4) fun v5 H5 =>
  outP CC H5 (w_int .lss H5 v5 (.int .i32 1)) fun v6 H6 =>
  condP v6
  (K (.bool false) H6)
  (outP CC H6 (w_int .add H6 x7 (.int .i64 1)) fun v7 H7 =>
  r0 (x1, x6, v7) H7))
  (outP CC H1 (w_fieldAddr 0 H1 x1) fun v8 H8 =>
  outP CC H8 (w_load none H8 v8) fun v9 H9 =>
  outP CC H9 (w_len PP 27 H9 v9) fun v10 H10 =>
  outP CC H10 (w_fieldAddr 1 H10 x1) fun v11 H11 =>
  outP CC H11 (w_load none H11 v11) fun v12 H12 =>
  outP CC H12 (w_len PP 27 H12 v12) fun v13 H13 =>
  outP CC H13 (w_int .eql H13 v10 v13) fun v14 H14 =>
  K v14 H14)
theorem m_fieldfareref1_Book_finethtbl_eq (K : AV → AH → Prop) (r0 : (AV × AV × AV) → AH → Prop) (a : TE) (H : AH) : codeP PP CC (subC (bodyC PP 77) [1, 0, 1, 0, 0]) (m_fieldfareref1_Book_finethtb_k K r0) a H = m_fieldfareref1_Book_finethtbl K r0 (a 1) (a 6) (a 7) H :=
  by kernel_rfl
def m_fieldfareref1_Book_finethtb (K : AV → AH → Prop) (x1 x6 x7 : AV) (H : AH) : Prop :=
  loopP (fun (r0 : (AV × AV × AV) → AH → Prop) (s : (AV × AV × AV)) (H : AH) => m_fieldfareref1_Book_finethtbl K r0 s.1 s.2.1 s.2.2 H) (x1, x6, x7) H
theorem m_fieldfareref1_Book_finethtb_eq (K : AV → AH → Prop) (a : TE) (H : AH) : codeP PP CC (subC (bodyC PP 77) [1, 0, 1, 0]) (m_fieldfareref1_Book_finetht_k K) a H = m_fieldfareref1_Book_finethtb K (a 1) (a 6) (a 7) H :=
  have h1 : codeP PP CC (subC (bodyC PP 77) [1, 0, 1, 0]) (m_fieldfareref1_Book_finetht_k K) a H = loopP (fun (rec : KE) => codeP PP CC (subC (bodyC PP 77) [1, 0, 1, 0, 0]) (exP rec (m_fieldfareref1_Book_finetht_k K))) a H := by kernel_rfl
  have h2 := loopP_iso (F := fun (rec : KE) => codeP PP CC (subC (bodyC PP 77) [1, 0, 1, 0, 0]) (exP rec (m_fieldfareref1_Book_finetht_k K))) (S := (AV × AV × AV)) (fun a => (a 1, a 6, a 7)) (fun (r0 : (AV × AV × AV) → AH → Prop) (s : (AV × AV × AV)) (H : AH) => m_fieldfareref1_Book_finethtbl K r0 s.1 s.2.1 s.2.2 H) (fun (r0 : (AV × AV × AV) → AH → Prop) (a : TE) (H : AH) => (show codeP PP CC (subC (bodyC PP 77) [1, 0, 1, 0, 0]) (exP (fun (a : TE) (H : AH) => r0 (a 1, a 6, a 7) H) (m_fieldfareref1_Book_finetht_k K)) a H = codeP PP CC (subC (bodyC PP 77) [1, 0, 1, 0, 0]) (m_fieldfareref1_Book_finethtb_k K r0) a H from by kernel_rfl).trans (m_fieldfareref1_Book_finethtbl_eq K r0 a H)) a H
  h1.trans h2
theorem m_fieldfareref1_Book_finetht_eq (K : AV → AH → Prop) (a : TE) (H : AH) : codeP PP CC (subC (bodyC PP 77) [1, 0, 1]) (m_fieldfareref1_Book_finet_k K) a H = m_fieldfareref1_Book_finethtb K (a 1) (a 6) (a 7) H :=
  have h1 : codeP PP CC (subC (bodyC PP 77) [1, 0, 1]) (m_fieldfareref1_Book_finet_k K) a H = codeP PP CC (subC (bodyC PP 77) [1, 0, 1, 0]) (m_fieldfareref1_Book_finetht_k K) a H := by kernel_rfl
  h1.trans (m_fieldfareref1_Book_finethtb_eq K a H)
abbrev m_fieldfareref1_Book_fineth_k (K : AV → AH → Prop) : KP := exP (fun (a : TE) (H : AH) => m_fieldfareref1_Book_finethtb K (a 1) (a 6) (a 7) H) (m_fieldfareref1_Book_finet_k K)
def m_fieldfareref1_Book_fineth (K : AV → AH → Prop) (x1 : AV) (H : AH) : Prop :=
  outP CC H (w_fieldAddr 1 H x1) fun v1 H1 =>
  outP CC H1 (w_load none H1 v1) fun v2 H2 =>
  outP CC H2 (w_len PP 27 H2 v2) fun v3 H3 =>
  m_fieldfareref1_Book_finethtb K x1 v3 (.int .i64 0) H3
theorem m_fieldfareref1_Book_fineth_eq (K : AV → AH → Prop) (a : TE) (H : AH) : codeP PP CC (subC (bodyC PP 77) [1, 0]) (m_fieldfareref1_Book_finet_k K) a H = m_fieldfareref1_Book_fineth K (a 1) H :=
  have h1 : codeP PP CC (subC (bodyC PP 77) [1, 0]) (m_fieldfareref1_Book_finet_k K) a H = codeP PP CC (subC (bodyC PP 77) [1, 0, 0]) (exP (codeP PP CC (subC (bodyC PP 77) [1, 0, 1]) (m_fieldfareref1_Book_finet_k K)) (m_fieldfareref1_Book_finet_k K)) a H := by kernel_rfl
  have h2 : codeP PP CC (subC (bodyC PP 77) [1, 0, 0]) (exP (codeP PP CC (subC (bodyC PP 77) [1, 0, 1]) (m_fieldfareref1_Book_finet_k K)) (m_fieldfareref1_Book_finet_k K)) a H = codeP PP CC (subC (bodyC PP 77) [1, 0, 0]) (exP (fun (a : TE) (H : AH) => m_fieldfareref1_Book_finethtb K (a 1) (a 6) (a 7) H) (m_fieldfareref1_Book_finet_k K)) a H := congrArg (fun k : KE => codeP PP CC (subC (bodyC PP 77) [1, 0, 0]) (exP k (m_fieldfareref1_Book_finet_k K)) a H) (funext fun a => funext fun H => m_fieldfareref1_Book_finetht_eq K a H)
  have h2b : codeP PP CC (subC (bodyC PP 77) [1, 0, 0]) (exP (fun (a : TE) (H : AH) => m_fieldfareref1_Book_finethtb K (a 1) (a 6) (a 7) H) (m_fieldfareref1_Book_finet_k K)) a H = codeP PP CC (subC (bodyC PP 77) [1, 0, 0]) (m_fieldfareref1_Book_fineth_k K) a H := by kernel_rfl
  have h3 : codeP PP CC (subC (bodyC PP 77) [1, 0, 0]) (m_fieldfareref1_Book_fineth_k K) a H = m_fieldfareref1_Book_fineth K (a 1) H := by kernel_rfl
  ((h1.trans h2).trans h2b).trans h3
theorem m_fieldfareref1_Book_finet_eq (K : AV → AH → Prop) (a : TE) (H : AH) : codeP PP CC (subC (bodyC PP 77) [1]) (m_fieldfareref1_Book_fine_K K) a H = m_fieldfareref1_Book_fineth K (a 1) H :=
  have h1 : codeP PP CC (subC (bodyC PP 77) [1]) (m_fieldfareref1_Book_fine_K K) a H = codeP PP CC (subC (bodyC PP 77) [1, 0]) (m_fieldfareref1_Book_finet_k K) a H := by kernel_rfl
  h1.trans (m_fieldfareref1_Book_fineth_eq K a H)
abbrev m_fieldfareref1_Book_fine_k (K : AV → AH → Prop) : KP := exP (fun (a : TE) (H : AH) => m_fieldfareref1_Book_fineth K (a 1) H) (m_fieldfareref1_Book_fine_K K)
def m_fieldfareref1_Book_fine (K : AV → AH → Prop) (x0 : AV) (H : AH) : Prop :=
  outP CC H (w_box 67 H x0 none) fun v1 H1 =>
  m_fieldfareref1_Book_fineth K v1 H1
theorem m_fieldfareref1_Book_fine_eq (K : AV → AH → Prop) (a : TE) (H : AH) : codeP PP CC (subC (bodyC PP 77) []) (m_fieldfareref1_Book_fine_K K) a H = m_fieldfareref1_Book_fine K (a 0) H :=
  have h1 : codeP PP CC (subC (bodyC PP 77) []) (m_fieldfareref1_Book_fine_K K) a H = codeP PP CC (subC (bodyC PP 77) [0]) (exP (codeP PP CC (subC (bodyC PP 77) [1]) (m_fieldfareref1_Book_fine_K K)) (m_fieldfareref1_Book_fine_K K)) a H := by kernel_rfl
  have h2 : codeP PP CC (subC (bodyC PP 77) [0]) (exP (codeP PP CC (subC (bodyC PP 77) [1]) (m_fieldfareref1_Book_fine_K K)) (m_fieldfareref1_Book_fine_K K)) a H = codeP PP CC (subC (bodyC PP 77) [0]) (exP (fun (a : TE) (H : AH) => m_fieldfareref1_Book_fineth K (a 1) H) (m_fieldfareref1_Book_fine_K K)) a H := congrArg (fun k : KE => codeP PP CC (subC (bodyC PP 77) [0]) (exP k (m_fieldfareref1_Book_fine_K K)) a H) (funext fun a => funext fun H => m_fieldfareref1_Book_finet_eq K a H)
  have h2b : codeP PP CC (subC (bodyC PP 77) [0]) (exP (fun (a : TE) (H : AH) => m_fieldfareref1_Book_fineth K (a 1) H) (m_fieldfareref1_Book_fine_K K)) a H = codeP PP CC (subC (bodyC PP 77) [0]) (m_fieldfareref1_Book_fine_k K) a H := by kernel_rfl
  have h3 : codeP PP CC (subC (bodyC PP 77) [0]) (m_fieldfareref1_Book_fine_k K) a H = m_fieldfareref1_Book_fine K (a 0) H := by kernel_rfl
  ((h1.trans h2).trans h2b).trans h3
theorem m_fieldfareref1_Book_fine_ok (x0 : AV) (H : AH) (K : AV → AH → Prop) (h : m_fieldfareref1_Book_fine K x0 H) : CC.call 77 [x0] H K :=
  have h1 : funP PP CC 77 [x0] H K = codeP PP CC (subC (bodyC PP 77) []) (m_fieldfareref1_Book_fine_K K) (argE [x0]) H := by kernel_rfl
  have h2 : m_fieldfareref1_Book_fine K (argE [x0] 0) H = m_fieldfareref1_Book_fine K x0 H := by kernel_rfl
  funP_ok (P := PP) (by kernel_rfl) (by kernel_rfl) ((h1.trans ((m_fieldfareref1_Book_fine_eq K (argE [x0]) H).trans h2)).mpr h)

/-! 78: fieldfare/quant.floor -/
abbrev m_quant_floor_K (K : AV → AH → Prop) : KP := finP PP (resC PP 78) K
def m_quant_floor (K : AV → AH → Prop) (x0 x1 : AV) (H : AH) : Prop :=
  outP CC H (w_int .quo H x0 x1) fun v1 H1 =>
  outP CC H1 (w_int .rem H1 x0 x1) fun v2 H2 =>
  outP CC H2 (w_int .lss H2 v2 (.int .i64 0)) fun v3 H3 =>
  condP v3
  (outP CC H3 (w_int .sub H3 v1 (.int .i64 1)) fun v4 H4 =>
  K v4 H4)
  (K v1 H3)
theorem m_quant_floor_eq (K : AV → AH → Prop) (a : TE) (H : AH) : codeP PP CC (subC (bodyC PP 78) []) (m_quant_floor_K K) a H = m_quant_floor K (a 0) (a 1) H :=
  by kernel_rfl
theorem m_quant_floor_ok (x0 x1 : AV) (H : AH) (K : AV → AH → Prop) (h : m_quant_floor K x0 x1 H) : CC.call 78 [x0, x1] H K :=
  have h1 : funP PP CC 78 [x0, x1] H K = codeP PP CC (subC (bodyC PP 78) []) (m_quant_floor_K K) (argE [x0, x1]) H := by kernel_rfl
  have h2 : m_quant_floor K (argE [x0, x1] 0) (argE [x0, x1] 1) H = m_quant_floor K x0 x1 H := by kernel_rfl
  funP_ok (P := PP) (by kernel_rfl) (by kernel_rfl) ((h1.trans ((m_quant_floor_eq K (argE [x0, x1]) H).trans h2)).mpr h)

/-! 79: fieldfare/fieldfareref1.down -/
abbrev m_fieldfareref1_down_K (K : AV → AH → Prop) : KP := finP PP (resC PP 79) K
def m_fieldfareref1_down (K : AV → AH → Prop) (x0 x1 : AV) (H : AH) : Prop :=
  outP CC H (w_int .quo H x0 x1) fun v1 H1 =>
  outP CC H1 (w_int .rem H1 x0 x1) fun v2 H2 =>
  outP CC H2 (w_int .lss H2 v2 (.int .i64 0)) fun v3 H3 =>
  condP v3
  (outP CC H3 (w_int .sub H3 v1 (.int .i64 1)) fun v4 H4 =>
  K v4 H4)
  (K v1 H3)
theorem m_fieldfareref1_down_eq (K : AV → AH → Prop) (a : TE) (H : AH) : codeP PP CC (subC (bodyC PP 79) []) (m_fieldfareref1_down_K K) a H = m_fieldfareref1_down K (a 0) (a 1) H :=
  by kernel_rfl
theorem m_fieldfareref1_down_ok (x0 x1 : AV) (H : AH) (K : AV → AH → Prop) (h : m_fieldfareref1_down K x0 x1 H) : CC.call 79 [x0, x1] H K :=
  have h1 : funP PP CC 79 [x0, x1] H K = codeP PP CC (subC (bodyC PP 79) []) (m_fieldfareref1_down_K K) (argE [x0, x1]) H := by kernel_rfl
  have h2 : m_fieldfareref1_down K (argE [x0, x1] 0) (argE [x0, x1] 1) H = m_fieldfareref1_down K x0 x1 H := by kernel_rfl
  funP_ok (P := PP) (by kernel_rfl) (by kernel_rfl) ((h1.trans ((m_fieldfareref1_down_eq K (argE [x0, x1]) H).trans h2)).mpr h)

/-! 98: slices.ContainsFunc[[]int32,int32] -/
abbrev m_slices_ContainsFunc_int32_int32_K (K : AV → AH → Prop) : KP := finP PP (resC PP 98) K
def m_slices_ContainsFunc_int32_int32 (K : AV → AH → Prop) (x0 x1 : AV) (H : AH) : Prop :=
  outP CC H (some (.enter 118 [x0, x1])) fun v1 H1 =>
  outP CC H1 (w_int .geq H1 v1 (.int .i64 0)) fun v2 H2 =>
  K v2 H2
theorem m_slices_ContainsFunc_int32_int32_eq (K : AV → AH → Prop) (a : TE) (H : AH) : codeP PP CC (subC (bodyC PP 98) []) (m_slices_ContainsFunc_int32_int32_K K) a H = m_slices_ContainsFunc_int32_int32 K (a 0) (a 1) H :=
  by kernel_rfl
theorem m_slices_ContainsFunc_int32_int32_ok (x0 x1 : AV) (H : AH) (K : AV → AH → Prop) (h : m_slices_ContainsFunc_int32_int32 K x0 x1 H) : CC.call 98 [x0, x1] H K :=
  have h1 : funP PP CC 98 [x0, x1] H K = codeP PP CC (subC (bodyC PP 98) []) (m_slices_ContainsFunc_int32_int32_K K) (argE [x0, x1]) H := by kernel_rfl
  have h2 : m_slices_ContainsFunc_int32_int32 K (argE [x0, x1] 0) (argE [x0, x1] 1) H = m_slices_ContainsFunc_int32_int32 K x0 x1 H := by kernel_rfl
  funP_ok (P := PP) (by kernel_rfl) (by kernel_rfl) ((h1.trans ((m_slices_ContainsFunc_int32_int32_eq K (argE [x0, x1]) H).trans h2)).mpr h)

/-! 99: fieldfare/quant.right$1 -/
abbrev m_quant_right_1_K (K : AV → AH → Prop) : KP := finP PP (resC PP 99) K
def m_quant_right_1 (K : AV → AH → Prop) (x0 : AV) (H : AH) : Prop :=
  outP CC H (w_int .lss H x0 (.int .i32 1)) fun v1 H1 =>
  K v1 H1
theorem m_quant_right_1_eq (K : AV → AH → Prop) (a : TE) (H : AH) : codeP PP CC (subC (bodyC PP 99) []) (m_quant_right_1_K K) a H = m_quant_right_1 K (a 0) H :=
  by kernel_rfl
theorem m_quant_right_1_ok (x0 : AV) (H : AH) (K : AV → AH → Prop) (h : m_quant_right_1 K x0 H) : CC.call 99 [x0] H K :=
  have h1 : funP PP CC 99 [x0] H K = codeP PP CC (subC (bodyC PP 99) []) (m_quant_right_1_K K) (argE [x0]) H := by kernel_rfl
  have h2 : m_quant_right_1 K (argE [x0] 0) H = m_quant_right_1 K x0 H := by kernel_rfl
  funP_ok (P := PP) (by kernel_rfl) (by kernel_rfl) ((h1.trans ((m_quant_right_1_eq K (argE [x0]) H).trans h2)).mpr h)

/-! 118: slices.IndexFunc[[]int32,int32] -/
abbrev m_slices_IndexFunc_int32_int32_K (K : AV → AH → Prop) : KP := finP PP (resC PP 118) K
abbrev m_slices_IndexFunc_int32_int32t_k (K : AV → AH → Prop) : KP := exP (codeP PP CC (subC (bodyC PP 118) [1, 1]) (m_slices_IndexFunc_int32_int32_K K)) (m_slices_IndexFunc_int32_int32_K K)
abbrev m_slices_IndexFunc_int32_int32tht_k (K : AV → AH → Prop) : KP := blockP 0 (m_slices_IndexFunc_int32_int32t_k K)
abbrev m_slices_IndexFunc_int32_int32thtb_k (K : AV → AH → Prop) (r0 : (AV × AV × AV × AV) → AH → Prop) : KP := exP (fun (a : TE) (H : AH) => r0 (a 0, a 1, a 7, a 8) H) (m_slices_IndexFunc_int32_int32tht_k K)
def m_slices_IndexFunc_int32_int32thtbl (K : AV → AH → Prop) (r0 : (AV × AV × AV × AV) → AH → Prop) (x0 x1 x7 x8 : AV) (H : AH) : Prop :=
  outP CC H (w_int .lss H x8 x7) fun v1 H1 =>
  condP v1
  (outP CC H1 (w_indexAddr (.sl 1) H1 x0 x8) fun v2 H2 =>
  outP CC H2 (w_load none H2 v2) fun v3 H3 =>
  outP CC H3 (callV [v3] x1) fun v4 H4 =>
  condP v4
  (K x8 H4)
  (outP CC H4 (w_int .add H4 x8 (.int .i64 1)) fun v5 H5 =>
  r0 (x0, x1, x7, v5) H5))
  (K (.int .i64 (-1)) H1)
theorem m_slices_IndexFunc_int32_int32thtbl_eq (K : AV → AH → Prop) (r0 : (AV × AV × AV × AV) → AH → Prop) (a : TE) (H : AH) : codeP PP CC (subC (bodyC PP 118) [1, 0, 1, 0, 0]) (m_slices_IndexFunc_int32_int32thtb_k K r0) a H = m_slices_IndexFunc_int32_int32thtbl K r0 (a 0) (a 1) (a 7) (a 8) H :=
  by kernel_rfl
def m_slices_IndexFunc_int32_int32thtb (K : AV → AH → Prop) (x0 x1 x7 x8 : AV) (H : AH) : Prop :=
  loopP (fun (r0 : (AV × AV × AV × AV) → AH → Prop) (s : (AV × AV × AV × AV)) (H : AH) => m_slices_IndexFunc_int32_int32thtbl K r0 s.1 s.2.1 s.2.2.1 s.2.2.2 H) (x0, x1, x7, x8) H
theorem m_slices_IndexFunc_int32_int32thtb_eq (K : AV → AH → Prop) (a : TE) (H : AH) : codeP PP CC (subC (bodyC PP 118) [1, 0, 1, 0]) (m_slices_IndexFunc_int32_int32tht_k K) a H = m_slices_IndexFunc_int32_int32thtb K (a 0) (a 1) (a 7) (a 8) H :=
  have h1 : codeP PP CC (subC (bodyC PP 118) [1, 0, 1, 0]) (m_slices_IndexFunc_int32_int32tht_k K) a H = loopP (fun (rec : KE) => codeP PP CC (subC (bodyC PP 118) [1, 0, 1, 0, 0]) (exP rec (m_slices_IndexFunc_int32_int32tht_k K))) a H := by kernel_rfl
  have h2 := loopP_iso (F := fun (rec : KE) => codeP PP CC (subC (bodyC PP 118) [1, 0, 1, 0, 0]) (exP rec (m_slices_IndexFunc_int32_int32tht_k K))) (S := (AV × AV × AV × AV)) (fun a => (a 0, a 1, a 7, a 8)) (fun (r0 : (AV × AV × AV × AV) → AH → Prop) (s : (AV × AV × AV × AV)) (H : AH) => m_slices_IndexFunc_int32_int32thtbl K r0 s.1 s.2.1 s.2.2.1 s.2.2.2 H) (fun (r0 : (AV × AV × AV × AV) → AH → Prop) (a : TE) (H : AH) => (show codeP PP CC (subC (bodyC PP 118) [1, 0, 1, 0, 0]) (exP (fun (a : TE) (H : AH) => r0 (a 0, a 1, a 7, a 8) H) (m_slices_IndexFunc_int32_int32tht_k K)) a H = codeP PP CC (subC (bodyC PP 118) [1, 0, 1, 0, 0]) (m_slices_IndexFunc_int32_int32thtb_k K r0) a H from by kernel_rfl).trans (m_slices_IndexFunc_int32_int32thtbl_eq K r0 a H)) a H
  h1.trans h2
theorem m_slices_IndexFunc_int32_int32tht_eq (K : AV → AH → Prop) (a : TE) (H : AH) : codeP PP CC (subC (bodyC PP 118) [1, 0, 1]) (m_slices_IndexFunc_int32_int32t_k K) a H = m_slices_IndexFunc_int32_int32thtb K (a 0) (a 1) (a 7) (a 8) H :=
  have h1 : codeP PP CC (subC (bodyC PP 118) [1, 0, 1]) (m_slices_IndexFunc_int32_int32t_k K) a H = codeP PP CC (subC (bodyC PP 118) [1, 0, 1, 0]) (m_slices_IndexFunc_int32_int32tht_k K) a H := by kernel_rfl
  h1.trans (m_slices_IndexFunc_int32_int32thtb_eq K a H)
abbrev m_slices_IndexFunc_int32_int32th_k (K : AV → AH → Prop) : KP := exP (fun (a : TE) (H : AH) => m_slices_IndexFunc_int32_int32thtb K (a 0) (a 1) (a 7) (a 8) H) (m_slices_IndexFunc_int32_int32t_k K)
def m_slices_IndexFunc_int32_int32th (K : AV → AH → Prop) (x0 x1 : AV) (H : AH) : Prop :=
  outP CC H (w_len PP 27 H x0) fun v1 H1 =>
  m_slices_IndexFunc_int32_int32thtb K x0 x1 v1 (.int .i64 0) H1
theorem m_slices_IndexFunc_int32_int32th_eq (K : AV → AH → Prop) (a : TE) (H : AH) : codeP PP CC (subC (bodyC PP 118) [1, 0]) (m_slices_IndexFunc_int32_int32t_k K) a H = m_slices_IndexFunc_int32_int32th K (a 0) (a 1) H :=
  have h1 : codeP PP CC (subC (bodyC PP 118) [1, 0]) (m_slices_IndexFunc_int32_int32t_k K) a H = codeP PP CC (subC (bodyC PP 118) [1, 0, 0]) (exP (codeP PP CC (subC (bodyC PP 118) [1, 0, 1]) (m_slices_IndexFunc_int32_int32t_k K)) (m_slices_IndexFunc_int32_int32t_k K)) a H := by kernel_rfl
  have h2 : codeP PP CC (subC (bodyC PP 118) [1, 0, 0]) (exP (codeP PP CC (subC (bodyC PP 118) [1, 0, 1]) (m_slices_IndexFunc_int32_int32t_k K)) (m_slices_IndexFunc_int32_int32t_k K)) a H = codeP PP CC (subC (bodyC PP 118) [1, 0, 0]) (exP (fun (a : TE) (H : AH) => m_slices_IndexFunc_int32_int32thtb K (a 0) (a 1) (a 7) (a 8) H) (m_slices_IndexFunc_int32_int32t_k K)) a H := congrArg (fun k : KE => codeP PP CC (subC (bodyC PP 118) [1, 0, 0]) (exP k (m_slices_IndexFunc_int32_int32t_k K)) a H) (funext fun a => funext fun H => m_slices_IndexFunc_int32_int32tht_eq K a H)
  have h2b : codeP PP CC (subC (bodyC PP 118) [1, 0, 0]) (exP (fun (a : TE) (H : AH) => m_slices_IndexFunc_int32_int32thtb K (a 0) (a 1) (a 7) (a 8) H) (m_slices_IndexFunc_int32_int32t_k K)) a H = codeP PP CC (subC (bodyC PP 118) [1, 0, 0]) (m_slices_IndexFunc_int32_int32th_k K) a H := by kernel_rfl
  have h3 : codeP PP CC (subC (bodyC PP 118) [1, 0, 0]) (m_slices_IndexFunc_int32_int32th_k K) a H = m_slices_IndexFunc_int32_int32th K (a 0) (a 1) H := by kernel_rfl
  ((h1.trans h2).trans h2b).trans h3
theorem m_slices_IndexFunc_int32_int32t_eq (K : AV → AH → Prop) (a : TE) (H : AH) : codeP PP CC (subC (bodyC PP 118) [1]) (m_slices_IndexFunc_int32_int32_K K) a H = m_slices_IndexFunc_int32_int32th K (a 0) (a 1) H :=
  have h1 : codeP PP CC (subC (bodyC PP 118) [1]) (m_slices_IndexFunc_int32_int32_K K) a H = codeP PP CC (subC (bodyC PP 118) [1, 0]) (m_slices_IndexFunc_int32_int32t_k K) a H := by kernel_rfl
  h1.trans (m_slices_IndexFunc_int32_int32th_eq K a H)
abbrev m_slices_IndexFunc_int32_int32_k (K : AV → AH → Prop) : KP := exP (fun (a : TE) (H : AH) => m_slices_IndexFunc_int32_int32th K (a 0) (a 1) H) (m_slices_IndexFunc_int32_int32_K K)
def m_slices_IndexFunc_int32_int32 (K : AV → AH → Prop) (x0 x1 : AV) (H : AH) : Prop :=
  m_slices_IndexFunc_int32_int32th K x0 x1 H
theorem m_slices_IndexFunc_int32_int32_eq (K : AV → AH → Prop) (a : TE) (H : AH) : codeP PP CC (subC (bodyC PP 118) []) (m_slices_IndexFunc_int32_int32_K K) a H = m_slices_IndexFunc_int32_int32 K (a 0) (a 1) H :=
  have h1 : codeP PP CC (subC (bodyC PP 118) []) (m_slices_IndexFunc_int32_int32_K K) a H = codeP PP CC (subC (bodyC PP 118) [0]) (exP (codeP PP CC (subC (bodyC PP 118) [1]) (m_slices_IndexFunc_int32_int32_K K)) (m_slices_IndexFunc_int32_int32_K K)) a H := by kernel_rfl
  have h2 : codeP PP CC (subC (bodyC PP 118) [0]) (exP (codeP PP CC (subC (bodyC PP 118) [1]) (m_slices_IndexFunc_int32_int32_K K)) (m_slices_IndexFunc_int32_int32_K K)) a H = codeP PP CC (subC (bodyC PP 118) [0]) (exP (fun (a : TE) (H : AH) => m_slices_IndexFunc_int32_int32th K (a 0) (a 1) H) (m_slices_IndexFunc_int32_int32_K K)) a H := congrArg (fun k : KE => codeP PP CC (subC (bodyC PP 118) [0]) (exP k (m_slices_IndexFunc_int32_int32_K K)) a H) (funext fun a => funext fun H => m_slices_IndexFunc_int32_int32t_eq K a H)
  have h2b : codeP PP CC (subC (bodyC PP 118) [0]) (exP (fun (a : TE) (H : AH) => m_slices_IndexFunc_int32_int32th K (a 0) (a 1) H) (m_slices_IndexFunc_int32_int32_K K)) a H = codeP PP CC (subC (bodyC PP 118) [0]) (m_slices_IndexFunc_int32_int32_k K) a H := by kernel_rfl
  have h3 : codeP PP CC (subC (bodyC PP 118) [0]) (m_slices_IndexFunc_int32_int32_k K) a H = m_slices_IndexFunc_int32_int32 K (a 0) (a 1) H := by kernel_rfl
  ((h1.trans h2).trans h2b).trans h3
theorem m_slices_IndexFunc_int32_int32_ok (x0 x1 : AV) (H : AH) (K : AV → AH → Prop) (h : m_slices_IndexFunc_int32_int32 K x0 x1 H) : CC.call 118 [x0, x1] H K :=
  have h1 : funP PP CC 118 [x0, x1] H K = codeP PP CC (subC (bodyC PP 118) []) (m_slices_IndexFunc_int32_int32_K K) (argE [x0, x1]) H := by kernel_rfl
  have h2 : m_slices_IndexFunc_int32_int32 K (argE [x0, x1] 0) (argE [x0, x1] 1) H = m_slices_IndexFunc_int32_int32 K x0 x1 H := by kernel_rfl
  funP_ok (P := PP) (by kernel_rfl) (by kernel_rfl) ((h1.trans ((m_slices_IndexFunc_int32_int32_eq K (argE [x0, x1]) H).trans h2)).mpr h)

end
end Go.Ab
