/- What functions do, said as what the evaluator does. Printed by a program. -/
import Derived.Test.YtoafnnphjbdedaaGreatDoorBeg
import Derived.Test.YtoafnnphjbdedaaGreatDoorEv3
namespace Go.Ab
noncomputable section
open Go.Proofs
set_option maxRecDepth 100000



/-! 3: fieldfare/fieldfarelaw7.MeansOwn -/
abbrev m_fieldfarelaw7_MeansOwn_K (K : AV → AH → Prop) : KP := finP PP (resC PP 3) K
abbrev m_fieldfarelaw7_MeansOwnttttttttttt_k (K : AV → AH → Prop) : KP := exP (codeP PP CC (subC (bodyC PP 3) [1, 1, 1, 1, 1, 1, 1, 1, 1, 1, 1, 1]) (m_fieldfarelaw7_MeansOwn_K K)) (m_fieldfarelaw7_MeansOwn_K K)
abbrev m_fieldfarelaw7_MeansOwntttttttttttht_k (K : AV → AH → Prop) : KP := blockP 2 (m_fieldfarelaw7_MeansOwnttttttttttt_k K)
abbrev m_fieldfarelaw7_MeansOwnttttttttttthtb_k (K : AV → AH → Prop) (r0 : (AV × AV × AV × AV × AV) → AH → Prop) : KP := exP (fun (a : TE) (H : AH) => r0 (a 6, a 7, a 10, a 55, a 56) H) (m_fieldfarelaw7_MeansOwntttttttttttht_k K)
def m_fieldfarelaw7_MeansOwnttttttttttthtbl (K : AV → AH → Prop) (r0 : (AV × AV × AV × AV × AV) → AH → Prop) (x6 x7 x10 x55 x56 : AV) (H : AH) : Prop :=
  outP CC H (w_int .lss H x56 x55) fun v1 H1 =>
  condP v1
  (outP CC H1 (w_indexAddr (.sl 1) H1 x6 x56) fun v2 H2 =>
  outP CC H2 (w_load none H2 v2) fun v3 H3 =>
  outP CC H3 (w_indexAddr (.sl 1) H3 x10 x56) fun v4 H4 =>
  outP CC H4 (w_load none H4 v4) fun v5 H5 =>
  outP CC H5 (some (.enter 19 [v3, v5])) fun v6 H6 =>
  outP CC H6 (w_un .not H6 v6) fun v7 H7 =>
  condP v7
  (K (.bool false) H7)
  (outP CC H7 (w_int .add H7 x56 (.int .i64 1)) fun v8 H8 =>
  r0 (x6, x7, x10, x55, v8) H8))
  (outP CC H1 (w_len PP 22 H1 x7) fun v9 H9 =>
  outP CC H9 (w_int .geq H9 v9 (.int .i64 1)) fun v10 H10 =>
  K v10 H10)
theorem m_fieldfarelaw7_MeansOwnttttttttttthtbl_eq (K : AV → AH → Prop) (r0 : (AV × AV × AV × AV × AV) → AH → Prop) (a : TE) (H : AH) : codeP PP CC (subC (bodyC PP 3) [1, 1, 1, 1, 1, 1, 1, 1, 1, 1, 1, 0, 1, 0, 0]) (m_fieldfarelaw7_MeansOwnttttttttttthtb_k K r0) a H = m_fieldfarelaw7_MeansOwnttttttttttthtbl K r0 (a 6) (a 7) (a 10) (a 55) (a 56) H :=
  by kernel_rfl
def m_fieldfarelaw7_MeansOwnttttttttttthtb (K : AV → AH → Prop) (x6 x7 x10 x55 x56 : AV) (H : AH) : Prop :=
  loopP (fun (r0 : (AV × AV × AV × AV × AV) → AH → Prop) (s : (AV × AV × AV × AV × AV)) (H : AH) => m_fieldfarelaw7_MeansOwnttttttttttthtbl K r0 s.1 s.2.1 s.2.2.1 s.2.2.2.1 s.2.2.2.2 H) (x6, x7, x10, x55, x56) H
theorem m_fieldfarelaw7_MeansOwnttttttttttthtb_eq (K : AV → AH → Prop) (a : TE) (H : AH) : codeP PP CC (subC (bodyC PP 3) [1, 1, 1, 1, 1, 1, 1, 1, 1, 1, 1, 0, 1, 0]) (m_fieldfarelaw7_MeansOwntttttttttttht_k K) a H = m_fieldfarelaw7_MeansOwnttttttttttthtb K (a 6) (a 7) (a 10) (a 55) (a 56) H :=
  have h1 : codeP PP CC (subC (bodyC PP 3) [1, 1, 1, 1, 1, 1, 1, 1, 1, 1, 1, 0, 1, 0]) (m_fieldfarelaw7_MeansOwntttttttttttht_k K) a H = loopP (fun (rec : KE) => codeP PP CC (subC (bodyC PP 3) [1, 1, 1, 1, 1, 1, 1, 1, 1, 1, 1, 0, 1, 0, 0]) (exP rec (m_fieldfarelaw7_MeansOwntttttttttttht_k K))) a H := by kernel_rfl
  have h2 := loopP_iso (F := fun (rec : KE) => codeP PP CC (subC (bodyC PP 3) [1, 1, 1, 1, 1, 1, 1, 1, 1, 1, 1, 0, 1, 0, 0]) (exP rec (m_fieldfarelaw7_MeansOwntttttttttttht_k K))) (S := (AV × AV × AV × AV × AV)) (fun a => (a 6, a 7, a 10, a 55, a 56)) (fun (r0 : (AV × AV × AV × AV × AV) → AH → Prop) (s : (AV × AV × AV × AV × AV)) (H : AH) => m_fieldfarelaw7_MeansOwnttttttttttthtbl K r0 s.1 s.2.1 s.2.2.1 s.2.2.2.1 s.2.2.2.2 H) (fun (r0 : (AV × AV × AV × AV × AV) → AH → Prop) (a : TE) (H : AH) => (show codeP PP CC (subC (bodyC PP 3) [1, 1, 1, 1, 1, 1, 1, 1, 1, 1, 1, 0, 1, 0, 0]) (exP (fun (a : TE) (H : AH) => r0 (a 6, a 7, a 10, a 55, a 56) H) (m_fieldfarelaw7_MeansOwntttttttttttht_k K)) a H = codeP PP CC (subC (bodyC PP 3) [1, 1, 1, 1, 1, 1, 1, 1, 1, 1, 1, 0, 1, 0, 0]) (m_fieldfarelaw7_MeansOwnttttttttttthtb_k K r0) a H from by kernel_rfl).trans (m_fieldfarelaw7_MeansOwnttttttttttthtbl_eq K r0 a H)) a H
  h1.trans h2
theorem m_fieldfarelaw7_MeansOwntttttttttttht_eq (K : AV → AH → Prop) (a : TE) (H : AH) : codeP PP CC (subC (bodyC PP 3) [1, 1, 1, 1, 1, 1, 1, 1, 1, 1, 1, 0, 1]) (m_fieldfarelaw7_MeansOwnttttttttttt_k K) a H = m_fieldfarelaw7_MeansOwnttttttttttthtb K (a 6) (a 7) (a 10) (a 55) (a 56) H :=
  have h1 : codeP PP CC (subC (bodyC PP 3) [1, 1, 1, 1, 1, 1, 1, 1, 1, 1, 1, 0, 1]) (m_fieldfarelaw7_MeansOwnttttttttttt_k K) a H = codeP PP CC (subC (bodyC PP 3) [1, 1, 1, 1, 1, 1, 1, 1, 1, 1, 1, 0, 1, 0]) (m_fieldfarelaw7_MeansOwntttttttttttht_k K) a H := by kernel_rfl
  h1.trans (m_fieldfarelaw7_MeansOwnttttttttttthtb_eq K a H)
abbrev m_fieldfarelaw7_MeansOwnttttttttttth_k (K : AV → AH → Prop) : KP := exP (fun (a : TE) (H : AH) => m_fieldfarelaw7_MeansOwnttttttttttthtb K (a 6) (a 7) (a 10) (a 55) (a 56) H) (m_fieldfarelaw7_MeansOwnttttttttttt_k K)
def m_fieldfarelaw7_MeansOwnttttttttttth (K : AV → AH → Prop) (x6 x7 x10 : AV) (H : AH) : Prop :=
  outP CC H (w_len PP 22 H x6) fun v1 H1 =>
  m_fieldfarelaw7_MeansOwnttttttttttthtb K x6 x7 x10 v1 (.int .i64 0) H1
theorem m_fieldfarelaw7_MeansOwnttttttttttth_eq (K : AV → AH → Prop) (a : TE) (H : AH) : codeP PP CC (subC (bodyC PP 3) [1, 1, 1, 1, 1, 1, 1, 1, 1, 1, 1, 0]) (m_fieldfarelaw7_MeansOwnttttttttttt_k K) a H = m_fieldfarelaw7_MeansOwnttttttttttth K (a 6) (a 7) (a 10) H :=
  have h1 : codeP PP CC (subC (bodyC PP 3) [1, 1, 1, 1, 1, 1, 1, 1, 1, 1, 1, 0]) (m_fieldfarelaw7_MeansOwnttttttttttt_k K) a H = codeP PP CC (subC (bodyC PP 3) [1, 1, 1, 1, 1, 1, 1, 1, 1, 1, 1, 0, 0]) (exP (codeP PP CC (subC (bodyC PP 3) [1, 1, 1, 1, 1, 1, 1, 1, 1, 1, 1, 0, 1]) (m_fieldfarelaw7_MeansOwnttttttttttt_k K)) (m_fieldfarelaw7_MeansOwnttttttttttt_k K)) a H := by kernel_rfl
  have h2 : codeP PP CC (subC (bodyC PP 3) [1, 1, 1, 1, 1, 1, 1, 1, 1, 1, 1, 0, 0]) (exP (codeP PP CC (subC (bodyC PP 3) [1, 1, 1, 1, 1, 1, 1, 1, 1, 1, 1, 0, 1]) (m_fieldfarelaw7_MeansOwnttttttttttt_k K)) (m_fieldfarelaw7_MeansOwnttttttttttt_k K)) a H = codeP PP CC (subC (bodyC PP 3) [1, 1, 1, 1, 1, 1, 1, 1, 1, 1, 1, 0, 0]) (exP (fun (a : TE) (H : AH) => m_fieldfarelaw7_MeansOwnttttttttttthtb K (a 6) (a 7) (a 10) (a 55) (a 56) H) (m_fieldfarelaw7_MeansOwnttttttttttt_k K)) a H := congrArg (fun k : KE => codeP PP CC (subC (bodyC PP 3) [1, 1, 1, 1, 1, 1, 1, 1, 1, 1, 1, 0, 0]) (exP k (m_fieldfarelaw7_MeansOwnttttttttttt_k K)) a H) (funext fun a => funext fun H => m_fieldfarelaw7_MeansOwntttttttttttht_eq K a H)
  have h2b : codeP PP CC (subC (bodyC PP 3) [1, 1, 1, 1, 1, 1, 1, 1, 1, 1, 1, 0, 0]) (exP (fun (a : TE) (H : AH) => m_fieldfarelaw7_MeansOwnttttttttttthtb K (a 6) (a 7) (a 10) (a 55) (a 56) H) (m_fieldfarelaw7_MeansOwnttttttttttt_k K)) a H = codeP PP CC (subC (bodyC PP 3) [1, 1, 1, 1, 1, 1, 1, 1, 1, 1, 1, 0, 0]) (m_fieldfarelaw7_MeansOwnttttttttttth_k K) a H := by kernel_rfl
  have h3 : codeP PP CC (subC (bodyC PP 3) [1, 1, 1, 1, 1, 1, 1, 1, 1, 1, 1, 0, 0]) (m_fieldfarelaw7_MeansOwnttttttttttth_k K) a H = m_fieldfarelaw7_MeansOwnttttttttttth K (a 6) (a 7) (a 10) H := by kernel_rfl
  ((h1.trans h2).trans h2b).trans h3
theorem m_fieldfarelaw7_MeansOwnttttttttttt_eq (K : AV → AH → Prop) (a : TE) (H : AH) : codeP PP CC (subC (bodyC PP 3) [1, 1, 1, 1, 1, 1, 1, 1, 1, 1, 1]) (m_fieldfarelaw7_MeansOwn_K K) a H = m_fieldfarelaw7_MeansOwnttttttttttth K (a 6) (a 7) (a 10) H :=
  have h1 : codeP PP CC (subC (bodyC PP 3) [1, 1, 1, 1, 1, 1, 1, 1, 1, 1, 1]) (m_fieldfarelaw7_MeansOwn_K K) a H = codeP PP CC (subC (bodyC PP 3) [1, 1, 1, 1, 1, 1, 1, 1, 1, 1, 1, 0]) (m_fieldfarelaw7_MeansOwnttttttttttt_k K) a H := by kernel_rfl
  h1.trans (m_fieldfarelaw7_MeansOwnttttttttttth_eq K a H)
abbrev m_fieldfarelaw7_MeansOwntttttttttt_k (K : AV → AH → Prop) : KP := exP (fun (a : TE) (H : AH) => m_fieldfarelaw7_MeansOwnttttttttttth K (a 6) (a 7) (a 10) H) (m_fieldfarelaw7_MeansOwn_K K)
def m_fieldfarelaw7_MeansOwntttttttttt (K : AV → AH → Prop) (x0 x1 x6 x7 : AV) (H : AH) : Prop :=
  outP CC H (some (.enter 16 [x1, x0, (.int .i64 10)])) fun v1 H1 =>
  m_fieldfarelaw7_MeansOwnttttttttttth K x6 x7 v1 H1
theorem m_fieldfarelaw7_MeansOwntttttttttt_eq (K : AV → AH → Prop) (a : TE) (H : AH) : codeP PP CC (subC (bodyC PP 3) [1, 1, 1, 1, 1, 1, 1, 1, 1, 1]) (m_fieldfarelaw7_MeansOwn_K K) a H = m_fieldfarelaw7_MeansOwntttttttttt K (a 0) (a 1) (a 6) (a 7) H :=
  have h1 : codeP PP CC (subC (bodyC PP 3) [1, 1, 1, 1, 1, 1, 1, 1, 1, 1]) (m_fieldfarelaw7_MeansOwn_K K) a H = codeP PP CC (subC (bodyC PP 3) [1, 1, 1, 1, 1, 1, 1, 1, 1, 1, 0]) (exP (codeP PP CC (subC (bodyC PP 3) [1, 1, 1, 1, 1, 1, 1, 1, 1, 1, 1]) (m_fieldfarelaw7_MeansOwn_K K)) (m_fieldfarelaw7_MeansOwn_K K)) a H := by kernel_rfl
  have h2 : codeP PP CC (subC (bodyC PP 3) [1, 1, 1, 1, 1, 1, 1, 1, 1, 1, 0]) (exP (codeP PP CC (subC (bodyC PP 3) [1, 1, 1, 1, 1, 1, 1, 1, 1, 1, 1]) (m_fieldfarelaw7_MeansOwn_K K)) (m_fieldfarelaw7_MeansOwn_K K)) a H = codeP PP CC (subC (bodyC PP 3) [1, 1, 1, 1, 1, 1, 1, 1, 1, 1, 0]) (exP (fun (a : TE) (H : AH) => m_fieldfarelaw7_MeansOwnttttttttttth K (a 6) (a 7) (a 10) H) (m_fieldfarelaw7_MeansOwn_K K)) a H := congrArg (fun k : KE => codeP PP CC (subC (bodyC PP 3) [1, 1, 1, 1, 1, 1, 1, 1, 1, 1, 0]) (exP k (m_fieldfarelaw7_MeansOwn_K K)) a H) (funext fun a => funext fun H => m_fieldfarelaw7_MeansOwnttttttttttt_eq K a H)
  have h2b : codeP PP CC (subC (bodyC PP 3) [1, 1, 1, 1, 1, 1, 1, 1, 1, 1, 0]) (exP (fun (a : TE) (H : AH) => m_fieldfarelaw7_MeansOwnttttttttttth K (a 6) (a 7) (a 10) H) (m_fieldfarelaw7_MeansOwn_K K)) a H = codeP PP CC (subC (bodyC PP 3) [1, 1, 1, 1, 1, 1, 1, 1, 1, 1, 0]) (m_fieldfarelaw7_MeansOwntttttttttt_k K) a H := by kernel_rfl
  have h3 : codeP PP CC (subC (bodyC PP 3) [1, 1, 1, 1, 1, 1, 1, 1, 1, 1, 0]) (m_fieldfarelaw7_MeansOwntttttttttt_k K) a H = m_fieldfarelaw7_MeansOwntttttttttt K (a 0) (a 1) (a 6) (a 7) H := by kernel_rfl
  ((h1.trans h2).trans h2b).trans h3
abbrev m_fieldfarelaw7_MeansOwnttttttttt_k (K : AV → AH → Prop) : KP := exP (fun (a : TE) (H : AH) => m_fieldfarelaw7_MeansOwntttttttttt K (a 0) (a 1) (a 6) (a 7) H) (m_fieldfarelaw7_MeansOwn_K K)
def m_fieldfarelaw7_MeansOwnttttttttt (K : AV → AH → Prop) (x0 x1 x6 x7 x8 : AV) (H : AH) : Prop :=
  outP CC H (w_indexAddr (.sl 1) H x8 (.int .i64 0)) fun v1 H1 =>
  outP CC H1 (w_load none H1 v1) fun v2 H2 =>
  outP CC H2 (w_int .sub H2 v2 (.int .i32 1)) fun v3 H3 =>
  outP CC H3 (w_indexAddr (.sl 1) H3 x8 (.int .i64 0)) fun v4 H4 =>
  outP CC H4 (w_store 1 H4 v4 v3) fun _v5 H5 =>
  m_fieldfarelaw7_MeansOwntttttttttt K x0 x1 x6 x7 H5
theorem m_fieldfarelaw7_MeansOwnttttttttt_eq (K : AV → AH → Prop) (a : TE) (H : AH) : codeP PP CC (subC (bodyC PP 3) [1, 1, 1, 1, 1, 1, 1, 1, 1]) (m_fieldfarelaw7_MeansOwn_K K) a H = m_fieldfarelaw7_MeansOwnttttttttt K (a 0) (a 1) (a 6) (a 7) (a 8) H :=
  have h1 : codeP PP CC (subC (bodyC PP 3) [1, 1, 1, 1, 1, 1, 1, 1, 1]) (m_fieldfarelaw7_MeansOwn_K K) a H = codeP PP CC (subC (bodyC PP 3) [1, 1, 1, 1, 1, 1, 1, 1, 1, 0]) (exP (codeP PP CC (subC (bodyC PP 3) [1, 1, 1, 1, 1, 1, 1, 1, 1, 1]) (m_fieldfarelaw7_MeansOwn_K K)) (m_fieldfarelaw7_MeansOwn_K K)) a H := by kernel_rfl
  have h2 : codeP PP CC (subC (bodyC PP 3) [1, 1, 1, 1, 1, 1, 1, 1, 1, 0]) (exP (codeP PP CC (subC (bodyC PP 3) [1, 1, 1, 1, 1, 1, 1, 1, 1, 1]) (m_fieldfarelaw7_MeansOwn_K K)) (m_fieldfarelaw7_MeansOwn_K K)) a H = codeP PP CC (subC (bodyC PP 3) [1, 1, 1, 1, 1, 1, 1, 1, 1, 0]) (exP (fun (a : TE) (H : AH) => m_fieldfarelaw7_MeansOwntttttttttt K (a 0) (a 1) (a 6) (a 7) H) (m_fieldfarelaw7_MeansOwn_K K)) a H := congrArg (fun k : KE => codeP PP CC (subC (bodyC PP 3) [1, 1, 1, 1, 1, 1, 1, 1, 1, 0]) (exP k (m_fieldfarelaw7_MeansOwn_K K)) a H) (funext fun a => funext fun H => m_fieldfarelaw7_MeansOwntttttttttt_eq K a H)
  have h2b : codeP PP CC (subC (bodyC PP 3) [1, 1, 1, 1, 1, 1, 1, 1, 1, 0]) (exP (fun (a : TE) (H : AH) => m_fieldfarelaw7_MeansOwntttttttttt K (a 0) (a 1) (a 6) (a 7) H) (m_fieldfarelaw7_MeansOwn_K K)) a H = codeP PP CC (subC (bodyC PP 3) [1, 1, 1, 1, 1, 1, 1, 1, 1, 0]) (m_fieldfarelaw7_MeansOwnttttttttt_k K) a H := by kernel_rfl
  have h3 : codeP PP CC (subC (bodyC PP 3) [1, 1, 1, 1, 1, 1, 1, 1, 1, 0]) (m_fieldfarelaw7_MeansOwnttttttttt_k K) a H = m_fieldfarelaw7_MeansOwnttttttttt K (a 0) (a 1) (a 6) (a 7) (a 8) H := by kernel_rfl
  ((h1.trans h2).trans h2b).trans h3
abbrev m_fieldfarelaw7_MeansOwntttttttt_k (K : AV → AH → Prop) : KP := exP (fun (a : TE) (H : AH) => m_fieldfarelaw7_MeansOwnttttttttt K (a 0) (a 1) (a 6) (a 7) (a 8) H) (m_fieldfarelaw7_MeansOwn_K K)
abbrev m_fieldfarelaw7_MeansOwnttttttttht_k (K : AV → AH → Prop) : KP := blockP 0 (m_fieldfarelaw7_MeansOwntttttttt_k K)
abbrev m_fieldfarelaw7_MeansOwntttttttthtb_k (K : AV → AH → Prop) (r0 : (AV × AV × AV × AV × AV × AV × AV) → AH → Prop) : KP := exP (fun (a : TE) (H : AH) => r0 (a 0, a 1, a 6, a 7, a 8, a 33, a 34) H) (m_fieldfarelaw7_MeansOwnttttttttht_k K)
def m_fieldfarelaw7_MeansOwntttttttthtbl (K : AV → AH → Prop) (r0 : (AV × AV × AV × AV × AV × AV × AV) → AH → Prop) (x0 x1 x6 x7 x8 x33 x34 : AV) (H : AH) : Prop :=
  outP CC H (w_int .lss H x34 x33) fun v1 H1 =>
  condP v1
  (outP CC H1 (w_indexAddr (.sl 1) H1 x7 x34) fun v2 H2 =>
  outP CC H2 (w_load none H2 v2) fun v3 H3 =>
  outP CC H3 (w_indexAddr (.sl 1) H3 v3 (.int .i64 0)) fun v4 H4 =>
  outP CC H4 (w_load none H4 v4) fun v5 H5 =>
  outP CC H5 (w_int .add H5 v5 (.int .i32 1)) fun v6 H6 =>
  outP CC H6 (w_indexAddr (.sl 1) H6 v3 (.int .i64 0)) fun v7 H7 =>
  outP CC H7 (w_store 1 H7 v7 v6) fun _v8 H8 =>
  outP CC H8 (w_int .add H8 x34 (.int .i64 1)) fun v9 H9 =>
  r0 (x0, x1, x6, x7, x8, x33, v9) H9)
  (m_fieldfarelaw7_MeansOwnttttttttt K x0 x1 x6 x7 x8 H1)
theorem m_fieldfarelaw7_MeansOwntttttttthtbl_eq (K : AV → AH → Prop) (r0 : (AV × AV × AV × AV × AV × AV × AV) → AH → Prop) (a : TE) (H : AH) : codeP PP CC (subC (bodyC PP 3) [1, 1, 1, 1, 1, 1, 1, 1, 0, 1, 0, 0]) (m_fieldfarelaw7_MeansOwntttttttthtb_k K r0) a H = m_fieldfarelaw7_MeansOwntttttttthtbl K r0 (a 0) (a 1) (a 6) (a 7) (a 8) (a 33) (a 34) H :=
  by kernel_rfl
def m_fieldfarelaw7_MeansOwntttttttthtb (K : AV → AH → Prop) (x0 x1 x6 x7 x8 x33 x34 : AV) (H : AH) : Prop :=
  loopP (fun (r0 : (AV × AV × AV × AV × AV × AV × AV) → AH → Prop) (s : (AV × AV × AV × AV × AV × AV × AV)) (H : AH) => m_fieldfarelaw7_MeansOwntttttttthtbl K r0 s.1 s.2.1 s.2.2.1 s.2.2.2.1 s.2.2.2.2.1 s.2.2.2.2.2.1 s.2.2.2.2.2.2 H) (x0, x1, x6, x7, x8, x33, x34) H
theorem m_fieldfarelaw7_MeansOwntttttttthtb_eq (K : AV → AH → Prop) (a : TE) (H : AH) : codeP PP CC (subC (bodyC PP 3) [1, 1, 1, 1, 1, 1, 1, 1, 0, 1, 0]) (m_fieldfarelaw7_MeansOwnttttttttht_k K) a H = m_fieldfarelaw7_MeansOwntttttttthtb K (a 0) (a 1) (a 6) (a 7) (a 8) (a 33) (a 34) H :=
  have h1 : codeP PP CC (subC (bodyC PP 3) [1, 1, 1, 1, 1, 1, 1, 1, 0, 1, 0]) (m_fieldfarelaw7_MeansOwnttttttttht_k K) a H = loopP (fun (rec : KE) => codeP PP CC (subC (bodyC PP 3) [1, 1, 1, 1, 1, 1, 1, 1, 0, 1, 0, 0]) (exP rec (m_fieldfarelaw7_MeansOwnttttttttht_k K))) a H := by kernel_rfl
  have h2 := loopP_iso (F := fun (rec : KE) => codeP PP CC (subC (bodyC PP 3) [1, 1, 1, 1, 1, 1, 1, 1, 0, 1, 0, 0]) (exP rec (m_fieldfarelaw7_MeansOwnttttttttht_k K))) (S := (AV × AV × AV × AV × AV × AV × AV)) (fun a => (a 0, a 1, a 6, a 7, a 8, a 33, a 34)) (fun (r0 : (AV × AV × AV × AV × AV × AV × AV) → AH → Prop) (s : (AV × AV × AV × AV × AV × AV × AV)) (H : AH) => m_fieldfarelaw7_MeansOwntttttttthtbl K r0 s.1 s.2.1 s.2.2.1 s.2.2.2.1 s.2.2.2.2.1 s.2.2.2.2.2.1 s.2.2.2.2.2.2 H) (fun (r0 : (AV × AV × AV × AV × AV × AV × AV) → AH → Prop) (a : TE) (H : AH) => (show codeP PP CC (subC (bodyC PP 3) [1, 1, 1, 1, 1, 1, 1, 1, 0, 1, 0, 0]) (exP (fun (a : TE) (H : AH) => r0 (a 0, a 1, a 6, a 7, a 8, a 33, a 34) H) (m_fieldfarelaw7_MeansOwnttttttttht_k K)) a H = codeP PP CC (subC (bodyC PP 3) [1, 1, 1, 1, 1, 1, 1, 1, 0, 1, 0, 0]) (m_fieldfarelaw7_MeansOwntttttttthtb_k K r0) a H from by kernel_rfl).trans (m_fieldfarelaw7_MeansOwntttttttthtbl_eq K r0 a H)) a H
  h1.trans h2
theorem m_fieldfarelaw7_MeansOwnttttttttht_eq (K : AV → AH → Prop) (a : TE) (H : AH) : codeP PP CC (subC (bodyC PP 3) [1, 1, 1, 1, 1, 1, 1, 1, 0, 1]) (m_fieldfarelaw7_MeansOwntttttttt_k K) a H = m_fieldfarelaw7_MeansOwntttttttthtb K (a 0) (a 1) (a 6) (a 7) (a 8) (a 33) (a 34) H :=
  have h1 : codeP PP CC (subC (bodyC PP 3) [1, 1, 1, 1, 1, 1, 1, 1, 0, 1]) (m_fieldfarelaw7_MeansOwntttttttt_k K) a H = codeP PP CC (subC (bodyC PP 3) [1, 1, 1, 1, 1, 1, 1, 1, 0, 1, 0]) (m_fieldfarelaw7_MeansOwnttttttttht_k K) a H := by kernel_rfl
  h1.trans (m_fieldfarelaw7_MeansOwntttttttthtb_eq K a H)
abbrev m_fieldfarelaw7_MeansOwntttttttth_k (K : AV → AH → Prop) : KP := exP (fun (a : TE) (H : AH) => m_fieldfarelaw7_MeansOwntttttttthtb K (a 0) (a 1) (a 6) (a 7) (a 8) (a 33) (a 34) H) (m_fieldfarelaw7_MeansOwntttttttt_k K)
def m_fieldfarelaw7_MeansOwntttttttth (K : AV → AH → Prop) (x0 x1 x6 x7 x8 : AV) (H : AH) : Prop :=
  outP CC H (w_len PP 22 H x7) fun v1 H1 =>
  m_fieldfarelaw7_MeansOwntttttttthtb K x0 x1 x6 x7 x8 v1 (.int .i64 0) H1
theorem m_fieldfarelaw7_MeansOwntttttttth_eq (K : AV → AH → Prop) (a : TE) (H : AH) : codeP PP CC (subC (bodyC PP 3) [1, 1, 1, 1, 1, 1, 1, 1, 0]) (m_fieldfarelaw7_MeansOwntttttttt_k K) a H = m_fieldfarelaw7_MeansOwntttttttth K (a 0) (a 1) (a 6) (a 7) (a 8) H :=
  have h1 : codeP PP CC (subC (bodyC PP 3) [1, 1, 1, 1, 1, 1, 1, 1, 0]) (m_fieldfarelaw7_MeansOwntttttttt_k K) a H = codeP PP CC (subC (bodyC PP 3) [1, 1, 1, 1, 1, 1, 1, 1, 0, 0]) (exP (codeP PP CC (subC (bodyC PP 3) [1, 1, 1, 1, 1, 1, 1, 1, 0, 1]) (m_fieldfarelaw7_MeansOwntttttttt_k K)) (m_fieldfarelaw7_MeansOwntttttttt_k K)) a H := by kernel_rfl
  have h2 : codeP PP CC (subC (bodyC PP 3) [1, 1, 1, 1, 1, 1, 1, 1, 0, 0]) (exP (codeP PP CC (subC (bodyC PP 3) [1, 1, 1, 1, 1, 1, 1, 1, 0, 1]) (m_fieldfarelaw7_MeansOwntttttttt_k K)) (m_fieldfarelaw7_MeansOwntttttttt_k K)) a H = codeP PP CC (subC (bodyC PP 3) [1, 1, 1, 1, 1, 1, 1, 1, 0, 0]) (exP (fun (a : TE) (H : AH) => m_fieldfarelaw7_MeansOwntttttttthtb K (a 0) (a 1) (a 6) (a 7) (a 8) (a 33) (a 34) H) (m_fieldfarelaw7_MeansOwntttttttt_k K)) a H := congrArg (fun k : KE => codeP PP CC (subC (bodyC PP 3) [1, 1, 1, 1, 1, 1, 1, 1, 0, 0]) (exP k (m_fieldfarelaw7_MeansOwntttttttt_k K)) a H) (funext fun a => funext fun H => m_fieldfarelaw7_MeansOwnttttttttht_eq K a H)
  have h2b : codeP PP CC (subC (bodyC PP 3) [1, 1, 1, 1, 1, 1, 1, 1, 0, 0]) (exP (fun (a : TE) (H : AH) => m_fieldfarelaw7_MeansOwntttttttthtb K (a 0) (a 1) (a 6) (a 7) (a 8) (a 33) (a 34) H) (m_fieldfarelaw7_MeansOwntttttttt_k K)) a H = codeP PP CC (subC (bodyC PP 3) [1, 1, 1, 1, 1, 1, 1, 1, 0, 0]) (m_fieldfarelaw7_MeansOwntttttttth_k K) a H := by kernel_rfl
  have h3 : codeP PP CC (subC (bodyC PP 3) [1, 1, 1, 1, 1, 1, 1, 1, 0, 0]) (m_fieldfarelaw7_MeansOwntttttttth_k K) a H = m_fieldfarelaw7_MeansOwntttttttth K (a 0) (a 1) (a 6) (a 7) (a 8) H := by kernel_rfl
  ((h1.trans h2).trans h2b).trans h3
theorem m_fieldfarelaw7_MeansOwntttttttt_eq (K : AV → AH → Prop) (a : TE) (H : AH) : codeP PP CC (subC (bodyC PP 3) [1, 1, 1, 1, 1, 1, 1, 1]) (m_fieldfarelaw7_MeansOwn_K K) a H = m_fieldfarelaw7_MeansOwntttttttth K (a 0) (a 1) (a 6) (a 7) (a 8) H :=
  have h1 : codeP PP CC (subC (bodyC PP 3) [1, 1, 1, 1, 1, 1, 1, 1]) (m_fieldfarelaw7_MeansOwn_K K) a H = codeP PP CC (subC (bodyC PP 3) [1, 1, 1, 1, 1, 1, 1, 1, 0]) (exP (codeP PP CC (subC (bodyC PP 3) [1, 1, 1, 1, 1, 1, 1, 1, 1]) (m_fieldfarelaw7_MeansOwn_K K)) (m_fieldfarelaw7_MeansOwn_K K)) a H := by kernel_rfl
  have h2 : codeP PP CC (subC (bodyC PP 3) [1, 1, 1, 1, 1, 1, 1, 1, 0]) (exP (codeP PP CC (subC (bodyC PP 3) [1, 1, 1, 1, 1, 1, 1, 1, 1]) (m_fieldfarelaw7_MeansOwn_K K)) (m_fieldfarelaw7_MeansOwn_K K)) a H = codeP PP CC (subC (bodyC PP 3) [1, 1, 1, 1, 1, 1, 1, 1, 0]) (exP (fun (a : TE) (H : AH) => m_fieldfarelaw7_MeansOwnttttttttt K (a 0) (a 1) (a 6) (a 7) (a 8) H) (m_fieldfarelaw7_MeansOwn_K K)) a H := congrArg (fun k : KE => codeP PP CC (subC (bodyC PP 3) [1, 1, 1, 1, 1, 1, 1, 1, 0]) (exP k (m_fieldfarelaw7_MeansOwn_K K)) a H) (funext fun a => funext fun H => m_fieldfarelaw7_MeansOwnttttttttt_eq K a H)
  have h2b : codeP PP CC (subC (bodyC PP 3) [1, 1, 1, 1, 1, 1, 1, 1, 0]) (exP (fun (a : TE) (H : AH) => m_fieldfarelaw7_MeansOwnttttttttt K (a 0) (a 1) (a 6) (a 7) (a 8) H) (m_fieldfarelaw7_MeansOwn_K K)) a H = codeP PP CC (subC (bodyC PP 3) [1, 1, 1, 1, 1, 1, 1, 1, 0]) (m_fieldfarelaw7_MeansOwntttttttt_k K) a H := by kernel_rfl
  ((h1.trans h2).trans h2b).trans (m_fieldfarelaw7_MeansOwntttttttth_eq K a H)
abbrev m_fieldfarelaw7_MeansOwnttttttt_k (K : AV → AH → Prop) : KP := exP (fun (a : TE) (H : AH) => m_fieldfarelaw7_MeansOwntttttttth K (a 0) (a 1) (a 6) (a 7) (a 8) H) (m_fieldfarelaw7_MeansOwn_K K)
def m_fieldfarelaw7_MeansOwnttttttt (K : AV → AH → Prop) (x0 x1 x6 x7 : AV) (H : AH) : Prop :=
  outP CC H (w_indexAddr (.sl 1) H x6 (.int .i64 0)) fun v1 H1 =>
  outP CC H1 (w_load none H1 v1) fun v2 H2 =>
  outP CC H2 (some (.enter 18 [v2])) fun v3 H3 =>
  m_fieldfarelaw7_MeansOwntttttttth K x0 x1 x6 x7 v3 H3
theorem m_fieldfarelaw7_MeansOwnttttttt_eq (K : AV → AH → Prop) (a : TE) (H : AH) : codeP PP CC (subC (bodyC PP 3) [1, 1, 1, 1, 1, 1, 1]) (m_fieldfarelaw7_MeansOwn_K K) a H = m_fieldfarelaw7_MeansOwnttttttt K (a 0) (a 1) (a 6) (a 7) H :=
  have h1 : codeP PP CC (subC (bodyC PP 3) [1, 1, 1, 1, 1, 1, 1]) (m_fieldfarelaw7_MeansOwn_K K) a H = codeP PP CC (subC (bodyC PP 3) [1, 1, 1, 1, 1, 1, 1, 0]) (exP (codeP PP CC (subC (bodyC PP 3) [1, 1, 1, 1, 1, 1, 1, 1]) (m_fieldfarelaw7_MeansOwn_K K)) (m_fieldfarelaw7_MeansOwn_K K)) a H := by kernel_rfl
  have h2 : codeP PP CC (subC (bodyC PP 3) [1, 1, 1, 1, 1, 1, 1, 0]) (exP (codeP PP CC (subC (bodyC PP 3) [1, 1, 1, 1, 1, 1, 1, 1]) (m_fieldfarelaw7_MeansOwn_K K)) (m_fieldfarelaw7_MeansOwn_K K)) a H = codeP PP CC (subC (bodyC PP 3) [1, 1, 1, 1, 1, 1, 1, 0]) (exP (fun (a : TE) (H : AH) => m_fieldfarelaw7_MeansOwntttttttth K (a 0) (a 1) (a 6) (a 7) (a 8) H) (m_fieldfarelaw7_MeansOwn_K K)) a H := congrArg (fun k : KE => codeP PP CC (subC (bodyC PP 3) [1, 1, 1, 1, 1, 1, 1, 0]) (exP k (m_fieldfarelaw7_MeansOwn_K K)) a H) (funext fun a => funext fun H => m_fieldfarelaw7_MeansOwntttttttt_eq K a H)
  have h2b : codeP PP CC (subC (bodyC PP 3) [1, 1, 1, 1, 1, 1, 1, 0]) (exP (fun (a : TE) (H : AH) => m_fieldfarelaw7_MeansOwntttttttth K (a 0) (a 1) (a 6) (a 7) (a 8) H) (m_fieldfarelaw7_MeansOwn_K K)) a H = codeP PP CC (subC (bodyC PP 3) [1, 1, 1, 1, 1, 1, 1, 0]) (m_fieldfarelaw7_MeansOwnttttttt_k K) a H := by kernel_rfl
  have h3 : codeP PP CC (subC (bodyC PP 3) [1, 1, 1, 1, 1, 1, 1, 0]) (m_fieldfarelaw7_MeansOwnttttttt_k K) a H = m_fieldfarelaw7_MeansOwnttttttt K (a 0) (a 1) (a 6) (a 7) H := by kernel_rfl
  ((h1.trans h2).trans h2b).trans h3
abbrev m_fieldfarelaw7_MeansOwntttttt_k (K : AV → AH → Prop) : KP := exP (fun (a : TE) (H : AH) => m_fieldfarelaw7_MeansOwnttttttt K (a 0) (a 1) (a 6) (a 7) H) (m_fieldfarelaw7_MeansOwn_K K)
def m_fieldfarelaw7_MeansOwntttttt (K : AV → AH → Prop) (x0 x1 x6 : AV) (H : AH) : Prop :=
  outP CC H (some (.enter 17 [(.int .i64 3), (.int .i64 0), x6])) fun v1 H1 =>
  m_fieldfarelaw7_MeansOwnttttttt K x0 x1 x6 v1 H1
theorem m_fieldfarelaw7_MeansOwntttttt_eq (K : AV → AH → Prop) (a : TE) (H : AH) : codeP PP CC (subC (bodyC PP 3) [1, 1, 1, 1, 1, 1]) (m_fieldfarelaw7_MeansOwn_K K) a H = m_fieldfarelaw7_MeansOwntttttt K (a 0) (a 1) (a 6) H :=
  have h1 : codeP PP CC (subC (bodyC PP 3) [1, 1, 1, 1, 1, 1]) (m_fieldfarelaw7_MeansOwn_K K) a H = codeP PP CC (subC (bodyC PP 3) [1, 1, 1, 1, 1, 1, 0]) (exP (codeP PP CC (subC (bodyC PP 3) [1, 1, 1, 1, 1, 1, 1]) (m_fieldfarelaw7_MeansOwn_K K)) (m_fieldfarelaw7_MeansOwn_K K)) a H := by kernel_rfl
  have h2 : codeP PP CC (subC (bodyC PP 3) [1, 1, 1, 1, 1, 1, 0]) (exP (codeP PP CC (subC (bodyC PP 3) [1, 1, 1, 1, 1, 1, 1]) (m_fieldfarelaw7_MeansOwn_K K)) (m_fieldfarelaw7_MeansOwn_K K)) a H = codeP PP CC (subC (bodyC PP 3) [1, 1, 1, 1, 1, 1, 0]) (exP (fun (a : TE) (H : AH) => m_fieldfarelaw7_MeansOwnttttttt K (a 0) (a 1) (a 6) (a 7) H) (m_fieldfarelaw7_MeansOwn_K K)) a H := congrArg (fun k : KE => codeP PP CC (subC (bodyC PP 3) [1, 1, 1, 1, 1, 1, 0]) (exP k (m_fieldfarelaw7_MeansOwn_K K)) a H) (funext fun a => funext fun H => m_fieldfarelaw7_MeansOwnttttttt_eq K a H)
  have h2b : codeP PP CC (subC (bodyC PP 3) [1, 1, 1, 1, 1, 1, 0]) (exP (fun (a : TE) (H : AH) => m_fieldfarelaw7_MeansOwnttttttt K (a 0) (a 1) (a 6) (a 7) H) (m_fieldfarelaw7_MeansOwn_K K)) a H = codeP PP CC (subC (bodyC PP 3) [1, 1, 1, 1, 1, 1, 0]) (m_fieldfarelaw7_MeansOwntttttt_k K) a H := by kernel_rfl
  have h3 : codeP PP CC (subC (bodyC PP 3) [1, 1, 1, 1, 1, 1, 0]) (m_fieldfarelaw7_MeansOwntttttt_k K) a H = m_fieldfarelaw7_MeansOwntttttt K (a 0) (a 1) (a 6) H := by kernel_rfl
  ((h1.trans h2).trans h2b).trans h3
abbrev m_fieldfarelaw7_MeansOwnttttt_k (K : AV → AH → Prop) : KP := exP (fun (a : TE) (H : AH) => m_fieldfarelaw7_MeansOwntttttt K (a 0) (a 1) (a 6) H) (m_fieldfarelaw7_MeansOwn_K K)
def m_fieldfarelaw7_MeansOwnttttt (K : AV → AH → Prop) (x0 x1 x6 : AV) (H : AH) : Prop :=
  outP CC H (w_len PP 22 H x6) fun v1 H1 =>
  outP CC H1 (w_int .eql H1 v1 (.int .i64 0)) fun v2 H2 =>
  condP v2
  (outP CC H2 (some (.enter 17 [(.int .i64 3), (.int .i64 2), (.slice none 0 0 true)])) fun v3 H3 =>
  outP CC H3 (w_len PP 22 H3 v3) fun v4 H4 =>
  outP CC H4 (w_int .eql H4 v4 (.int .i64 0)) fun v5 H5 =>
  K v5 H5)
  (m_fieldfarelaw7_MeansOwntttttt K x0 x1 x6 H2)
theorem m_fieldfarelaw7_MeansOwnttttt_eq (K : AV → AH → Prop) (a : TE) (H : AH) : codeP PP CC (subC (bodyC PP 3) [1, 1, 1, 1, 1]) (m_fieldfarelaw7_MeansOwn_K K) a H = m_fieldfarelaw7_MeansOwnttttt K (a 0) (a 1) (a 6) H :=
  have h1 : codeP PP CC (subC (bodyC PP 3) [1, 1, 1, 1, 1]) (m_fieldfarelaw7_MeansOwn_K K) a H = codeP PP CC (subC (bodyC PP 3) [1, 1, 1, 1, 1, 0]) (exP (codeP PP CC (subC (bodyC PP 3) [1, 1, 1, 1, 1, 1]) (m_fieldfarelaw7_MeansOwn_K K)) (m_fieldfarelaw7_MeansOwn_K K)) a H := by kernel_rfl
  have h2 : codeP PP CC (subC (bodyC PP 3) [1, 1, 1, 1, 1, 0]) (exP (codeP PP CC (subC (bodyC PP 3) [1, 1, 1, 1, 1, 1]) (m_fieldfarelaw7_MeansOwn_K K)) (m_fieldfarelaw7_MeansOwn_K K)) a H = codeP PP CC (subC (bodyC PP 3) [1, 1, 1, 1, 1, 0]) (exP (fun (a : TE) (H : AH) => m_fieldfarelaw7_MeansOwntttttt K (a 0) (a 1) (a 6) H) (m_fieldfarelaw7_MeansOwn_K K)) a H := congrArg (fun k : KE => codeP PP CC (subC (bodyC PP 3) [1, 1, 1, 1, 1, 0]) (exP k (m_fieldfarelaw7_MeansOwn_K K)) a H) (funext fun a => funext fun H => m_fieldfarelaw7_MeansOwntttttt_eq K a H)
  have h2b : codeP PP CC (subC (bodyC PP 3) [1, 1, 1, 1, 1, 0]) (exP (fun (a : TE) (H : AH) => m_fieldfarelaw7_MeansOwntttttt K (a 0) (a 1) (a 6) H) (m_fieldfarelaw7_MeansOwn_K K)) a H = codeP PP CC (subC (bodyC PP 3) [1, 1, 1, 1, 1, 0]) (m_fieldfarelaw7_MeansOwnttttt_k K) a H := by kernel_rfl
  have h3 : codeP PP CC (subC (bodyC PP 3) [1, 1, 1, 1, 1, 0]) (m_fieldfarelaw7_MeansOwnttttt_k K) a H = m_fieldfarelaw7_MeansOwnttttt K (a 0) (a 1) (a 6) H := by kernel_rfl
  ((h1.trans h2).trans h2b).trans h3
abbrev m_fieldfarelaw7_MeansOwntttt_k (K : AV → AH → Prop) : KP := exP (fun (a : TE) (H : AH) => m_fieldfarelaw7_MeansOwnttttt K (a 0) (a 1) (a 6) H) (m_fieldfarelaw7_MeansOwn_K K)
def m_fieldfarelaw7_MeansOwntttt (K : AV → AH → Prop) (x0 x1 : AV) (H : AH) : Prop :=
  outP CC H (some (.enter 16 [x1, x0, (.int .i64 10)])) fun v1 H1 =>
  m_fieldfarelaw7_MeansOwnttttt K x0 x1 v1 H1
theorem m_fieldfarelaw7_MeansOwntttt_eq (K : AV → AH → Prop) (a : TE) (H : AH) : codeP PP CC (subC (bodyC PP 3) [1, 1, 1, 1]) (m_fieldfarelaw7_MeansOwn_K K) a H = m_fieldfarelaw7_MeansOwntttt K (a 0) (a 1) H :=
  have h1 : codeP PP CC (subC (bodyC PP 3) [1, 1, 1, 1]) (m_fieldfarelaw7_MeansOwn_K K) a H = codeP PP CC (subC (bodyC PP 3) [1, 1, 1, 1, 0]) (exP (codeP PP CC (subC (bodyC PP 3) [1, 1, 1, 1, 1]) (m_fieldfarelaw7_MeansOwn_K K)) (m_fieldfarelaw7_MeansOwn_K K)) a H := by kernel_rfl
  have h2 : codeP PP CC (subC (bodyC PP 3) [1, 1, 1, 1, 0]) (exP (codeP PP CC (subC (bodyC PP 3) [1, 1, 1, 1, 1]) (m_fieldfarelaw7_MeansOwn_K K)) (m_fieldfarelaw7_MeansOwn_K K)) a H = codeP PP CC (subC (bodyC PP 3) [1, 1, 1, 1, 0]) (exP (fun (a : TE) (H : AH) => m_fieldfarelaw7_MeansOwnttttt K (a 0) (a 1) (a 6) H) (m_fieldfarelaw7_MeansOwn_K K)) a H := congrArg (fun k : KE => codeP PP CC (subC (bodyC PP 3) [1, 1, 1, 1, 0]) (exP k (m_fieldfarelaw7_MeansOwn_K K)) a H) (funext fun a => funext fun H => m_fieldfarelaw7_MeansOwnttttt_eq K a H)
  have h2b : codeP PP CC (subC (bodyC PP 3) [1, 1, 1, 1, 0]) (exP (fun (a : TE) (H : AH) => m_fieldfarelaw7_MeansOwnttttt K (a 0) (a 1) (a 6) H) (m_fieldfarelaw7_MeansOwn_K K)) a H = codeP PP CC (subC (bodyC PP 3) [1, 1, 1, 1, 0]) (m_fieldfarelaw7_MeansOwntttt_k K) a H := by kernel_rfl
  have h3 : codeP PP CC (subC (bodyC PP 3) [1, 1, 1, 1, 0]) (m_fieldfarelaw7_MeansOwntttt_k K) a H = m_fieldfarelaw7_MeansOwntttt K (a 0) (a 1) H := by kernel_rfl
  ((h1.trans h2).trans h2b).trans h3
abbrev m_fieldfarelaw7_MeansOwnttt_k (K : AV → AH → Prop) : KP := exP (fun (a : TE) (H : AH) => m_fieldfarelaw7_MeansOwntttt K (a 0) (a 1) H) (m_fieldfarelaw7_MeansOwn_K K)
def m_fieldfarelaw7_MeansOwnttt (K : AV → AH → Prop) (x0 x1 : AV) (H : AH) : Prop :=
  outP CC H (some (.enter 15 [x0])) fun v1 H1 =>
  m_fieldfarelaw7_MeansOwntttt K v1 x1 H1
theorem m_fieldfarelaw7_MeansOwnttt_eq (K : AV → AH → Prop) (a : TE) (H : AH) : codeP PP CC (subC (bodyC PP 3) [1, 1, 1]) (m_fieldfarelaw7_MeansOwn_K K) a H = m_fieldfarelaw7_MeansOwnttt K (a 0) (a 1) H :=
  have h1 : codeP PP CC (subC (bodyC PP 3) [1, 1, 1]) (m_fieldfarelaw7_MeansOwn_K K) a H = codeP PP CC (subC (bodyC PP 3) [1, 1, 1, 0]) (exP (codeP PP CC (subC (bodyC PP 3) [1, 1, 1, 1]) (m_fieldfarelaw7_MeansOwn_K K)) (m_fieldfarelaw7_MeansOwn_K K)) a H := by kernel_rfl
  have h2 : codeP PP CC (subC (bodyC PP 3) [1, 1, 1, 0]) (exP (codeP PP CC (subC (bodyC PP 3) [1, 1, 1, 1]) (m_fieldfarelaw7_MeansOwn_K K)) (m_fieldfarelaw7_MeansOwn_K K)) a H = codeP PP CC (subC (bodyC PP 3) [1, 1, 1, 0]) (exP (fun (a : TE) (H : AH) => m_fieldfarelaw7_MeansOwntttt K (a 0) (a 1) H) (m_fieldfarelaw7_MeansOwn_K K)) a H := congrArg (fun k : KE => codeP PP CC (subC (bodyC PP 3) [1, 1, 1, 0]) (exP k (m_fieldfarelaw7_MeansOwn_K K)) a H) (funext fun a => funext fun H => m_fieldfarelaw7_MeansOwntttt_eq K a H)
  have h2b : codeP PP CC (subC (bodyC PP 3) [1, 1, 1, 0]) (exP (fun (a : TE) (H : AH) => m_fieldfarelaw7_MeansOwntttt K (a 0) (a 1) H) (m_fieldfarelaw7_MeansOwn_K K)) a H = codeP PP CC (subC (bodyC PP 3) [1, 1, 1, 0]) (m_fieldfarelaw7_MeansOwnttt_k K) a H := by kernel_rfl
  have h3 : codeP PP CC (subC (bodyC PP 3) [1, 1, 1, 0]) (m_fieldfarelaw7_MeansOwnttt_k K) a H = m_fieldfarelaw7_MeansOwnttt K (a 0) (a 1) H := by kernel_rfl
  ((h1.trans h2).trans h2b).trans h3
abbrev m_fieldfarelaw7_MeansOwntt_k (K : AV → AH → Prop) : KP := exP (fun (a : TE) (H : AH) => m_fieldfarelaw7_MeansOwnttt K (a 0) (a 1) H) (m_fieldfarelaw7_MeansOwn_K K)
def m_fieldfarelaw7_MeansOwntt (K : AV → AH → Prop) (x0 x1 x5 : AV) (H : AH) : Prop :=
  outP CC H (w_un .not H x5) fun v1 H1 =>
  condP v1
  (K (.bool false) H1)
  (m_fieldfarelaw7_MeansOwnttt K x0 x1 H1)
theorem m_fieldfarelaw7_MeansOwntt_eq (K : AV → AH → Prop) (a : TE) (H : AH) : codeP PP CC (subC (bodyC PP 3) [1, 1]) (m_fieldfarelaw7_MeansOwn_K K) a H = m_fieldfarelaw7_MeansOwntt K (a 0) (a 1) (a 5) H :=
  have h1 : codeP PP CC (subC (bodyC PP 3) [1, 1]) (m_fieldfarelaw7_MeansOwn_K K) a H = codeP PP CC (subC (bodyC PP 3) [1, 1, 0]) (exP (codeP PP CC (subC (bodyC PP 3) [1, 1, 1]) (m_fieldfarelaw7_MeansOwn_K K)) (m_fieldfarelaw7_MeansOwn_K K)) a H := by kernel_rfl
  have h2 : codeP PP CC (subC (bodyC PP 3) [1, 1, 0]) (exP (codeP PP CC (subC (bodyC PP 3) [1, 1, 1]) (m_fieldfarelaw7_MeansOwn_K K)) (m_fieldfarelaw7_MeansOwn_K K)) a H = codeP PP CC (subC (bodyC PP 3) [1, 1, 0]) (exP (fun (a : TE) (H : AH) => m_fieldfarelaw7_MeansOwnttt K (a 0) (a 1) H) (m_fieldfarelaw7_MeansOwn_K K)) a H := congrArg (fun k : KE => codeP PP CC (subC (bodyC PP 3) [1, 1, 0]) (exP k (m_fieldfarelaw7_MeansOwn_K K)) a H) (funext fun a => funext fun H => m_fieldfarelaw7_MeansOwnttt_eq K a H)
  have h2b : codeP PP CC (subC (bodyC PP 3) [1, 1, 0]) (exP (fun (a : TE) (H : AH) => m_fieldfarelaw7_MeansOwnttt K (a 0) (a 1) H) (m_fieldfarelaw7_MeansOwn_K K)) a H = codeP PP CC (subC (bodyC PP 3) [1, 1, 0]) (m_fieldfarelaw7_MeansOwntt_k K) a H := by kernel_rfl
  have h3 : codeP PP CC (subC (bodyC PP 3) [1, 1, 0]) (m_fieldfarelaw7_MeansOwntt_k K) a H = m_fieldfarelaw7_MeansOwntt K (a 0) (a 1) (a 5) H := by kernel_rfl
  ((h1.trans h2).trans h2b).trans h3
abbrev m_fieldfarelaw7_MeansOwnt_k (K : AV → AH → Prop) : KP := exP (fun (a : TE) (H : AH) => m_fieldfarelaw7_MeansOwntt K (a 0) (a 1) (a 5) H) (m_fieldfarelaw7_MeansOwn_K K)
def m_fieldfarelaw7_MeansOwnt (K : AV → AH → Prop) (x0 x1 : AV) (H : AH) : Prop :=
  outP CC H (some (.enter 14 [])) fun v1 H1 =>
  m_fieldfarelaw7_MeansOwntt K x0 x1 v1 H1
theorem m_fieldfarelaw7_MeansOwnt_eq (K : AV → AH → Prop) (a : TE) (H : AH) : codeP PP CC (subC (bodyC PP 3) [1]) (m_fieldfarelaw7_MeansOwn_K K) a H = m_fieldfarelaw7_MeansOwnt K (a 0) (a 1) H :=
  have h1 : codeP PP CC (subC (bodyC PP 3) [1]) (m_fieldfarelaw7_MeansOwn_K K) a H = codeP PP CC (subC (bodyC PP 3) [1, 0]) (exP (codeP PP CC (subC (bodyC PP 3) [1, 1]) (m_fieldfarelaw7_MeansOwn_K K)) (m_fieldfarelaw7_MeansOwn_K K)) a H := by kernel_rfl
  have h2 : codeP PP CC (subC (bodyC PP 3) [1, 0]) (exP (codeP PP CC (subC (bodyC PP 3) [1, 1]) (m_fieldfarelaw7_MeansOwn_K K)) (m_fieldfarelaw7_MeansOwn_K K)) a H = codeP PP CC (subC (bodyC PP 3) [1, 0]) (exP (fun (a : TE) (H : AH) => m_fieldfarelaw7_MeansOwntt K (a 0) (a 1) (a 5) H) (m_fieldfarelaw7_MeansOwn_K K)) a H := congrArg (fun k : KE => codeP PP CC (subC (bodyC PP 3) [1, 0]) (exP k (m_fieldfarelaw7_MeansOwn_K K)) a H) (funext fun a => funext fun H => m_fieldfarelaw7_MeansOwntt_eq K a H)
  have h2b : codeP PP CC (subC (bodyC PP 3) [1, 0]) (exP (fun (a : TE) (H : AH) => m_fieldfarelaw7_MeansOwntt K (a 0) (a 1) (a 5) H) (m_fieldfarelaw7_MeansOwn_K K)) a H = codeP PP CC (subC (bodyC PP 3) [1, 0]) (m_fieldfarelaw7_MeansOwnt_k K) a H := by kernel_rfl
  have h3 : codeP PP CC (subC (bodyC PP 3) [1, 0]) (m_fieldfarelaw7_MeansOwnt_k K) a H = m_fieldfarelaw7_MeansOwnt K (a 0) (a 1) H := by kernel_rfl
  ((h1.trans h2).trans h2b).trans h3
abbrev m_fieldfarelaw7_MeansOwn_k (K : AV → AH → Prop) : KP := exP (fun (a : TE) (H : AH) => m_fieldfarelaw7_MeansOwnt K (a 0) (a 1) H) (m_fieldfarelaw7_MeansOwn_K K)
def m_fieldfarelaw7_MeansOwn (K : AV → AH → Prop) (x0 x1 : AV) (H : AH) : Prop :=
  m_fieldfarelaw7_MeansOwnt K x0 x1 H
theorem m_fieldfarelaw7_MeansOwn_eq (K : AV → AH → Prop) (a : TE) (H : AH) : codeP PP CC (subC (bodyC PP 3) []) (m_fieldfarelaw7_MeansOwn_K K) a H = m_fieldfarelaw7_MeansOwn K (a 0) (a 1) H :=
  have h1 : codeP PP CC (subC (bodyC PP 3) []) (m_fieldfarelaw7_MeansOwn_K K) a H = codeP PP CC (subC (bodyC PP 3) [0]) (exP (codeP PP CC (subC (bodyC PP 3) [1]) (m_fieldfarelaw7_MeansOwn_K K)) (m_fieldfarelaw7_MeansOwn_K K)) a H := by kernel_rfl
  have h2 : codeP PP CC (subC (bodyC PP 3) [0]) (exP (codeP PP CC (subC (bodyC PP 3) [1]) (m_fieldfarelaw7_MeansOwn_K K)) (m_fieldfarelaw7_MeansOwn_K K)) a H = codeP PP CC (subC (bodyC PP 3) [0]) (exP (fun (a : TE) (H : AH) => m_fieldfarelaw7_MeansOwnt K (a 0) (a 1) H) (m_fieldfarelaw7_MeansOwn_K K)) a H := congrArg (fun k : KE => codeP PP CC (subC (bodyC PP 3) [0]) (exP k (m_fieldfarelaw7_MeansOwn_K K)) a H) (funext fun a => funext fun H => m_fieldfarelaw7_MeansOwnt_eq K a H)
  have h2b : codeP PP CC (subC (bodyC PP 3) [0]) (exP (fun (a : TE) (H : AH) => m_fieldfarelaw7_MeansOwnt K (a 0) (a 1) H) (m_fieldfarelaw7_MeansOwn_K K)) a H = codeP PP CC (subC (bodyC PP 3) [0]) (m_fieldfarelaw7_MeansOwn_k K) a H := by kernel_rfl
  have h3 : codeP PP CC (subC (bodyC PP 3) [0]) (m_fieldfarelaw7_MeansOwn_k K) a H = m_fieldfarelaw7_MeansOwn K (a 0) (a 1) H := by kernel_rfl
  ((h1.trans h2).trans h2b).trans h3
theorem m_fieldfarelaw7_MeansOwn_ok (x0 x1 : AV) (H : AH) (K : AV → AH → Prop) (h : m_fieldfarelaw7_MeansOwn K x0 x1 H) : CC.call 3 [x0, x1] H K :=
  have h1 : funP PP CC 3 [x0, x1] H K = codeP PP CC (subC (bodyC PP 3) []) (m_fieldfarelaw7_MeansOwn_K K) (argE [x0, x1]) H := by kernel_rfl
  have h2 : m_fieldfarelaw7_MeansOwn K (argE [x0, x1] 0) (argE [x0, x1] 1) H = m_fieldfarelaw7_MeansOwn K x0 x1 H := by kernel_rfl
  funP_ok (P := PP) (by kernel_rfl) (by kernel_rfl) ((h1.trans ((m_fieldfarelaw7_MeansOwn_eq K (argE [x0, x1]) H).trans h2)).mpr h)

end
end Go.Ab
