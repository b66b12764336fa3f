/- BestOwn, said as what the evaluator does. Printed by a program. -/
import Derived.Test.YtoafnnphjbdedaaGreatDoorBeg
import Derived.Test.YtoafnnphjbdedaaGreatDoorEv3
namespace Go.Ab
noncomputable section
open Go.Proofs
set_option maxRecDepth 100000


/-! 4: fieldfare/fieldfarelaw7.BestOwn -/
abbrev m_fieldfarelaw7_BestOwn_K (K : AV → AH → Prop) : KP := finP PP (resC PP 4) K
abbrev m_fieldfarelaw7_BestOwntttttttt_k (K : AV → AH → Prop) : KP := exP (codeP PP CC (subC (bodyC PP 4) [1, 1, 1, 1, 1, 1, 1, 1, 1]) (m_fieldfarelaw7_BestOwn_K K)) (m_fieldfarelaw7_BestOwn_K K)
abbrev m_fieldfarelaw7_BestOwnttttttttht_k (K : AV → AH → Prop) : KP := blockP 2 (m_fieldfarelaw7_BestOwntttttttt_k K)
abbrev m_fieldfarelaw7_BestOwntttttttthtb_k (K : AV → AH → Prop) (r0 : (AV × AV × AV × AV × AV) → AH → Prop) : KP := exP (fun (a : TE) (H : AH) => r0 (a 6, a 8, a 9, a 42, a 43) H) (m_fieldfarelaw7_BestOwnttttttttht_k K)
def m_fieldfarelaw7_BestOwntttttttthtbl (K : AV → AH → Prop) (r0 : (AV × AV × AV × AV × AV) → AH → Prop) (x6 x8 x9 x42 x43 : AV) (H : AH) : Prop :=
  outP CC H (w_int .lss H x43 x42) fun v1 H1 =>
  condP v1
  (outP CC H1 (w_indexAddr (.sl 2) H1 x8 x43) fun v2 H2 =>
  outP CC H2 (w_fieldAddr 0 H2 v2) fun v3 H3 =>
  outP CC H3 (w_store 1 H3 v3 (.int .i64 (-7))) fun _v4 H4 =>
  outP CC H4 (w_int .add H4 x43 (.int .i64 1)) fun v5 H5 =>
  r0 (x6, x8, x9, x42, v5) H5)
  (outP CC H1 (some (.enter 22 [x6])) fun v6 H6 =>
  outP CC H6 (some (.enter 23 [v6, x9])) fun v7 H7 =>
  guardP (boolIs true v7) H7 (outP CC H7 (some (.val x6 H7))) fun v8 H8 =>
  guardP (boolIs true v7) H8 (outP CC H8 (some (.enter 24 [v8]))) fun v9 H9 =>
  guardP (boolIs true v7) H9 (outP CC H9 (some (.val x9 H9))) fun v10 H10 =>
  guardP (boolIs true v7) H10 (outP CC H10 (w_len PP 32 H10 v10)) fun v11 H11 =>
  guardP (boolIs true v7) H11 (outP CC H11 (w_int .eql H11 v9 v11)) fun v12 H12 =>
  outP CC H12 (w_pick H12 v7 v12 (.bool false)) fun v13 H13 =>
  K v13 H13)
theorem m_fieldfarelaw7_BestOwntttttttthtbl_eq (K : AV → AH → Prop) (r0 : (AV × AV × AV × AV × AV) → AH → Prop) (a : TE) (H : AH) : codeP PP CC (subC (bodyC PP 4) [1, 1, 1, 1, 1, 1, 1, 1, 0, 1, 0, 0]) (m_fieldfarelaw7_BestOwntttttttthtb_k K r0) a H = m_fieldfarelaw7_BestOwntttttttthtbl K r0 (a 6) (a 8) (a 9) (a 42) (a 43) H :=
  by kernel_rfl
def m_fieldfarelaw7_BestOwntttttttthtb (K : AV → AH → Prop) (x6 x8 x9 x42 x43 : AV) (H : AH) : Prop :=
  loopP (fun (r0 : (AV × AV × AV × AV × AV) → AH → Prop) (s : (AV × AV × AV × AV × AV)) (H : AH) => m_fieldfarelaw7_BestOwntttttttthtbl K r0 s.1 s.2.1 s.2.2.1 s.2.2.2.1 s.2.2.2.2 H) (x6, x8, x9, x42, x43) H
theorem m_fieldfarelaw7_BestOwntttttttthtb_eq (K : AV → AH → Prop) (a : TE) (H : AH) : codeP PP CC (subC (bodyC PP 4) [1, 1, 1, 1, 1, 1, 1, 1, 0, 1, 0]) (m_fieldfarelaw7_BestOwnttttttttht_k K) a H = m_fieldfarelaw7_BestOwntttttttthtb K (a 6) (a 8) (a 9) (a 42) (a 43) H :=
  have h1 : codeP PP CC (subC (bodyC PP 4) [1, 1, 1, 1, 1, 1, 1, 1, 0, 1, 0]) (m_fieldfarelaw7_BestOwnttttttttht_k K) a H = loopP (fun (rec : KE) => codeP PP CC (subC (bodyC PP 4) [1, 1, 1, 1, 1, 1, 1, 1, 0, 1, 0, 0]) (exP rec (m_fieldfarelaw7_BestOwnttttttttht_k K))) a H := by kernel_rfl
  have h2 := loopP_iso (F := fun (rec : KE) => codeP PP CC (subC (bodyC PP 4) [1, 1, 1, 1, 1, 1, 1, 1, 0, 1, 0, 0]) (exP rec (m_fieldfarelaw7_BestOwnttttttttht_k K))) (S := (AV × AV × AV × AV × AV)) (fun a => (a 6, a 8, a 9, a 42, a 43)) (fun (r0 : (AV × AV × AV × AV × AV) → AH → Prop) (s : (AV × AV × AV × AV × AV)) (H : AH) => m_fieldfarelaw7_BestOwntttttttthtbl K r0 s.1 s.2.1 s.2.2.1 s.2.2.2.1 s.2.2.2.2 H) (fun (r0 : (AV × AV × AV × AV × AV) → AH → Prop) (a : TE) (H : AH) => (show codeP PP CC (subC (bodyC PP 4) [1, 1, 1, 1, 1, 1, 1, 1, 0, 1, 0, 0]) (exP (fun (a : TE) (H : AH) => r0 (a 6, a 8, a 9, a 42, a 43) H) (m_fieldfarelaw7_BestOwnttttttttht_k K)) a H = codeP PP CC (subC (bodyC PP 4) [1, 1, 1, 1, 1, 1, 1, 1, 0, 1, 0, 0]) (m_fieldfarelaw7_BestOwntttttttthtb_k K r0) a H from by kernel_rfl).trans (m_fieldfarelaw7_BestOwntttttttthtbl_eq K r0 a H)) a H
  h1.trans h2
theorem m_fieldfarelaw7_BestOwnttttttttht_eq (K : AV → AH → Prop) (a : TE) (H : AH) : codeP PP CC (subC (bodyC PP 4) [1, 1, 1, 1, 1, 1, 1, 1, 0, 1]) (m_fieldfarelaw7_BestOwntttttttt_k K) a H = m_fieldfarelaw7_BestOwntttttttthtb K (a 6) (a 8) (a 9) (a 42) (a 43) H :=
  have h1 : codeP PP CC (subC (bodyC PP 4) [1, 1, 1, 1, 1, 1, 1, 1, 0, 1]) (m_fieldfarelaw7_BestOwntttttttt_k K) a H = codeP PP CC (subC (bodyC PP 4) [1, 1, 1, 1, 1, 1, 1, 1, 0, 1, 0]) (m_fieldfarelaw7_BestOwnttttttttht_k K) a H := by kernel_rfl
  h1.trans (m_fieldfarelaw7_BestOwntttttttthtb_eq K a H)
abbrev m_fieldfarelaw7_BestOwntttttttth_k (K : AV → AH → Prop) : KP := exP (fun (a : TE) (H : AH) => m_fieldfarelaw7_BestOwntttttttthtb K (a 6) (a 8) (a 9) (a 42) (a 43) H) (m_fieldfarelaw7_BestOwntttttttt_k K)
def m_fieldfarelaw7_BestOwntttttttth (K : AV → AH → Prop) (x6 x8 x9 : AV) (H : AH) : Prop :=
  outP CC H (w_len PP 32 H x8) fun v1 H1 =>
  m_fieldfarelaw7_BestOwntttttttthtb K x6 x8 x9 v1 (.int .i64 0) H1
theorem m_fieldfarelaw7_BestOwntttttttth_eq (K : AV → AH → Prop) (a : TE) (H : AH) : codeP PP CC (subC (bodyC PP 4) [1, 1, 1, 1, 1, 1, 1, 1, 0]) (m_fieldfarelaw7_BestOwntttttttt_k K) a H = m_fieldfarelaw7_BestOwntttttttth K (a 6) (a 8) (a 9) H :=
  have h1 : codeP PP CC (subC (bodyC PP 4) [1, 1, 1, 1, 1, 1, 1, 1, 0]) (m_fieldfarelaw7_BestOwntttttttt_k K) a H = codeP PP CC (subC (bodyC PP 4) [1, 1, 1, 1, 1, 1, 1, 1, 0, 0]) (exP (codeP PP CC (subC (bodyC PP 4) [1, 1, 1, 1, 1, 1, 1, 1, 0, 1]) (m_fieldfarelaw7_BestOwntttttttt_k K)) (m_fieldfarelaw7_BestOwntttttttt_k K)) a H := by kernel_rfl
  have h2 : codeP PP CC (subC (bodyC PP 4) [1, 1, 1, 1, 1, 1, 1, 1, 0, 0]) (exP (codeP PP CC (subC (bodyC PP 4) [1, 1, 1, 1, 1, 1, 1, 1, 0, 1]) (m_fieldfarelaw7_BestOwntttttttt_k K)) (m_fieldfarelaw7_BestOwntttttttt_k K)) a H = codeP PP CC (subC (bodyC PP 4) [1, 1, 1, 1, 1, 1, 1, 1, 0, 0]) (exP (fun (a : TE) (H : AH) => m_fieldfarelaw7_BestOwntttttttthtb K (a 6) (a 8) (a 9) (a 42) (a 43) H) (m_fieldfarelaw7_BestOwntttttttt_k K)) a H := congrArg (fun k : KE => codeP PP CC (subC (bodyC PP 4) [1, 1, 1, 1, 1, 1, 1, 1, 0, 0]) (exP k (m_fieldfarelaw7_BestOwntttttttt_k K)) a H) (funext fun a => funext fun H => m_fieldfarelaw7_BestOwnttttttttht_eq K a H)
  have h2b : codeP PP CC (subC (bodyC PP 4) [1, 1, 1, 1, 1, 1, 1, 1, 0, 0]) (exP (fun (a : TE) (H : AH) => m_fieldfarelaw7_BestOwntttttttthtb K (a 6) (a 8) (a 9) (a 42) (a 43) H) (m_fieldfarelaw7_BestOwntttttttt_k K)) a H = codeP PP CC (subC (bodyC PP 4) [1, 1, 1, 1, 1, 1, 1, 1, 0, 0]) (m_fieldfarelaw7_BestOwntttttttth_k K) a H := by kernel_rfl
  have h3 : codeP PP CC (subC (bodyC PP 4) [1, 1, 1, 1, 1, 1, 1, 1, 0, 0]) (m_fieldfarelaw7_BestOwntttttttth_k K) a H = m_fieldfarelaw7_BestOwntttttttth K (a 6) (a 8) (a 9) H := by kernel_rfl
  ((h1.trans h2).trans h2b).trans h3
theorem m_fieldfarelaw7_BestOwntttttttt_eq (K : AV → AH → Prop) (a : TE) (H : AH) : codeP PP CC (subC (bodyC PP 4) [1, 1, 1, 1, 1, 1, 1, 1]) (m_fieldfarelaw7_BestOwn_K K) a H = m_fieldfarelaw7_BestOwntttttttth K (a 6) (a 8) (a 9) H :=
  have h1 : codeP PP CC (subC (bodyC PP 4) [1, 1, 1, 1, 1, 1, 1, 1]) (m_fieldfarelaw7_BestOwn_K K) a H = codeP PP CC (subC (bodyC PP 4) [1, 1, 1, 1, 1, 1, 1, 1, 0]) (m_fieldfarelaw7_BestOwntttttttt_k K) a H := by kernel_rfl
  h1.trans (m_fieldfarelaw7_BestOwntttttttth_eq K a H)
abbrev m_fieldfarelaw7_BestOwnttttttt_k (K : AV → AH → Prop) : KP := exP (fun (a : TE) (H : AH) => m_fieldfarelaw7_BestOwntttttttth K (a 6) (a 8) (a 9) H) (m_fieldfarelaw7_BestOwn_K K)
def m_fieldfarelaw7_BestOwnttttttt (K : AV → AH → Prop) (x6 x8 : AV) (H : AH) : Prop :=
  outP CC H (w_append 37 2 16 H (.slice none 0 0 true) x8 none) fun v1 H1 =>
  m_fieldfarelaw7_BestOwntttttttth K x6 x8 v1 H1
theorem m_fieldfarelaw7_BestOwnttttttt_eq (K : AV → AH → Prop) (a : TE) (H : AH) : codeP PP CC (subC (bodyC PP 4) [1, 1, 1, 1, 1, 1, 1]) (m_fieldfarelaw7_BestOwn_K K) a H = m_fieldfarelaw7_BestOwnttttttt K (a 6) (a 8) H :=
  have h1 : codeP PP CC (subC (bodyC PP 4) [1, 1, 1, 1, 1, 1, 1]) (m_fieldfarelaw7_BestOwn_K K) a H = codeP PP CC (subC (bodyC PP 4) [1, 1, 1, 1, 1, 1, 1, 0]) (exP (codeP PP CC (subC (bodyC PP 4) [1, 1, 1, 1, 1, 1, 1, 1]) (m_fieldfarelaw7_BestOwn_K K)) (m_fieldfarelaw7_BestOwn_K K)) a H := by kernel_rfl
  have h2 : codeP PP CC (subC (bodyC PP 4) [1, 1, 1, 1, 1, 1, 1, 0]) (exP (codeP PP CC (subC (bodyC PP 4) [1, 1, 1, 1, 1, 1, 1, 1]) (m_fieldfarelaw7_BestOwn_K K)) (m_fieldfarelaw7_BestOwn_K K)) a H = codeP PP CC (subC (bodyC PP 4) [1, 1, 1, 1, 1, 1, 1, 0]) (exP (fun (a : TE) (H : AH) => m_fieldfarelaw7_BestOwntttttttth K (a 6) (a 8) (a 9) H) (m_fieldfarelaw7_BestOwn_K K)) a H := congrArg (fun k : KE => codeP PP CC (subC (bodyC PP 4) [1, 1, 1, 1, 1, 1, 1, 0]) (exP k (m_fieldfarelaw7_BestOwn_K K)) a H) (funext fun a => funext fun H => m_fieldfarelaw7_BestOwntttttttt_eq K a H)
  have h2b : codeP PP CC (subC (bodyC PP 4) [1, 1, 1, 1, 1, 1, 1, 0]) (exP (fun (a : TE) (H : AH) => m_fieldfarelaw7_BestOwntttttttth K (a 6) (a 8) (a 9) H) (m_fieldfarelaw7_BestOwn_K K)) a H = codeP PP CC (subC (bodyC PP 4) [1, 1, 1, 1, 1, 1, 1, 0]) (m_fieldfarelaw7_BestOwnttttttt_k K) a H := by kernel_rfl
  have h3 : codeP PP CC (subC (bodyC PP 4) [1, 1, 1, 1, 1, 1, 1, 0]) (m_fieldfarelaw7_BestOwnttttttt_k K) a H = m_fieldfarelaw7_BestOwnttttttt K (a 6) (a 8) H := by kernel_rfl
  ((h1.trans h2).trans h2b).trans h3
abbrev m_fieldfarelaw7_BestOwntttttt_k (K : AV → AH → Prop) : KP := exP (fun (a : TE) (H : AH) => m_fieldfarelaw7_BestOwnttttttt K (a 6) (a 8) H) (m_fieldfarelaw7_BestOwn_K K)
def m_fieldfarelaw7_BestOwntttttt (K : AV → AH → Prop) (x6 : AV) (H : AH) : Prop :=
  outP CC H (some (.enter 22 [x6])) fun v1 H1 =>
  m_fieldfarelaw7_BestOwnttttttt K x6 v1 H1
theorem m_fieldfarelaw7_BestOwntttttt_eq (K : AV → AH → Prop) (a : TE) (H : AH) : codeP PP CC (subC (bodyC PP 4) [1, 1, 1, 1, 1, 1]) (m_fieldfarelaw7_BestOwn_K K) a H = m_fieldfarelaw7_BestOwntttttt K (a 6) H :=
  have h1 : codeP PP CC (subC (bodyC PP 4) [1, 1, 1, 1, 1, 1]) (m_fieldfarelaw7_BestOwn_K K) a H = codeP PP CC (subC (bodyC PP 4) [1, 1, 1, 1, 1, 1, 0]) (exP (codeP PP CC (subC (bodyC PP 4) [1, 1, 1, 1, 1, 1, 1]) (m_fieldfarelaw7_BestOwn_K K)) (m_fieldfarelaw7_BestOwn_K K)) a H := by kernel_rfl
  have h2 : codeP PP CC (subC (bodyC PP 4) [1, 1, 1, 1, 1, 1, 0]) (exP (codeP PP CC (subC (bodyC PP 4) [1, 1, 1, 1, 1, 1, 1]) (m_fieldfarelaw7_BestOwn_K K)) (m_fieldfarelaw7_BestOwn_K K)) a H = codeP PP CC (subC (bodyC PP 4) [1, 1, 1, 1, 1, 1, 0]) (exP (fun (a : TE) (H : AH) => m_fieldfarelaw7_BestOwnttttttt K (a 6) (a 8) H) (m_fieldfarelaw7_BestOwn_K K)) a H := congrArg (fun k : KE => codeP PP CC (subC (bodyC PP 4) [1, 1, 1, 1, 1, 1, 0]) (exP k (m_fieldfarelaw7_BestOwn_K K)) a H) (funext fun a => funext fun H => m_fieldfarelaw7_BestOwnttttttt_eq K a H)
  have h2b : codeP PP CC (subC (bodyC PP 4) [1, 1, 1, 1, 1, 1, 0]) (exP (fun (a : TE) (H : AH) => m_fieldfarelaw7_BestOwnttttttt K (a 6) (a 8) H) (m_fieldfarelaw7_BestOwn_K K)) a H = codeP PP CC (subC (bodyC PP 4) [1, 1, 1, 1, 1, 1, 0]) (m_fieldfarelaw7_BestOwntttttt_k K) a H := by kernel_rfl
  have h3 : codeP PP CC (subC (bodyC PP 4) [1, 1, 1, 1, 1, 1, 0]) (m_fieldfarelaw7_BestOwntttttt_k K) a H = m_fieldfarelaw7_BestOwntttttt K (a 6) H := by kernel_rfl
  ((h1.trans h2).trans h2b).trans h3
abbrev m_fieldfarelaw7_BestOwnttttt_k (K : AV → AH → Prop) : KP := exP (fun (a : TE) (H : AH) => m_fieldfarelaw7_BestOwntttttt K (a 6) H) (m_fieldfarelaw7_BestOwn_K K)
abbrev m_fieldfarelaw7_BestOwntttttht_k (K : AV → AH → Prop) : KP := blockP 0 (m_fieldfarelaw7_BestOwnttttt_k K)
abbrev m_fieldfarelaw7_BestOwnttttthtb_k (K : AV → AH → Prop) (r0 : (AV × AV × AV) → AH → Prop) : KP := exP (fun (a : TE) (H : AH) => r0 (a 1, a 6, a 7) H) (m_fieldfarelaw7_BestOwntttttht_k K)
def m_fieldfarelaw7_BestOwnttttthtbl (K : AV → AH → Prop) (r0 : (AV × AV × AV) → AH → Prop) (x1 x6 x7 : AV) (H : AH) : Prop :=
  outP CC H (w_len PP 32 H x1) fun v1 H1 =>
  outP CC H1 (w_int .lss H1 x7 v1) fun v2 H2 =>
  guardP (boolIs true v2) H2 (outP CC H2 (some (.val x7 H2))) fun v3 H3 =>
  guardP (boolIs true v2) H3 (outP CC H3 (w_int .lss H3 v3 (.int .i64 20))) fun v4 H4 =>
  outP CC H4 (w_pick H4 v2 v4 (.bool false)) fun v5 H5 =>
  condP v5
  (outP CC H5 (w_indexAddr (.sl 2) H5 x1 x7) fun v6 H6 =>
  outP CC H6 (w_load (some 2) H6 v6) fun v7 H7 =>
  outP CC H7 (some (.enter 21 [x6, v7])) fun _v8 H8 =>
  outP CC H8 (w_int .add H8 x7 (.int .i64 1)) fun v9 H9 =>
  r0 (x1, x6, v9) H9)
  (m_fieldfarelaw7_BestOwntttttt K x6 H5)
theorem m_fieldfarelaw7_BestOwnttttthtbl_eq (K : AV → AH → Prop) (r0 : (AV × AV × AV) → AH → Prop) (a : TE) (H : AH) : codeP PP CC (subC (bodyC PP 4) [1, 1, 1, 1, 1, 0, 1, 0, 0]) (m_fieldfarelaw7_BestOwnttttthtb_k K r0) a H = m_fieldfarelaw7_BestOwnttttthtbl K r0 (a 1) (a 6) (a 7) H :=
  by kernel_rfl
def m_fieldfarelaw7_BestOwnttttthtb (K : AV → AH → Prop) (x1 x6 x7 : AV) (H : AH) : Prop :=
  loopP (fun (r0 : (AV × AV × AV) → AH → Prop) (s : (AV × AV × AV)) (H : AH) => m_fieldfarelaw7_BestOwnttttthtbl K r0 s.1 s.2.1 s.2.2 H) (x1, x6, x7) H
theorem m_fieldfarelaw7_BestOwnttttthtb_eq (K : AV → AH → Prop) (a : TE) (H : AH) : codeP PP CC (subC (bodyC PP 4) [1, 1, 1, 1, 1, 0, 1, 0]) (m_fieldfarelaw7_BestOwntttttht_k K) a H = m_fieldfarelaw7_BestOwnttttthtb K (a 1) (a 6) (a 7) H :=
  have h1 : codeP PP CC (subC (bodyC PP 4) [1, 1, 1, 1, 1, 0, 1, 0]) (m_fieldfarelaw7_BestOwntttttht_k K) a H = loopP (fun (rec : KE) => codeP PP CC (subC (bodyC PP 4) [1, 1, 1, 1, 1, 0, 1, 0, 0]) (exP rec (m_fieldfarelaw7_BestOwntttttht_k K))) a H := by kernel_rfl
  have h2 := loopP_iso (F := fun (rec : KE) => codeP PP CC (subC (bodyC PP 4) [1, 1, 1, 1, 1, 0, 1, 0, 0]) (exP rec (m_fieldfarelaw7_BestOwntttttht_k K))) (S := (AV × AV × AV)) (fun a => (a 1, a 6, a 7)) (fun (r0 : (AV × AV × AV) → AH → Prop) (s : (AV × AV × AV)) (H : AH) => m_fieldfarelaw7_BestOwnttttthtbl K r0 s.1 s.2.1 s.2.2 H) (fun (r0 : (AV × AV × AV) → AH → Prop) (a : TE) (H : AH) => (show codeP PP CC (subC (bodyC PP 4) [1, 1, 1, 1, 1, 0, 1, 0, 0]) (exP (fun (a : TE) (H : AH) => r0 (a 1, a 6, a 7) H) (m_fieldfarelaw7_BestOwntttttht_k K)) a H = codeP PP CC (subC (bodyC PP 4) [1, 1, 1, 1, 1, 0, 1, 0, 0]) (m_fieldfarelaw7_BestOwnttttthtb_k K r0) a H from by kernel_rfl).trans (m_fieldfarelaw7_BestOwnttttthtbl_eq K r0 a H)) a H
  h1.trans h2
theorem m_fieldfarelaw7_BestOwntttttht_eq (K : AV → AH → Prop) (a : TE) (H : AH) : codeP PP CC (subC (bodyC PP 4) [1, 1, 1, 1, 1, 0, 1]) (m_fieldfarelaw7_BestOwnttttt_k K) a H = m_fieldfarelaw7_BestOwnttttthtb K (a 1) (a 6) (a 7) H :=
  have h1 : codeP PP CC (subC (bodyC PP 4) [1, 1, 1, 1, 1, 0, 1]) (m_fieldfarelaw7_BestOwnttttt_k K) a H = codeP PP CC (subC (bodyC PP 4) [1, 1, 1, 1, 1, 0, 1, 0]) (m_fieldfarelaw7_BestOwntttttht_k K) a H := by kernel_rfl
  h1.trans (m_fieldfarelaw7_BestOwnttttthtb_eq K a H)
abbrev m_fieldfarelaw7_BestOwnttttth_k (K : AV → AH → Prop) : KP := exP (fun (a : TE) (H : AH) => m_fieldfarelaw7_BestOwnttttthtb K (a 1) (a 6) (a 7) H) (m_fieldfarelaw7_BestOwnttttt_k K)
def m_fieldfarelaw7_BestOwnttttth (K : AV → AH → Prop) (x1 x6 : AV) (H : AH) : Prop :=
  m_fieldfarelaw7_BestOwnttttthtb K x1 x6 (.int .i64 0) H
theorem m_fieldfarelaw7_BestOwnttttth_eq (K : AV → AH → Prop) (a : TE) (H : AH) : codeP PP CC (subC (bodyC PP 4) [1, 1, 1, 1, 1, 0]) (m_fieldfarelaw7_BestOwnttttt_k K) a H = m_fieldfarelaw7_BestOwnttttth K (a 1) (a 6) H :=
  have h1 : codeP PP CC (subC (bodyC PP 4) [1, 1, 1, 1, 1, 0]) (m_fieldfarelaw7_BestOwnttttt_k K) a H = codeP PP CC (subC (bodyC PP 4) [1, 1, 1, 1, 1, 0, 0]) (exP (codeP PP CC (subC (bodyC PP 4) [1, 1, 1, 1, 1, 0, 1]) (m_fieldfarelaw7_BestOwnttttt_k K)) (m_fieldfarelaw7_BestOwnttttt_k K)) a H := by kernel_rfl
  have h2 : codeP PP CC (subC (bodyC PP 4) [1, 1, 1, 1, 1, 0, 0]) (exP (codeP PP CC (subC (bodyC PP 4) [1, 1, 1, 1, 1, 0, 1]) (m_fieldfarelaw7_BestOwnttttt_k K)) (m_fieldfarelaw7_BestOwnttttt_k K)) a H = codeP PP CC (subC (bodyC PP 4) [1, 1, 1, 1, 1, 0, 0]) (exP (fun (a : TE) (H : AH) => m_fieldfarelaw7_BestOwnttttthtb K (a 1) (a 6) (a 7) H) (m_fieldfarelaw7_BestOwnttttt_k K)) a H := congrArg (fun k : KE => codeP PP CC (subC (bodyC PP 4) [1, 1, 1, 1, 1, 0, 0]) (exP k (m_fieldfarelaw7_BestOwnttttt_k K)) a H) (funext fun a => funext fun H => m_fieldfarelaw7_BestOwntttttht_eq K a H)
  have h2b : codeP PP CC (subC (bodyC PP 4) [1, 1, 1, 1, 1, 0, 0]) (exP (fun (a : TE) (H : AH) => m_fieldfarelaw7_BestOwnttttthtb K (a 1) (a 6) (a 7) H) (m_fieldfarelaw7_BestOwnttttt_k K)) a H = codeP PP CC (subC (bodyC PP 4) [1, 1, 1, 1, 1, 0, 0]) (m_fieldfarelaw7_BestOwnttttth_k K) a H := by kernel_rfl
  have h3 : codeP PP CC (subC (bodyC PP 4) [1, 1, 1, 1, 1, 0, 0]) (m_fieldfarelaw7_BestOwnttttth_k K) a H = m_fieldfarelaw7_BestOwnttttth K (a 1) (a 6) H := by kernel_rfl
  ((h1.trans h2).trans h2b).trans h3
theorem m_fieldfarelaw7_BestOwnttttt_eq (K : AV → AH → Prop) (a : TE) (H : AH) : codeP PP CC (subC (bodyC PP 4) [1, 1, 1, 1, 1]) (m_fieldfarelaw7_BestOwn_K K) a H = m_fieldfarelaw7_BestOwnttttth K (a 1) (a 6) H :=
  have h1 : codeP PP CC (subC (bodyC PP 4) [1, 1, 1, 1, 1]) (m_fieldfarelaw7_BestOwn_K K) a H = codeP PP CC (subC (bodyC PP 4) [1, 1, 1, 1, 1, 0]) (exP (codeP PP CC (subC (bodyC PP 4) [1, 1, 1, 1, 1, 1]) (m_fieldfarelaw7_BestOwn_K K)) (m_fieldfarelaw7_BestOwn_K K)) a H := by kernel_rfl
  have h2 : codeP PP CC (subC (bodyC PP 4) [1, 1, 1, 1, 1, 0]) (exP (codeP PP CC (subC (bodyC PP 4) [1, 1, 1, 1, 1, 1]) (m_fieldfarelaw7_BestOwn_K K)) (m_fieldfarelaw7_BestOwn_K K)) a H = codeP PP CC (subC (bodyC PP 4) [1, 1, 1, 1, 1, 0]) (exP (fun (a : TE) (H : AH) => m_fieldfarelaw7_BestOwntttttt K (a 6) H) (m_fieldfarelaw7_BestOwn_K K)) a H := congrArg (fun k : KE => codeP PP CC (subC (bodyC PP 4) [1, 1, 1, 1, 1, 0]) (exP k (m_fieldfarelaw7_BestOwn_K K)) a H) (funext fun a => funext fun H => m_fieldfarelaw7_BestOwntttttt_eq K a H)
  have h2b : codeP PP CC (subC (bodyC PP 4) [1, 1, 1, 1, 1, 0]) (exP (fun (a : TE) (H : AH) => m_fieldfarelaw7_BestOwntttttt K (a 6) H) (m_fieldfarelaw7_BestOwn_K K)) a H = codeP PP CC (subC (bodyC PP 4) [1, 1, 1, 1, 1, 0]) (m_fieldfarelaw7_BestOwnttttt_k K) a H := by kernel_rfl
  ((h1.trans h2).trans h2b).trans (m_fieldfarelaw7_BestOwnttttth_eq K a H)
abbrev m_fieldfarelaw7_BestOwntttt_k (K : AV → AH → Prop) : KP := exP (fun (a : TE) (H : AH) => m_fieldfarelaw7_BestOwnttttth K (a 1) (a 6) H) (m_fieldfarelaw7_BestOwn_K K)
def m_fieldfarelaw7_BestOwntttt (K : AV → AH → Prop) (x0 x1 : AV) (H : AH) : Prop :=
  outP CC H (some (.enter 20 [x0])) fun v1 H1 =>
  m_fieldfarelaw7_BestOwnttttth K x1 v1 H1
theorem m_fieldfarelaw7_BestOwntttt_eq (K : AV → AH → Prop) (a : TE) (H : AH) : codeP PP CC (subC (bodyC PP 4) [1, 1, 1, 1]) (m_fieldfarelaw7_BestOwn_K K) a H = m_fieldfarelaw7_BestOwntttt K (a 0) (a 1) H :=
  have h1 : codeP PP CC (subC (bodyC PP 4) [1, 1, 1, 1]) (m_fieldfarelaw7_BestOwn_K K) a H = codeP PP CC (subC (bodyC PP 4) [1, 1, 1, 1, 0]) (exP (codeP PP CC (subC (bodyC PP 4) [1, 1, 1, 1, 1]) (m_fieldfarelaw7_BestOwn_K K)) (m_fieldfarelaw7_BestOwn_K K)) a H := by kernel_rfl
  have h2 : codeP PP CC (subC (bodyC PP 4) [1, 1, 1, 1, 0]) (exP (codeP PP CC (subC (bodyC PP 4) [1, 1, 1, 1, 1]) (m_fieldfarelaw7_BestOwn_K K)) (m_fieldfarelaw7_BestOwn_K K)) a H = codeP PP CC (subC (bodyC PP 4) [1, 1, 1, 1, 0]) (exP (fun (a : TE) (H : AH) => m_fieldfarelaw7_BestOwnttttth K (a 1) (a 6) H) (m_fieldfarelaw7_BestOwn_K K)) a H := congrArg (fun k : KE => codeP PP CC (subC (bodyC PP 4) [1, 1, 1, 1, 0]) (exP k (m_fieldfarelaw7_BestOwn_K K)) a H) (funext fun a => funext fun H => m_fieldfarelaw7_BestOwnttttt_eq K a H)
  have h2b : codeP PP CC (subC (bodyC PP 4) [1, 1, 1, 1, 0]) (exP (fun (a : TE) (H : AH) => m_fieldfarelaw7_BestOwnttttth K (a 1) (a 6) H) (m_fieldfarelaw7_BestOwn_K K)) a H = codeP PP CC (subC (bodyC PP 4) [1, 1, 1, 1, 0]) (m_fieldfarelaw7_BestOwntttt_k K) a H := by kernel_rfl
  have h3 : codeP PP CC (subC (bodyC PP 4) [1, 1, 1, 1, 0]) (m_fieldfarelaw7_BestOwntttt_k K) a H = m_fieldfarelaw7_BestOwntttt K (a 0) (a 1) H := by kernel_rfl
  ((h1.trans h2).trans h2b).trans h3
abbrev m_fieldfarelaw7_BestOwnttt_k (K : AV → AH → Prop) : KP := exP (fun (a : TE) (H : AH) => m_fieldfarelaw7_BestOwntttt K (a 0) (a 1) H) (m_fieldfarelaw7_BestOwn_K K)
def m_fieldfarelaw7_BestOwnttt (K : AV → AH → Prop) (x0 x1 : AV) (H : AH) : Prop :=
  outP CC H (w_int .rem H x0 (.int .i64 10)) fun v1 H1 =>
  outP CC H1 (w_int .add H1 v1 (.int .i64 10)) fun v2 H2 =>
  outP CC H2 (w_int .rem H2 v2 (.int .i64 10)) fun v3 H3 =>
  outP CC H3 (w_int .add H3 (.int .i64 1) v3) fun v4 H4 =>
  m_fieldfarelaw7_BestOwntttt K v4 x1 H4
theorem m_fieldfarelaw7_BestOwnttt_eq (K : AV → AH → Prop) (a : TE) (H : AH) : codeP PP CC (subC (bodyC PP 4) [1, 1, 1]) (m_fieldfarelaw7_BestOwn_K K) a H = m_fieldfarelaw7_BestOwnttt K (a 0) (a 1) H :=
  have h1 : codeP PP CC (subC (bodyC PP 4) [1, 1, 1]) (m_fieldfarelaw7_BestOwn_K K) a H = codeP PP CC (subC (bodyC PP 4) [1, 1, 1, 0]) (exP (codeP PP CC (subC (bodyC PP 4) [1, 1, 1, 1]) (m_fieldfarelaw7_BestOwn_K K)) (m_fieldfarelaw7_BestOwn_K K)) a H := by kernel_rfl
  have h2 : codeP PP CC (subC (bodyC PP 4) [1, 1, 1, 0]) (exP (codeP PP CC (subC (bodyC PP 4) [1, 1, 1, 1]) (m_fieldfarelaw7_BestOwn_K K)) (m_fieldfarelaw7_BestOwn_K K)) a H = codeP PP CC (subC (bodyC PP 4) [1, 1, 1, 0]) (exP (fun (a : TE) (H : AH) => m_fieldfarelaw7_BestOwntttt K (a 0) (a 1) H) (m_fieldfarelaw7_BestOwn_K K)) a H := congrArg (fun k : KE => codeP PP CC (subC (bodyC PP 4) [1, 1, 1, 0]) (exP k (m_fieldfarelaw7_BestOwn_K K)) a H) (funext fun a => funext fun H => m_fieldfarelaw7_BestOwntttt_eq K a H)
  have h2b : codeP PP CC (subC (bodyC PP 4) [1, 1, 1, 0]) (exP (fun (a : TE) (H : AH) => m_fieldfarelaw7_BestOwntttt K (a 0) (a 1) H) (m_fieldfarelaw7_BestOwn_K K)) a H = codeP PP CC (subC (bodyC PP 4) [1, 1, 1, 0]) (m_fieldfarelaw7_BestOwnttt_k K) a H := by kernel_rfl
  have h3 : codeP PP CC (subC (bodyC PP 4) [1, 1, 1, 0]) (m_fieldfarelaw7_BestOwnttt_k K) a H = m_fieldfarelaw7_BestOwnttt K (a 0) (a 1) H := by kernel_rfl
  ((h1.trans h2).trans h2b).trans h3
abbrev m_fieldfarelaw7_BestOwntt_k (K : AV → AH → Prop) : KP := exP (fun (a : TE) (H : AH) => m_fieldfarelaw7_BestOwnttt K (a 0) (a 1) H) (m_fieldfarelaw7_BestOwn_K K)
def m_fieldfarelaw7_BestOwntt (K : AV → AH → Prop) (x0 x1 x5 : AV) (H : AH) : Prop :=
  outP CC H (w_un .not H x5) fun v1 H1 =>
  condP v1
  (K (.bool false) H1)
  (m_fieldfarelaw7_BestOwnttt K x0 x1 H1)
theorem m_fieldfarelaw7_BestOwntt_eq (K : AV → AH → Prop) (a : TE) (H : AH) : codeP PP CC (subC (bodyC PP 4) [1, 1]) (m_fieldfarelaw7_BestOwn_K K) a H = m_fieldfarelaw7_BestOwntt K (a 0) (a 1) (a 5) H :=
  have h1 : codeP PP CC (subC (bodyC PP 4) [1, 1]) (m_fieldfarelaw7_BestOwn_K K) a H = codeP PP CC (subC (bodyC PP 4) [1, 1, 0]) (exP (codeP PP CC (subC (bodyC PP 4) [1, 1, 1]) (m_fieldfarelaw7_BestOwn_K K)) (m_fieldfarelaw7_BestOwn_K K)) a H := by kernel_rfl
  have h2 : codeP PP CC (subC (bodyC PP 4) [1, 1, 0]) (exP (codeP PP CC (subC (bodyC PP 4) [1, 1, 1]) (m_fieldfarelaw7_BestOwn_K K)) (m_fieldfarelaw7_BestOwn_K K)) a H = codeP PP CC (subC (bodyC PP 4) [1, 1, 0]) (exP (fun (a : TE) (H : AH) => m_fieldfarelaw7_BestOwnttt K (a 0) (a 1) H) (m_fieldfarelaw7_BestOwn_K K)) a H := congrArg (fun k : KE => codeP PP CC (subC (bodyC PP 4) [1, 1, 0]) (exP k (m_fieldfarelaw7_BestOwn_K K)) a H) (funext fun a => funext fun H => m_fieldfarelaw7_BestOwnttt_eq K a H)
  have h2b : codeP PP CC (subC (bodyC PP 4) [1, 1, 0]) (exP (fun (a : TE) (H : AH) => m_fieldfarelaw7_BestOwnttt K (a 0) (a 1) H) (m_fieldfarelaw7_BestOwn_K K)) a H = codeP PP CC (subC (bodyC PP 4) [1, 1, 0]) (m_fieldfarelaw7_BestOwntt_k K) a H := by kernel_rfl
  have h3 : codeP PP CC (subC (bodyC PP 4) [1, 1, 0]) (m_fieldfarelaw7_BestOwntt_k K) a H = m_fieldfarelaw7_BestOwntt K (a 0) (a 1) (a 5) H := by kernel_rfl
  ((h1.trans h2).trans h2b).trans h3
abbrev m_fieldfarelaw7_BestOwnt_k (K : AV → AH → Prop) : KP := exP (fun (a : TE) (H : AH) => m_fieldfarelaw7_BestOwntt K (a 0) (a 1) (a 5) H) (m_fieldfarelaw7_BestOwn_K K)
def m_fieldfarelaw7_BestOwnt (K : AV → AH → Prop) (x0 x1 : AV) (H : AH) : Prop :=
  outP CC H (some (.enter 14 [])) fun v1 H1 =>
  m_fieldfarelaw7_BestOwntt K x0 x1 v1 H1
theorem m_fieldfarelaw7_BestOwnt_eq (K : AV → AH → Prop) (a : TE) (H : AH) : codeP PP CC (subC (bodyC PP 4) [1]) (m_fieldfarelaw7_BestOwn_K K) a H = m_fieldfarelaw7_BestOwnt K (a 0) (a 1) H :=
  have h1 : codeP PP CC (subC (bodyC PP 4) [1]) (m_fieldfarelaw7_BestOwn_K K) a H = codeP PP CC (subC (bodyC PP 4) [1, 0]) (exP (codeP PP CC (subC (bodyC PP 4) [1, 1]) (m_fieldfarelaw7_BestOwn_K K)) (m_fieldfarelaw7_BestOwn_K K)) a H := by kernel_rfl
  have h2 : codeP PP CC (subC (bodyC PP 4) [1, 0]) (exP (codeP PP CC (subC (bodyC PP 4) [1, 1]) (m_fieldfarelaw7_BestOwn_K K)) (m_fieldfarelaw7_BestOwn_K K)) a H = codeP PP CC (subC (bodyC PP 4) [1, 0]) (exP (fun (a : TE) (H : AH) => m_fieldfarelaw7_BestOwntt K (a 0) (a 1) (a 5) H) (m_fieldfarelaw7_BestOwn_K K)) a H := congrArg (fun k : KE => codeP PP CC (subC (bodyC PP 4) [1, 0]) (exP k (m_fieldfarelaw7_BestOwn_K K)) a H) (funext fun a => funext fun H => m_fieldfarelaw7_BestOwntt_eq K a H)
  have h2b : codeP PP CC (subC (bodyC PP 4) [1, 0]) (exP (fun (a : TE) (H : AH) => m_fieldfarelaw7_BestOwntt K (a 0) (a 1) (a 5) H) (m_fieldfarelaw7_BestOwn_K K)) a H = codeP PP CC (subC (bodyC PP 4) [1, 0]) (m_fieldfarelaw7_BestOwnt_k K) a H := by kernel_rfl
  have h3 : codeP PP CC (subC (bodyC PP 4) [1, 0]) (m_fieldfarelaw7_BestOwnt_k K) a H = m_fieldfarelaw7_BestOwnt K (a 0) (a 1) H := by kernel_rfl
  ((h1.trans h2).trans h2b).trans h3
abbrev m_fieldfarelaw7_BestOwn_k (K : AV → AH → Prop) : KP := exP (fun (a : TE) (H : AH) => m_fieldfarelaw7_BestOwnt K (a 0) (a 1) H) (m_fieldfarelaw7_BestOwn_K K)
def m_fieldfarelaw7_BestOwn (K : AV → AH → Prop) (x0 x1 : AV) (H : AH) : Prop :=
  m_fieldfarelaw7_BestOwnt K x0 x1 H
theorem m_fieldfarelaw7_BestOwn_eq (K : AV → AH → Prop) (a : TE) (H : AH) : codeP PP CC (subC (bodyC PP 4) []) (m_fieldfarelaw7_BestOwn_K K) a H = m_fieldfarelaw7_BestOwn K (a 0) (a 1) H :=
  have h1 : codeP PP CC (subC (bodyC PP 4) []) (m_fieldfarelaw7_BestOwn_K K) a H = codeP PP CC (subC (bodyC PP 4) [0]) (exP (codeP PP CC (subC (bodyC PP 4) [1]) (m_fieldfarelaw7_BestOwn_K K)) (m_fieldfarelaw7_BestOwn_K K)) a H := by kernel_rfl
  have h2 : codeP PP CC (subC (bodyC PP 4) [0]) (exP (codeP PP CC (subC (bodyC PP 4) [1]) (m_fieldfarelaw7_BestOwn_K K)) (m_fieldfarelaw7_BestOwn_K K)) a H = codeP PP CC (subC (bodyC PP 4) [0]) (exP (fun (a : TE) (H : AH) => m_fieldfarelaw7_BestOwnt K (a 0) (a 1) H) (m_fieldfarelaw7_BestOwn_K K)) a H := congrArg (fun k : KE => codeP PP CC (subC (bodyC PP 4) [0]) (exP k (m_fieldfarelaw7_BestOwn_K K)) a H) (funext fun a => funext fun H => m_fieldfarelaw7_BestOwnt_eq K a H)
  have h2b : codeP PP CC (subC (bodyC PP 4) [0]) (exP (fun (a : TE) (H : AH) => m_fieldfarelaw7_BestOwnt K (a 0) (a 1) H) (m_fieldfarelaw7_BestOwn_K K)) a H = codeP PP CC (subC (bodyC PP 4) [0]) (m_fieldfarelaw7_BestOwn_k K) a H := by kernel_rfl
  have h3 : codeP PP CC (subC (bodyC PP 4) [0]) (m_fieldfarelaw7_BestOwn_k K) a H = m_fieldfarelaw7_BestOwn K (a 0) (a 1) H := by kernel_rfl
  ((h1.trans h2).trans h2b).trans h3
theorem m_fieldfarelaw7_BestOwn_ok (x0 x1 : AV) (H : AH) (K : AV → AH → Prop) (h : m_fieldfarelaw7_BestOwn K x0 x1 H) : CC.call 4 [x0, x1] H K :=
  have h1 : funP PP CC 4 [x0, x1] H K = codeP PP CC (subC (bodyC PP 4) []) (m_fieldfarelaw7_BestOwn_K K) (argE [x0, x1]) H := by kernel_rfl
  have h2 : m_fieldfarelaw7_BestOwn K (argE [x0, x1] 0) (argE [x0, x1] 1) H = m_fieldfarelaw7_BestOwn K x0 x1 H := by kernel_rfl
  funP_ok (P := PP) (by kernel_rfl) (by kernel_rfl) ((h1.trans ((m_fieldfarelaw7_BestOwn_eq K (argE [x0, x1]) H).trans h2)).mpr h)

end
end Go.Ab
