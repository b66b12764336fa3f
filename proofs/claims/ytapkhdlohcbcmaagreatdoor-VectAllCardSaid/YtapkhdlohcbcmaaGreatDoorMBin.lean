/- What functions do, said as what the evaluator does. Printed by a program. -/
import Derived.Test.YtapkhdlohcbcmaaGreatDoorBeg
import Derived.Test.YtapkhdlohcbcmaaGreatDoorEv3
namespace Go.Ab
noncomputable section
open Go.Proofs
set_option maxRecDepth 100000



/-! 48: fieldfare/bin.size -/
abbrev m_bin_size_K (K : AV → AH → Prop) : KP := finP PP (resC PP 48) K
abbrev m_bin_sizettt_k (K : AV → AH → Prop) : KP := exP (codeP PP CC (subC (bodyC PP 48) [1, 1, 1, 1]) (m_bin_size_K K)) (m_bin_size_K K)
abbrev m_bin_sizettth_k (K : AV → AH → Prop) : KP := blockP 0 (m_bin_sizettt_k K)
abbrev m_bin_sizettthb_k (K : AV → AH → Prop) (r0 : (AV × AV) → AH → Prop) : KP := exP (fun (a : TE) (H : AH) => r0 (a 0, a 3) H) (m_bin_sizettth_k K)
def m_bin_sizettthbl (K : AV → AH → Prop) (r0 : (AV × AV) → AH → Prop) (x0 x3 : AV) (H : AH) : Prop :=
  outP CC H (w_int .lss H x3 (.int .i64 8)) fun v1 H1 =>
  guardP (boolIs true v1) H1 (outP CC H1 (some (.val x0 H1))) fun v2 H2 =>
  guardP (boolIs true v1) H2 (outP CC H2 (some (.val x0 H2))) fun v3 H3 =>
  guardP (boolIs true v1) H3 (outP CC H3 (some (.val x3 H3))) fun v4 H4 =>
  guardP (boolIs true v1) H4 (outP CC H4 (w_int .sub H4 (.int .i64 8) v4)) fun v5 H5 =>
  guardP (boolIs true v1) H5 (outP CC H5 (w_int .mul H5 (.int .i64 8) v5)) fun v6 H6 =>
  guardP (boolIs true v1) H6 (outP CC H6 (w_sh .shl H6 v3 v6)) fun v7 H7 =>
  guardP (boolIs true v1) H7 (outP CC H7 (some (.val x3 H7))) fun v8 H8 =>
  guardP (boolIs true v1) H8 (outP CC H8 (w_int .sub H8 (.int .i64 8) v8)) fun v9 H9 =>
  guardP (boolIs true v1) H9 (outP CC H9 (w_int .mul H9 (.int .i64 8) v9)) fun v10 H10 =>
  guardP (boolIs true v1) H10 (outP CC H10 (w_sh .shr H10 v7 v10)) fun v11 H11 =>
  guardP (boolIs true v1) H11 (outP CC H11 (w_int .neq H11 v2 v11)) fun v12 H12 =>
  outP CC H12 (w_pick H12 v1 v12 (.bool false)) fun v13 H13 =>
  condP v13
  (outP CC H13 (w_int .add H13 x3 (.int .i64 1)) fun v14 H14 =>
  r0 (x0, v14) H14)
  (K x3 H13)
theorem m_bin_sizettthbl_eq (K : AV → AH → Prop) (r0 : (AV × AV) → AH → Prop) (a : TE) (H : AH) : codeP PP CC (subC (bodyC PP 48) [1, 1, 1, 0, 0, 0]) (m_bin_sizettthb_k K r0) a H = m_bin_sizettthbl K r0 (a 0) (a 3) H :=
  by kernel_rfl
def m_bin_sizettthb (K : AV → AH → Prop) (x0 x3 : AV) (H : AH) : Prop :=
  loopP (fun (r0 : (AV × AV) → AH → Prop) (s : (AV × AV)) (H : AH) => m_bin_sizettthbl K r0 s.1 s.2 H) (x0, x3) H
theorem m_bin_sizettthb_eq (K : AV → AH → Prop) (a : TE) (H : AH) : codeP PP CC (subC (bodyC PP 48) [1, 1, 1, 0, 0]) (m_bin_sizettth_k K) a H = m_bin_sizettthb K (a 0) (a 3) H :=
  have h1 : codeP PP CC (subC (bodyC PP 48) [1, 1, 1, 0, 0]) (m_bin_sizettth_k K) a H = loopP (fun (rec : KE) => codeP PP CC (subC (bodyC PP 48) [1, 1, 1, 0, 0, 0]) (exP rec (m_bin_sizettth_k K))) a H := by kernel_rfl
  have h2 := loopP_iso (F := fun (rec : KE) => codeP PP CC (subC (bodyC PP 48) [1, 1, 1, 0, 0, 0]) (exP rec (m_bin_sizettth_k K))) (S := (AV × AV)) (fun a => (a 0, a 3)) (fun (r0 : (AV × AV) → AH → Prop) (s : (AV × AV)) (H : AH) => m_bin_sizettthbl K r0 s.1 s.2 H) (fun (r0 : (AV × AV) → AH → Prop) (a : TE) (H : AH) => (show codeP PP CC (subC (bodyC PP 48) [1, 1, 1, 0, 0, 0]) (exP (fun (a : TE) (H : AH) => r0 (a 0, a 3) H) (m_bin_sizettth_k K)) a H = codeP PP CC (subC (bodyC PP 48) [1, 1, 1, 0, 0, 0]) (m_bin_sizettthb_k K r0) a H from by kernel_rfl).trans (m_bin_sizettthbl_eq K r0 a H)) a H
  h1.trans h2
theorem m_bin_sizettth_eq (K : AV → AH → Prop) (a : TE) (H : AH) : codeP PP CC (subC (bodyC PP 48) [1, 1, 1, 0]) (m_bin_sizettt_k K) a H = m_bin_sizettthb K (a 0) (a 3) H :=
  have h1 : codeP PP CC (subC (bodyC PP 48) [1, 1, 1, 0]) (m_bin_sizettt_k K) a H = codeP PP CC (subC (bodyC PP 48) [1, 1, 1, 0, 0]) (m_bin_sizettth_k K) a H := by kernel_rfl
  h1.trans (m_bin_sizettthb_eq K a H)
theorem m_bin_sizettt_eq (K : AV → AH → Prop) (a : TE) (H : AH) : codeP PP CC (subC (bodyC PP 48) [1, 1, 1]) (m_bin_size_K K) a H = m_bin_sizettthb K (a 0) (a 3) H :=
  have h1 : codeP PP CC (subC (bodyC PP 48) [1, 1, 1]) (m_bin_size_K K) a H = codeP PP CC (subC (bodyC PP 48) [1, 1, 1, 0]) (m_bin_sizettt_k K) a H := by kernel_rfl
  h1.trans (m_bin_sizettth_eq K a H)
abbrev m_bin_sizett_k (K : AV → AH → Prop) : KP := exP (fun (a : TE) (H : AH) => m_bin_sizettthb K (a 0) (a 3) H) (m_bin_size_K K)
def m_bin_sizett (K : AV → AH → Prop) (x0 : AV) (H : AH) : Prop :=
  m_bin_sizettthb K x0 (.int .i64 1) H
theorem m_bin_sizett_eq (K : AV → AH → Prop) (a : TE) (H : AH) : codeP PP CC (subC (bodyC PP 48) [1, 1]) (m_bin_size_K K) a H = m_bin_sizett K (a 0) H :=
  have h1 : codeP PP CC (subC (bodyC PP 48) [1, 1]) (m_bin_size_K K) a H = codeP PP CC (subC (bodyC PP 48) [1, 1, 0]) (exP (codeP PP CC (subC (bodyC PP 48) [1, 1, 1]) (m_bin_size_K K)) (m_bin_size_K K)) a H := by kernel_rfl
  have h2 : codeP PP CC (subC (bodyC PP 48) [1, 1, 0]) (exP (codeP PP CC (subC (bodyC PP 48) [1, 1, 1]) (m_bin_size_K K)) (m_bin_size_K K)) a H = codeP PP CC (subC (bodyC PP 48) [1, 1, 0]) (exP (fun (a : TE) (H : AH) => m_bin_sizettthb K (a 0) (a 3) H) (m_bin_size_K K)) a H := congrArg (fun k : KE => codeP PP CC (subC (bodyC PP 48) [1, 1, 0]) (exP k (m_bin_size_K K)) a H) (funext fun a => funext fun H => m_bin_sizettt_eq K a H)
  have h2b : codeP PP CC (subC (bodyC PP 48) [1, 1, 0]) (exP (fun (a : TE) (H : AH) => m_bin_sizettthb K (a 0) (a 3) H) (m_bin_size_K K)) a H = codeP PP CC (subC (bodyC PP 48) [1, 1, 0]) (m_bin_sizett_k K) a H := by kernel_rfl
  have h3 : codeP PP CC (subC (bodyC PP 48) [1, 1, 0]) (m_bin_sizett_k K) a H = m_bin_sizett K (a 0) H := by kernel_rfl
  ((h1.trans h2).trans h2b).trans h3
abbrev m_bin_sizet_k (K : AV → AH → Prop) : KP := exP (fun (a : TE) (H : AH) => m_bin_sizett K (a 0) H) (m_bin_size_K K)
def m_bin_sizet (K : AV → AH → Prop) (x0 : AV) (H : AH) : Prop :=
  outP CC H (w_int .eql H x0 (.int .i64 0)) fun v1 H1 =>
  condP v1
  (K (.int .i64 0) H1)
  (m_bin_sizett K x0 H1)
theorem m_bin_sizet_eq (K : AV → AH → Prop) (a : TE) (H : AH) : codeP PP CC (subC (bodyC PP 48) [1]) (m_bin_size_K K) a H = m_bin_sizet K (a 0) H :=
  have h1 : codeP PP CC (subC (bodyC PP 48) [1]) (m_bin_size_K K) a H = codeP PP CC (subC (bodyC PP 48) [1, 0]) (exP (codeP PP CC (subC (bodyC PP 48) [1, 1]) (m_bin_size_K K)) (m_bin_size_K K)) a H := by kernel_rfl
  have h2 : codeP PP CC (subC (bodyC PP 48) [1, 0]) (exP (codeP PP CC (subC (bodyC PP 48) [1, 1]) (m_bin_size_K K)) (m_bin_size_K K)) a H = codeP PP CC (subC (bodyC PP 48) [1, 0]) (exP (fun (a : TE) (H : AH) => m_bin_sizett K (a 0) H) (m_bin_size_K K)) a H := congrArg (fun k : KE => codeP PP CC (subC (bodyC PP 48) [1, 0]) (exP k (m_bin_size_K K)) a H) (funext fun a => funext fun H => m_bin_sizett_eq K a H)
  have h2b : codeP PP CC (subC (bodyC PP 48) [1, 0]) (exP (fun (a : TE) (H : AH) => m_bin_sizett K (a 0) H) (m_bin_size_K K)) a H = codeP PP CC (subC (bodyC PP 48) [1, 0]) (m_bin_sizet_k K) a H := by kernel_rfl
  have h3 : codeP PP CC (subC (bodyC PP 48) [1, 0]) (m_bin_sizet_k K) a H = m_bin_sizet K (a 0) H := by kernel_rfl
  ((h1.trans h2).trans h2b).trans h3
abbrev m_bin_size_k (K : AV → AH → Prop) : KP := exP (fun (a : TE) (H : AH) => m_bin_sizet K (a 0) H) (m_bin_size_K K)
def m_bin_size (K : AV → AH → Prop) (x0 : AV) (H : AH) : Prop :=
  m_bin_sizet K x0 H
theorem m_bin_size_eq (K : AV → AH → Prop) (a : TE) (H : AH) : codeP PP CC (subC (bodyC PP 48) []) (m_bin_size_K K) a H = m_bin_size K (a 0) H :=
  have h1 : codeP PP CC (subC (bodyC PP 48) []) (m_bin_size_K K) a H = codeP PP CC (subC (bodyC PP 48) [0]) (exP (codeP PP CC (subC (bodyC PP 48) [1]) (m_bin_size_K K)) (m_bin_size_K K)) a H := by kernel_rfl
  have h2 : codeP PP CC (subC (bodyC PP 48) [0]) (exP (codeP PP CC (subC (bodyC PP 48) [1]) (m_bin_size_K K)) (m_bin_size_K K)) a H = codeP PP CC (subC (bodyC PP 48) [0]) (exP (fun (a : TE) (H : AH) => m_bin_sizet K (a 0) H) (m_bin_size_K K)) a H := congrArg (fun k : KE => codeP PP CC (subC (bodyC PP 48) [0]) (exP k (m_bin_size_K K)) a H) (funext fun a => funext fun H => m_bin_sizet_eq K a H)
  have h2b : codeP PP CC (subC (bodyC PP 48) [0]) (exP (fun (a : TE) (H : AH) => m_bin_sizet K (a 0) H) (m_bin_size_K K)) a H = codeP PP CC (subC (bodyC PP 48) [0]) (m_bin_size_k K) a H := by kernel_rfl
  have h3 : codeP PP CC (subC (bodyC PP 48) [0]) (m_bin_size_k K) a H = m_bin_size K (a 0) H := by kernel_rfl
  ((h1.trans h2).trans h2b).trans h3
theorem m_bin_size_ok (x0 : AV) (H : AH) (K : AV → AH → Prop) (h : m_bin_size K x0 H) : CC.call 48 [x0] H K :=
  have h1 : funP PP CC 48 [x0] H K = codeP PP CC (subC (bodyC PP 48) []) (m_bin_size_K K) (argE [x0]) H := by kernel_rfl
  have h2 : m_bin_size K (argE [x0] 0) H = m_bin_size K x0 H := by kernel_rfl
  funP_ok (P := PP) (by kernel_rfl) (by kernel_rfl) ((h1.trans ((m_bin_size_eq K (argE [x0]) H).trans h2)).mpr h)

/-! 14: (*fieldfare/bin.Writer).Int -/
abbrev m_bin_Writer_Int_K (K : AV → AH → Prop) : KP := finP PP (resC PP 14) K
abbrev m_bin_Writer_Inttt_k (K : AV → AH → Prop) : KP := blockP 0 (m_bin_Writer_Int_K K)
abbrev m_bin_Writer_Intttb_k (K : AV → AH → Prop) (r0 : (AV × AV × AV × AV) → AH → Prop) : KP := exP (fun (a : TE) (H : AH) => r0 (a 0, a 10, a 11, a 12) H) (m_bin_Writer_Inttt_k K)
abbrev m_bin_Writer_Intttbltt_k (K : AV → AH → Prop) (r0 : (AV × AV × AV × AV) → AH → Prop) : KP := exP (codeP PP CC (subC (bodyC PP 14) [1, 1, 0, 0, 1, 1, 1]) (m_bin_Writer_Intttb_k K r0)) (m_bin_Writer_Intttb_k K r0)
abbrev m_bin_Writer_Intttbltth_k (K : AV → AH → Prop) (r0 : (AV × AV × AV × AV) → AH → Prop) : KP := blockP 1 (m_bin_Writer_Intttbltt_k K r0)
abbrev m_bin_Writer_Intttbltthbtttt_k (K : AV → AH → Prop) (r0 : (AV × AV × AV × AV) → AH → Prop) : KP := blockP 2 (m_bin_Writer_Intttbltth_k K r0)
abbrev m_bin_Writer_Intttbltthbttttb_k (K : AV → AH → Prop) (r0 : (AV × AV × AV × AV) → AH → Prop) (r1 : (AV × AV × AV × AV × AV × AV × AV) → AH → Prop) : KP := exP (fun (a : TE) (H : AH) => r1 (a 0, a 5, a 10, a 11, a 12, a 29, a 30) H) (m_bin_Writer_Intttbltthbtttt_k K r0)
def m_bin_Writer_Intttbltthbttttbl (_K : AV → AH → Prop) (r0 : (AV × AV × AV × AV) → AH → Prop) (r1 : (AV × AV × AV × AV × AV × AV × AV) → AH → Prop) (x0 x5 x10 x11 x12 x29 x30 : AV) (H : AH) : Prop :=
  outP CC H (w_int .lss H x30 x29) fun v1 H1 =>
  condP v1
  (outP CC (H1.more 1) (w_nil (H1.more 1) x0) fun v2 H2 =>
  outP CC H2 (w_fieldAddr 0 H2 v2) fun v3 H3 =>
  outP CC H3 (w_load none H3 v3) fun v4 H4 =>
  outP CC H4 (w_int .mul H4 (.int .i64 8) x30) fun v5 H5 =>
  outP CC H5 (w_sh .shr H5 x5 v5) fun v6 H6 =>
  outP CC H6 (w_conv (.int .u8) H6 v6 none) fun v7 H7 =>
  outP CC H7 (w_buildSlice PP 5 1 H7 [(0, v7)] (some (Nat.add H1.next 0))) fun v8 H8 =>
  outP CC H8 (w_append 5 1 1 H8 v4 v8 none) fun v9 H9 =>
  outP CC H9 (w_nil H9 x0) fun v10 H10 =>
  outP CC H10 (w_fieldAddr 0 H10 v10) fun v11 H11 =>
  outP CC H11 (w_store 1 H11 v11 v9) fun _v12 H12 =>
  outP CC H12 (w_int .add H12 x30 (.int .i64 1)) fun v13 H13 =>
  r1 (x0, x5, x10, x11, x12, x29, v13) H13)
  (outP CC H1 (w_int .add H1 x12 (.int .i64 1)) fun v14 H14 =>
  r0 (x0, x10, x11, v14) H14)
theorem m_bin_Writer_Intttbltthbttttbl_eq (K : AV → AH → Prop) (r0 : (AV × AV × AV × AV) → AH → Prop) (r1 : (AV × AV × AV × AV × AV × AV × AV) → AH → Prop) (a : TE) (H : AH) : codeP PP CC (subC (bodyC PP 14) [1, 1, 0, 0, 1, 1, 0, 0, 1, 1, 1, 1, 0, 0]) (m_bin_Writer_Intttbltthbttttb_k K r0 r1) a H = m_bin_Writer_Intttbltthbttttbl K r0 r1 (a 0) (a 5) (a 10) (a 11) (a 12) (a 29) (a 30) H :=
  by kernel_rfl
def m_bin_Writer_Intttbltthbttttb (K : AV → AH → Prop) (r0 : (AV × AV × AV × AV) → AH → Prop) (x0 x5 x10 x11 x12 x29 x30 : AV) (H : AH) : Prop :=
  loopP (fun (r1 : (AV × AV × AV × AV × AV × AV × AV) → AH → Prop) (s : (AV × AV × AV × AV × AV × AV × AV)) (H : AH) => m_bin_Writer_Intttbltthbttttbl K r0 r1 s.1 s.2.1 s.2.2.1 s.2.2.2.1 s.2.2.2.2.1 s.2.2.2.2.2.1 s.2.2.2.2.2.2 H) (x0, x5, x10, x11, x12, x29, x30) H
theorem m_bin_Writer_Intttbltthbttttb_eq (K : AV → AH → Prop) (r0 : (AV × AV × AV × AV) → AH → Prop) (a : TE) (H : AH) : codeP PP CC (subC (bodyC PP 14) [1, 1, 0, 0, 1, 1, 0, 0, 1, 1, 1, 1, 0]) (m_bin_Writer_Intttbltthbtttt_k K r0) a H = m_bin_Writer_Intttbltthbttttb K r0 (a 0) (a 5) (a 10) (a 11) (a 12) (a 29) (a 30) H :=
  have h1 : codeP PP CC (subC (bodyC PP 14) [1, 1, 0, 0, 1, 1, 0, 0, 1, 1, 1, 1, 0]) (m_bin_Writer_Intttbltthbtttt_k K r0) a H = loopP (fun (rec : KE) => codeP PP CC (subC (bodyC PP 14) [1, 1, 0, 0, 1, 1, 0, 0, 1, 1, 1, 1, 0, 0]) (exP rec (m_bin_Writer_Intttbltthbtttt_k K r0))) a H := by kernel_rfl
  have h2 := loopP_iso (F := fun (rec : KE) => codeP PP CC (subC (bodyC PP 14) [1, 1, 0, 0, 1, 1, 0, 0, 1, 1, 1, 1, 0, 0]) (exP rec (m_bin_Writer_Intttbltthbtttt_k K r0))) (S := (AV × AV × AV × AV × AV × AV × AV)) (fun a => (a 0, a 5, a 10, a 11, a 12, a 29, a 30)) (fun (r1 : (AV × AV × AV × AV × AV × AV × AV) → AH → Prop) (s : (AV × AV × AV × AV × AV × AV × AV)) (H : AH) => m_bin_Writer_Intttbltthbttttbl K r0 r1 s.1 s.2.1 s.2.2.1 s.2.2.2.1 s.2.2.2.2.1 s.2.2.2.2.2.1 s.2.2.2.2.2.2 H) (fun (r1 : (AV × AV × AV × AV × AV × AV × AV) → AH → Prop) (a : TE) (H : AH) => (show codeP PP CC (subC (bodyC PP 14) [1, 1, 0, 0, 1, 1, 0, 0, 1, 1, 1, 1, 0, 0]) (exP (fun (a : TE) (H : AH) => r1 (a 0, a 5, a 10, a 11, a 12, a 29, a 30) H) (m_bin_Writer_Intttbltthbtttt_k K r0)) a H = codeP PP CC (subC (bodyC PP 14) [1, 1, 0, 0, 1, 1, 0, 0, 1, 1, 1, 1, 0, 0]) (m_bin_Writer_Intttbltthbttttb_k K r0 r1) a H from by kernel_rfl).trans (m_bin_Writer_Intttbltthbttttbl_eq K r0 r1 a H)) a H
  h1.trans h2
theorem m_bin_Writer_Intttbltthbtttt_eq (K : AV → AH → Prop) (r0 : (AV × AV × AV × AV) → AH → Prop) (a : TE) (H : AH) : codeP PP CC (subC (bodyC PP 14) [1, 1, 0, 0, 1, 1, 0, 0, 1, 1, 1, 1]) (m_bin_Writer_Intttbltth_k K r0) a H = m_bin_Writer_Intttbltthbttttb K r0 (a 0) (a 5) (a 10) (a 11) (a 12) (a 29) (a 30) H :=
  have h1 : codeP PP CC (subC (bodyC PP 14) [1, 1, 0, 0, 1, 1, 0, 0, 1, 1, 1, 1]) (m_bin_Writer_Intttbltth_k K r0) a H = codeP PP CC (subC (bodyC PP 14) [1, 1, 0, 0, 1, 1, 0, 0, 1, 1, 1, 1, 0]) (m_bin_Writer_Intttbltthbtttt_k K r0) a H := by kernel_rfl
  h1.trans (m_bin_Writer_Intttbltthbttttb_eq K r0 a H)
abbrev m_bin_Writer_Intttbltthbttt_k (K : AV → AH → Prop) (r0 : (AV × AV × AV × AV) → AH → Prop) : KP := exP (fun (a : TE) (H : AH) => m_bin_Writer_Intttbltthbttttb K r0 (a 0) (a 5) (a 10) (a 11) (a 12) (a 29) (a 30) H) (m_bin_Writer_Intttbltth_k K r0)
def m_bin_Writer_Intttbltthbttt (K : AV → AH → Prop) (r0 : (AV × AV × AV × AV) → AH → Prop) (x0 x5 x6 x10 x11 x12 : AV) (H : AH) : Prop :=
  m_bin_Writer_Intttbltthbttttb K r0 x0 x5 x10 x11 x12 x6 (.int .i64 0) H
theorem m_bin_Writer_Intttbltthbttt_eq (K : AV → AH → Prop) (r0 : (AV × AV × AV × AV) → AH → Prop) (a : TE) (H : AH) : codeP PP CC (subC (bodyC PP 14) [1, 1, 0, 0, 1, 1, 0, 0, 1, 1, 1]) (m_bin_Writer_Intttbltth_k K r0) a H = m_bin_Writer_Intttbltthbttt K r0 (a 0) (a 5) (a 6) (a 10) (a 11) (a 12) H :=
  have h1 : codeP PP CC (subC (bodyC PP 14) [1, 1, 0, 0, 1, 1, 0, 0, 1, 1, 1]) (m_bin_Writer_Intttbltth_k K r0) a H = codeP PP CC (subC (bodyC PP 14) [1, 1, 0, 0, 1, 1, 0, 0, 1, 1, 1, 0]) (exP (codeP PP CC (subC (bodyC PP 14) [1, 1, 0, 0, 1, 1, 0, 0, 1, 1, 1, 1]) (m_bin_Writer_Intttbltth_k K r0)) (m_bin_Writer_Intttbltth_k K r0)) a H := by kernel_rfl
  have h2 : codeP PP CC (subC (bodyC PP 14) [1, 1, 0, 0, 1, 1, 0, 0, 1, 1, 1, 0]) (exP (codeP PP CC (subC (bodyC PP 14) [1, 1, 0, 0, 1, 1, 0, 0, 1, 1, 1, 1]) (m_bin_Writer_Intttbltth_k K r0)) (m_bin_Writer_Intttbltth_k K r0)) a H = codeP PP CC (subC (bodyC PP 14) [1, 1, 0, 0, 1, 1, 0, 0, 1, 1, 1, 0]) (exP (fun (a : TE) (H : AH) => m_bin_Writer_Intttbltthbttttb K r0 (a 0) (a 5) (a 10) (a 11) (a 12) (a 29) (a 30) H) (m_bin_Writer_Intttbltth_k K r0)) a H := congrArg (fun k : KE => codeP PP CC (subC (bodyC PP 14) [1, 1, 0, 0, 1, 1, 0, 0, 1, 1, 1, 0]) (exP k (m_bin_Writer_Intttbltth_k K r0)) a H) (funext fun a => funext fun H => m_bin_Writer_Intttbltthbtttt_eq K r0 a H)
  have h2b : codeP PP CC (subC (bodyC PP 14) [1, 1, 0, 0, 1, 1, 0, 0, 1, 1, 1, 0]) (exP (fun (a : TE) (H : AH) => m_bin_Writer_Intttbltthbttttb K r0 (a 0) (a 5) (a 10) (a 11) (a 12) (a 29) (a 30) H) (m_bin_Writer_Intttbltth_k K r0)) a H = codeP PP CC (subC (bodyC PP 14) [1, 1, 0, 0, 1, 1, 0, 0, 1, 1, 1, 0]) (m_bin_Writer_Intttbltthbttt_k K r0) a H := by kernel_rfl
  have h3 : codeP PP CC (subC (bodyC PP 14) [1, 1, 0, 0, 1, 1, 0, 0, 1, 1, 1, 0]) (m_bin_Writer_Intttbltthbttt_k K r0) a H = m_bin_Writer_Intttbltthbttt K r0 (a 0) (a 5) (a 6) (a 10) (a 11) (a 12) H := by kernel_rfl
  ((h1.trans h2).trans h2b).trans h3
abbrev m_bin_Writer_Intttbltthbtt_k (K : AV → AH → Prop) (r0 : (AV × AV × AV × AV) → AH → Prop) : KP := exP (fun (a : TE) (H : AH) => m_bin_Writer_Intttbltthbttt K r0 (a 0) (a 5) (a 6) (a 10) (a 11) (a 12) H) (m_bin_Writer_Intttbltth_k K r0)
def m_bin_Writer_Intttbltthbtt (K : AV → AH → Prop) (r0 : (AV × AV × AV × AV) → AH → Prop) (x0 x5 x6 x10 x11 x12 : AV) (H : AH) : Prop :=
  outP CC H (w_nil H x0) fun v1 H1 =>
  outP CC H1 (w_fieldAddr 0 H1 v1) fun v2 H2 =>
  outP CC H2 (w_load none H2 v2) fun v3 H3 =>
  outP CC H3 (w_conv (.int .u8) H3 x6 none) fun v4 H4 =>
  outP CC H4 (w_buildSlice PP 5 1 H4 [(0, v4)] none) fun v5 H5 =>
  outP CC H5 (w_append 5 1 1 H5 v3 v5 none) fun v6 H6 =>
  outP CC H6 (w_nil H6 x0) fun v7 H7 =>
  outP CC H7 (w_fieldAddr 0 H7 v7) fun v8 H8 =>
  outP CC H8 (w_store 1 H8 v8 v6) fun _v9 H9 =>
  m_bin_Writer_Intttbltthbttt K r0 x0 x5 x6 x10 x11 x12 H9
theorem m_bin_Writer_Intttbltthbtt_eq (K : AV → AH → Prop) (r0 : (AV × AV × AV × AV) → AH → Prop) (a : TE) (H : AH) : codeP PP CC (subC (bodyC PP 14) [1, 1, 0, 0, 1, 1, 0, 0, 1, 1]) (m_bin_Writer_Intttbltth_k K r0) a H = m_bin_Writer_Intttbltthbtt K r0 (a 0) (a 5) (a 6) (a 10) (a 11) (a 12) H :=
  have h1 : codeP PP CC (subC (bodyC PP 14) [1, 1, 0, 0, 1, 1, 0, 0, 1, 1]) (m_bin_Writer_Intttbltth_k K r0) a H = codeP PP CC (subC (bodyC PP 14) [1, 1, 0, 0, 1, 1, 0, 0, 1, 1, 0]) (exP (codeP PP CC (subC (bodyC PP 14) [1, 1, 0, 0, 1, 1, 0, 0, 1, 1, 1]) (m_bin_Writer_Intttbltth_k K r0)) (m_bin_Writer_Intttbltth_k K r0)) a H := by kernel_rfl
  have h2 : codeP PP CC (subC (bodyC PP 14) [1, 1, 0, 0, 1, 1, 0, 0, 1, 1, 0]) (exP (codeP PP CC (subC (bodyC PP 14) [1, 1, 0, 0, 1, 1, 0, 0, 1, 1, 1]) (m_bin_Writer_Intttbltth_k K r0)) (m_bin_Writer_Intttbltth_k K r0)) a H = codeP PP CC (subC (bodyC PP 14) [1, 1, 0, 0, 1, 1, 0, 0, 1, 1, 0]) (exP (fun (a : TE) (H : AH) => m_bin_Writer_Intttbltthbttt K r0 (a 0) (a 5) (a 6) (a 10) (a 11) (a 12) H) (m_bin_Writer_Intttbltth_k K r0)) a H := congrArg (fun k : KE => codeP PP CC (subC (bodyC PP 14) [1, 1, 0, 0, 1, 1, 0, 0, 1, 1, 0]) (exP k (m_bin_Writer_Intttbltth_k K r0)) a H) (funext fun a => funext fun H => m_bin_Writer_Intttbltthbttt_eq K r0 a H)
  have h2b : codeP PP CC (subC (bodyC PP 14) [1, 1, 0, 0, 1, 1, 0, 0, 1, 1, 0]) (exP (fun (a : TE) (H : AH) => m_bin_Writer_Intttbltthbttt K r0 (a 0) (a 5) (a 6) (a 10) (a 11) (a 12) H) (m_bin_Writer_Intttbltth_k K r0)) a H = codeP PP CC (subC (bodyC PP 14) [1, 1, 0, 0, 1, 1, 0, 0, 1, 1, 0]) (m_bin_Writer_Intttbltthbtt_k K r0) a H := by kernel_rfl
  have h3 : codeP PP CC (subC (bodyC PP 14) [1, 1, 0, 0, 1, 1, 0, 0, 1, 1, 0]) (m_bin_Writer_Intttbltthbtt_k K r0) a H = m_bin_Writer_Intttbltthbtt K r0 (a 0) (a 5) (a 6) (a 10) (a 11) (a 12) H := by kernel_rfl
  ((h1.trans h2).trans h2b).trans h3
abbrev m_bin_Writer_Intttbltthbt_k (K : AV → AH → Prop) (r0 : (AV × AV × AV × AV) → AH → Prop) : KP := exP (fun (a : TE) (H : AH) => m_bin_Writer_Intttbltthbtt K r0 (a 0) (a 5) (a 6) (a 10) (a 11) (a 12) H) (m_bin_Writer_Intttbltth_k K r0)
def m_bin_Writer_Intttbltthbt (K : AV → AH → Prop) (r0 : (AV × AV × AV × AV) → AH → Prop) (x0 x5 x10 x11 x12 : AV) (H : AH) : Prop :=
  outP CC H (some (.enter 48 [x5])) fun v1 H1 =>
  m_bin_Writer_Intttbltthbtt K r0 x0 x5 v1 x10 x11 x12 H1
theorem m_bin_Writer_Intttbltthbt_eq (K : AV → AH → Prop) (r0 : (AV × AV × AV × AV) → AH → Prop) (a : TE) (H : AH) : codeP PP CC (subC (bodyC PP 14) [1, 1, 0, 0, 1, 1, 0, 0, 1]) (m_bin_Writer_Intttbltth_k K r0) a H = m_bin_Writer_Intttbltthbt K r0 (a 0) (a 5) (a 10) (a 11) (a 12) H :=
  have h1 : codeP PP CC (subC (bodyC PP 14) [1, 1, 0, 0, 1, 1, 0, 0, 1]) (m_bin_Writer_Intttbltth_k K r0) a H = codeP PP CC (subC (bodyC PP 14) [1, 1, 0, 0, 1, 1, 0, 0, 1, 0]) (exP (codeP PP CC (subC (bodyC PP 14) [1, 1, 0, 0, 1, 1, 0, 0, 1, 1]) (m_bin_Writer_Intttbltth_k K r0)) (m_bin_Writer_Intttbltth_k K r0)) a H := by kernel_rfl
  have h2 : codeP PP CC (subC (bodyC PP 14) [1, 1, 0, 0, 1, 1, 0, 0, 1, 0]) (exP (codeP PP CC (subC (bodyC PP 14) [1, 1, 0, 0, 1, 1, 0, 0, 1, 1]) (m_bin_Writer_Intttbltth_k K r0)) (m_bin_Writer_Intttbltth_k K r0)) a H = codeP PP CC (subC (bodyC PP 14) [1, 1, 0, 0, 1, 1, 0, 0, 1, 0]) (exP (fun (a : TE) (H : AH) => m_bin_Writer_Intttbltthbtt K r0 (a 0) (a 5) (a 6) (a 10) (a 11) (a 12) H) (m_bin_Writer_Intttbltth_k K r0)) a H := congrArg (fun k : KE => codeP PP CC (subC (bodyC PP 14) [1, 1, 0, 0, 1, 1, 0, 0, 1, 0]) (exP k (m_bin_Writer_Intttbltth_k K r0)) a H) (funext fun a => funext fun H => m_bin_Writer_Intttbltthbtt_eq K r0 a H)
  have h2b : codeP PP CC (subC (bodyC PP 14) [1, 1, 0, 0, 1, 1, 0, 0, 1, 0]) (exP (fun (a : TE) (H : AH) => m_bin_Writer_Intttbltthbtt K r0 (a 0) (a 5) (a 6) (a 10) (a 11) (a 12) H) (m_bin_Writer_Intttbltth_k K r0)) a H = codeP PP CC (subC (bodyC PP 14) [1, 1, 0, 0, 1, 1, 0, 0, 1, 0]) (m_bin_Writer_Intttbltthbt_k K r0) a H := by kernel_rfl
  have h3 : codeP PP CC (subC (bodyC PP 14) [1, 1, 0, 0, 1, 1, 0, 0, 1, 0]) (m_bin_Writer_Intttbltthbt_k K r0) a H = m_bin_Writer_Intttbltthbt K r0 (a 0) (a 5) (a 10) (a 11) (a 12) H := by kernel_rfl
  ((h1.trans h2).trans h2b).trans h3
abbrev m_bin_Writer_Intttbltthb_k (K : AV → AH → Prop) (r0 : (AV × AV × AV × AV) → AH → Prop) : KP := exP (fun (a : TE) (H : AH) => m_bin_Writer_Intttbltthbt K r0 (a 0) (a 5) (a 10) (a 11) (a 12) H) (m_bin_Writer_Intttbltth_k K r0)
def m_bin_Writer_Intttbltthb (K : AV → AH → Prop) (r0 : (AV × AV × AV × AV) → AH → Prop) (x0 x10 x11 x12 : AV) (H : AH) : Prop :=
  outP CC H (w_indexAddr (.sl 1) H x10 x12) fun v1 H1 =>
  outP CC H1 (w_load none H1 v1) fun v2 H2 =>
  m_bin_Writer_Intttbltthbt K r0 x0 v2 x10 x11 x12 H2
theorem m_bin_Writer_Intttbltthb_eq (K : AV → AH → Prop) (r0 : (AV × AV × AV × AV) → AH → Prop) (a : TE) (H : AH) : codeP PP CC (subC (bodyC PP 14) [1, 1, 0, 0, 1, 1, 0, 0]) (m_bin_Writer_Intttbltth_k K r0) a H = m_bin_Writer_Intttbltthb K r0 (a 0) (a 10) (a 11) (a 12) H :=
  have h1 : codeP PP CC (subC (bodyC PP 14) [1, 1, 0, 0, 1, 1, 0, 0]) (m_bin_Writer_Intttbltth_k K r0) a H = codeP PP CC (subC (bodyC PP 14) [1, 1, 0, 0, 1, 1, 0, 0, 0]) (exP (codeP PP CC (subC (bodyC PP 14) [1, 1, 0, 0, 1, 1, 0, 0, 1]) (m_bin_Writer_Intttbltth_k K r0)) (m_bin_Writer_Intttbltth_k K r0)) a H := by kernel_rfl
  have h2 : codeP PP CC (subC (bodyC PP 14) [1, 1, 0, 0, 1, 1, 0, 0, 0]) (exP (codeP PP CC (subC (bodyC PP 14) [1, 1, 0, 0, 1, 1, 0, 0, 1]) (m_bin_Writer_Intttbltth_k K r0)) (m_bin_Writer_Intttbltth_k K r0)) a H = codeP PP CC (subC (bodyC PP 14) [1, 1, 0, 0, 1, 1, 0, 0, 0]) (exP (fun (a : TE) (H : AH) => m_bin_Writer_Intttbltthbt K r0 (a 0) (a 5) (a 10) (a 11) (a 12) H) (m_bin_Writer_Intttbltth_k K r0)) a H := congrArg (fun k : KE => codeP PP CC (subC (bodyC PP 14) [1, 1, 0, 0, 1, 1, 0, 0, 0]) (exP k (m_bin_Writer_Intttbltth_k K r0)) a H) (funext fun a => funext fun H => m_bin_Writer_Intttbltthbt_eq K r0 a H)
  have h2b : codeP PP CC (subC (bodyC PP 14) [1, 1, 0, 0, 1, 1, 0, 0, 0]) (exP (fun (a : TE) (H : AH) => m_bin_Writer_Intttbltthbt K r0 (a 0) (a 5) (a 10) (a 11) (a 12) H) (m_bin_Writer_Intttbltth_k K r0)) a H = codeP PP CC (subC (bodyC PP 14) [1, 1, 0, 0, 1, 1, 0, 0, 0]) (m_bin_Writer_Intttbltthb_k K r0) a H := by kernel_rfl
  have h3 : codeP PP CC (subC (bodyC PP 14) [1, 1, 0, 0, 1, 1, 0, 0, 0]) (m_bin_Writer_Intttbltthb_k K r0) a H = m_bin_Writer_Intttbltthb K r0 (a 0) (a 10) (a 11) (a 12) H := by kernel_rfl
  ((h1.trans h2).trans h2b).trans h3
theorem m_bin_Writer_Intttbltth_eq (K : AV → AH → Prop) (r0 : (AV × AV × AV × AV) → AH → Prop) (a : TE) (H : AH) : codeP PP CC (subC (bodyC PP 14) [1, 1, 0, 0, 1, 1, 0]) (m_bin_Writer_Intttbltt_k K r0) a H = m_bin_Writer_Intttbltthb K r0 (a 0) (a 10) (a 11) (a 12) H :=
  have h1 : codeP PP CC (subC (bodyC PP 14) [1, 1, 0, 0, 1, 1, 0]) (m_bin_Writer_Intttbltt_k K r0) a H = codeP PP CC (subC (bodyC PP 14) [1, 1, 0, 0, 1, 1, 0, 0]) (m_bin_Writer_Intttbltth_k K r0) a H := by kernel_rfl
  h1.trans (m_bin_Writer_Intttbltthb_eq K r0 a H)
theorem m_bin_Writer_Intttbltt_eq (K : AV → AH → Prop) (r0 : (AV × AV × AV × AV) → AH → Prop) (a : TE) (H : AH) : codeP PP CC (subC (bodyC PP 14) [1, 1, 0, 0, 1, 1]) (m_bin_Writer_Intttb_k K r0) a H = m_bin_Writer_Intttbltthb K r0 (a 0) (a 10) (a 11) (a 12) H :=
  have h1 : codeP PP CC (subC (bodyC PP 14) [1, 1, 0, 0, 1, 1]) (m_bin_Writer_Intttb_k K r0) a H = codeP PP CC (subC (bodyC PP 14) [1, 1, 0, 0, 1, 1, 0]) (m_bin_Writer_Intttbltt_k K r0) a H := by kernel_rfl
  h1.trans (m_bin_Writer_Intttbltth_eq K r0 a H)
abbrev m_bin_Writer_Intttblt_k (K : AV → AH → Prop) (r0 : (AV × AV × AV × AV) → AH → Prop) : KP := exP (fun (a : TE) (H : AH) => m_bin_Writer_Intttbltthb K r0 (a 0) (a 10) (a 11) (a 12) H) (m_bin_Writer_Intttb_k K r0)
def m_bin_Writer_Intttblt (K : AV → AH → Prop) (r0 : (AV × AV × AV × AV) → AH → Prop) (x0 x10 x11 x12 x13 : AV) (H : AH) : Prop :=
  condP x13
  (m_bin_Writer_Intttbltthb K r0 x0 x10 x11 x12 H)
  (K (.tup []) H)
theorem m_bin_Writer_Intttblt_eq (K : AV → AH → Prop) (r0 : (AV × AV × AV × AV) → AH → Prop) (a : TE) (H : AH) : codeP PP CC (subC (bodyC PP 14) [1, 1, 0, 0, 1]) (m_bin_Writer_Intttb_k K r0) a H = m_bin_Writer_Intttblt K r0 (a 0) (a 10) (a 11) (a 12) (a 13) H :=
  have h1 : codeP PP CC (subC (bodyC PP 14) [1, 1, 0, 0, 1]) (m_bin_Writer_Intttb_k K r0) a H = codeP PP CC (subC (bodyC PP 14) [1, 1, 0, 0, 1, 0]) (exP (codeP PP CC (subC (bodyC PP 14) [1, 1, 0, 0, 1, 1]) (m_bin_Writer_Intttb_k K r0)) (m_bin_Writer_Intttb_k K r0)) a H := by kernel_rfl
  have h2 : codeP PP CC (subC (bodyC PP 14) [1, 1, 0, 0, 1, 0]) (exP (codeP PP CC (subC (bodyC PP 14) [1, 1, 0, 0, 1, 1]) (m_bin_Writer_Intttb_k K r0)) (m_bin_Writer_Intttb_k K r0)) a H = codeP PP CC (subC (bodyC PP 14) [1, 1, 0, 0, 1, 0]) (exP (fun (a : TE) (H : AH) => m_bin_Writer_Intttbltthb K r0 (a 0) (a 10) (a 11) (a 12) H) (m_bin_Writer_Intttb_k K r0)) a H := congrArg (fun k : KE => codeP PP CC (subC (bodyC PP 14) [1, 1, 0, 0, 1, 0]) (exP k (m_bin_Writer_Intttb_k K r0)) a H) (funext fun a => funext fun H => m_bin_Writer_Intttbltt_eq K r0 a H)
  have h2b : codeP PP CC (subC (bodyC PP 14) [1, 1, 0, 0, 1, 0]) (exP (fun (a : TE) (H : AH) => m_bin_Writer_Intttbltthb K r0 (a 0) (a 10) (a 11) (a 12) H) (m_bin_Writer_Intttb_k K r0)) a H = codeP PP CC (subC (bodyC PP 14) [1, 1, 0, 0, 1, 0]) (m_bin_Writer_Intttblt_k K r0) a H := by kernel_rfl
  have h3 : codeP PP CC (subC (bodyC PP 14) [1, 1, 0, 0, 1, 0]) (m_bin_Writer_Intttblt_k K r0) a H = m_bin_Writer_Intttblt K r0 (a 0) (a 10) (a 11) (a 12) (a 13) H := by kernel_rfl
  ((h1.trans h2).trans h2b).trans h3
abbrev m_bin_Writer_Intttbl_k (K : AV → AH → Prop) (r0 : (AV × AV × AV × AV) → AH → Prop) : KP := exP (fun (a : TE) (H : AH) => m_bin_Writer_Intttblt K r0 (a 0) (a 10) (a 11) (a 12) (a 13) H) (m_bin_Writer_Intttb_k K r0)
def m_bin_Writer_Intttbl (K : AV → AH → Prop) (r0 : (AV × AV × AV × AV) → AH → Prop) (x0 x10 x11 x12 : AV) (H : AH) : Prop :=
  outP CC H (w_int .lss H x12 x11) fun v1 H1 =>
  m_bin_Writer_Intttblt K r0 x0 x10 x11 x12 v1 H1
theorem m_bin_Writer_Intttbl_eq (K : AV → AH → Prop) (r0 : (AV × AV × AV × AV) → AH → Prop) (a : TE) (H : AH) : codeP PP CC (subC (bodyC PP 14) [1, 1, 0, 0]) (m_bin_Writer_Intttb_k K r0) a H = m_bin_Writer_Intttbl K r0 (a 0) (a 10) (a 11) (a 12) H :=
  have h1 : codeP PP CC (subC (bodyC PP 14) [1, 1, 0, 0]) (m_bin_Writer_Intttb_k K r0) a H = codeP PP CC (subC (bodyC PP 14) [1, 1, 0, 0, 0]) (exP (codeP PP CC (subC (bodyC PP 14) [1, 1, 0, 0, 1]) (m_bin_Writer_Intttb_k K r0)) (m_bin_Writer_Intttb_k K r0)) a H := by kernel_rfl
  have h2 : codeP PP CC (subC (bodyC PP 14) [1, 1, 0, 0, 0]) (exP (codeP PP CC (subC (bodyC PP 14) [1, 1, 0, 0, 1]) (m_bin_Writer_Intttb_k K r0)) (m_bin_Writer_Intttb_k K r0)) a H = codeP PP CC (subC (bodyC PP 14) [1, 1, 0, 0, 0]) (exP (fun (a : TE) (H : AH) => m_bin_Writer_Intttblt K r0 (a 0) (a 10) (a 11) (a 12) (a 13) H) (m_bin_Writer_Intttb_k K r0)) a H := congrArg (fun k : KE => codeP PP CC (subC (bodyC PP 14) [1, 1, 0, 0, 0]) (exP k (m_bin_Writer_Intttb_k K r0)) a H) (funext fun a => funext fun H => m_bin_Writer_Intttblt_eq K r0 a H)
  have h2b : codeP PP CC (subC (bodyC PP 14) [1, 1, 0, 0, 0]) (exP (fun (a : TE) (H : AH) => m_bin_Writer_Intttblt K r0 (a 0) (a 10) (a 11) (a 12) (a 13) H) (m_bin_Writer_Intttb_k K r0)) a H = codeP PP CC (subC (bodyC PP 14) [1, 1, 0, 0, 0]) (m_bin_Writer_Intttbl_k K r0) a H := by kernel_rfl
  have h3 : codeP PP CC (subC (bodyC PP 14) [1, 1, 0, 0, 0]) (m_bin_Writer_Intttbl_k K r0) a H = m_bin_Writer_Intttbl K r0 (a 0) (a 10) (a 11) (a 12) H := by kernel_rfl
  ((h1.trans h2).trans h2b).trans h3
def m_bin_Writer_Intttb (K : AV → AH → Prop) (x0 x10 x11 x12 : AV) (H : AH) : Prop :=
  loopP (fun (r0 : (AV × AV × AV × AV) → AH → Prop) (s : (AV × AV × AV × AV)) (H : AH) => m_bin_Writer_Intttbl K r0 s.1 s.2.1 s.2.2.1 s.2.2.2 H) (x0, x10, x11, x12) H
theorem m_bin_Writer_Intttb_eq (K : AV → AH → Prop) (a : TE) (H : AH) : codeP PP CC (subC (bodyC PP 14) [1, 1, 0]) (m_bin_Writer_Inttt_k K) a H = m_bin_Writer_Intttb K (a 0) (a 10) (a 11) (a 12) H :=
  have h1 : codeP PP CC (subC (bodyC PP 14) [1, 1, 0]) (m_bin_Writer_Inttt_k K) a H = loopP (fun (rec : KE) => codeP PP CC (subC (bodyC PP 14) [1, 1, 0, 0]) (exP rec (m_bin_Writer_Inttt_k K))) a H := by kernel_rfl
  have h2 := loopP_iso (F := fun (rec : KE) => codeP PP CC (subC (bodyC PP 14) [1, 1, 0, 0]) (exP rec (m_bin_Writer_Inttt_k K))) (S := (AV × AV × AV × AV)) (fun a => (a 0, a 10, a 11, a 12)) (fun (r0 : (AV × AV × AV × AV) → AH → Prop) (s : (AV × AV × AV × AV)) (H : AH) => m_bin_Writer_Intttbl K r0 s.1 s.2.1 s.2.2.1 s.2.2.2 H) (fun (r0 : (AV × AV × AV × AV) → AH → Prop) (a : TE) (H : AH) => (show codeP PP CC (subC (bodyC PP 14) [1, 1, 0, 0]) (exP (fun (a : TE) (H : AH) => r0 (a 0, a 10, a 11, a 12) H) (m_bin_Writer_Inttt_k K)) a H = codeP PP CC (subC (bodyC PP 14) [1, 1, 0, 0]) (m_bin_Writer_Intttb_k K r0) a H from by kernel_rfl).trans (m_bin_Writer_Intttbl_eq K r0 a H)) a H
  h1.trans h2
theorem m_bin_Writer_Inttt_eq (K : AV → AH → Prop) (a : TE) (H : AH) : codeP PP CC (subC (bodyC PP 14) [1, 1]) (m_bin_Writer_Int_K K) a H = m_bin_Writer_Intttb K (a 0) (a 10) (a 11) (a 12) H :=
  have h1 : codeP PP CC (subC (bodyC PP 14) [1, 1]) (m_bin_Writer_Int_K K) a H = codeP PP CC (subC (bodyC PP 14) [1, 1, 0]) (m_bin_Writer_Inttt_k K) a H := by kernel_rfl
  h1.trans (m_bin_Writer_Intttb_eq K a H)
abbrev m_bin_Writer_Intt_k (K : AV → AH → Prop) : KP := exP (fun (a : TE) (H : AH) => m_bin_Writer_Intttb K (a 0) (a 10) (a 11) (a 12) H) (m_bin_Writer_Int_K K)
def m_bin_Writer_Intt (K : AV → AH → Prop) (x0 x1 : AV) (H : AH) : Prop :=
  outP CC H (w_len PP 79 H x1) fun v1 H1 =>
  m_bin_Writer_Intttb K x0 x1 v1 (.int .i64 0) H1
theorem m_bin_Writer_Intt_eq (K : AV → AH → Prop) (a : TE) (H : AH) : codeP PP CC (subC (bodyC PP 14) [1]) (m_bin_Writer_Int_K K) a H = m_bin_Writer_Intt K (a 0) (a 1) H :=
  have h1 : codeP PP CC (subC (bodyC PP 14) [1]) (m_bin_Writer_Int_K K) a H = codeP PP CC (subC (bodyC PP 14) [1, 0]) (exP (codeP PP CC (subC (bodyC PP 14) [1, 1]) (m_bin_Writer_Int_K K)) (m_bin_Writer_Int_K K)) a H := by kernel_rfl
  have h2 : codeP PP CC (subC (bodyC PP 14) [1, 0]) (exP (codeP PP CC (subC (bodyC PP 14) [1, 1]) (m_bin_Writer_Int_K K)) (m_bin_Writer_Int_K K)) a H = codeP PP CC (subC (bodyC PP 14) [1, 0]) (exP (fun (a : TE) (H : AH) => m_bin_Writer_Intttb K (a 0) (a 10) (a 11) (a 12) H) (m_bin_Writer_Int_K K)) a H := congrArg (fun k : KE => codeP PP CC (subC (bodyC PP 14) [1, 0]) (exP k (m_bin_Writer_Int_K K)) a H) (funext fun a => funext fun H => m_bin_Writer_Inttt_eq K a H)
  have h2b : codeP PP CC (subC (bodyC PP 14) [1, 0]) (exP (fun (a : TE) (H : AH) => m_bin_Writer_Intttb K (a 0) (a 10) (a 11) (a 12) H) (m_bin_Writer_Int_K K)) a H = codeP PP CC (subC (bodyC PP 14) [1, 0]) (m_bin_Writer_Intt_k K) a H := by kernel_rfl
  have h3 : codeP PP CC (subC (bodyC PP 14) [1, 0]) (m_bin_Writer_Intt_k K) a H = m_bin_Writer_Intt K (a 0) (a 1) H := by kernel_rfl
  ((h1.trans h2).trans h2b).trans h3
abbrev m_bin_Writer_Int_k (K : AV → AH → Prop) : KP := exP (fun (a : TE) (H : AH) => m_bin_Writer_Intt K (a 0) (a 1) H) (m_bin_Writer_Int_K K)
def m_bin_Writer_Int (K : AV → AH → Prop) (x0 x1 : AV) (H : AH) : Prop :=
  outP CC H (w_eq PP .eql 33 false true H x0 (.ptr none)) fun v1 H1 =>
  condP v1
  (K (.tup []) H1)
  (m_bin_Writer_Intt K x0 x1 H1)
theorem m_bin_Writer_Int_eq (K : AV → AH → Prop) (a : TE) (H : AH) : codeP PP CC (subC (bodyC PP 14) []) (m_bin_Writer_Int_K K) a H = m_bin_Writer_Int K (a 0) (a 1) H :=
  have h1 : codeP PP CC (subC (bodyC PP 14) []) (m_bin_Writer_Int_K K) a H = codeP PP CC (subC (bodyC PP 14) [0]) (exP (codeP PP CC (subC (bodyC PP 14) [1]) (m_bin_Writer_Int_K K)) (m_bin_Writer_Int_K K)) a H := by kernel_rfl
  have h2 : codeP PP CC (subC (bodyC PP 14) [0]) (exP (codeP PP CC (subC (bodyC PP 14) [1]) (m_bin_Writer_Int_K K)) (m_bin_Writer_Int_K K)) a H = codeP PP CC (subC (bodyC PP 14) [0]) (exP (fun (a : TE) (H : AH) => m_bin_Writer_Intt K (a 0) (a 1) H) (m_bin_Writer_Int_K K)) a H := congrArg (fun k : KE => codeP PP CC (subC (bodyC PP 14) [0]) (exP k (m_bin_Writer_Int_K K)) a H) (funext fun a => funext fun H => m_bin_Writer_Intt_eq K a H)
  have h2b : codeP PP CC (subC (bodyC PP 14) [0]) (exP (fun (a : TE) (H : AH) => m_bin_Writer_Intt K (a 0) (a 1) H) (m_bin_Writer_Int_K K)) a H = codeP PP CC (subC (bodyC PP 14) [0]) (m_bin_Writer_Int_k K) a H := by kernel_rfl
  have h3 : codeP PP CC (subC (bodyC PP 14) [0]) (m_bin_Writer_Int_k K) a H = m_bin_Writer_Int K (a 0) (a 1) H := by kernel_rfl
  ((h1.trans h2).trans h2b).trans h3
theorem m_bin_Writer_Int_ok (x0 x1 : AV) (H : AH) (K : AV → AH → Prop) (h : m_bin_Writer_Int K x0 x1 H) : CC.call 14 [x0, x1] H K :=
  have h1 : funP PP CC 14 [x0, x1] H K = codeP PP CC (subC (bodyC PP 14) []) (m_bin_Writer_Int_K K) (argE [x0, x1]) H := by kernel_rfl
  have h2 : m_bin_Writer_Int K (argE [x0, x1] 0) (argE [x0, x1] 1) H = m_bin_Writer_Int K x0 x1 H := by kernel_rfl
  funP_ok (P := PP) (by kernel_rfl) (by kernel_rfl) ((h1.trans ((m_bin_Writer_Int_eq K (argE [x0, x1]) H).trans h2)).mpr h)

/-! 13: fieldfare/vect.Put -/
abbrev m_vect_Put_K (K : AV → AH → Prop) : KP := finP PP (resC PP 13) K
abbrev m_vect_Puttt_k (K : AV → AH → Prop) : KP := blockP 0 (m_vect_Put_K K)
abbrev m_vect_Putttb_k (K : AV → AH → Prop) (r0 : (AV × AV × AV × AV) → AH → Prop) : KP := exP (fun (a : TE) (H : AH) => r0 (a 0, a 11, a 12, a 13) H) (m_vect_Puttt_k K)
def m_vect_Putttbl (K : AV → AH → Prop) (r0 : (AV × AV × AV × AV) → AH → Prop) (x0 x11 x12 x13 : AV) (H : AH) : Prop :=
  outP CC H (w_int .lss H x13 x12) fun v1 H1 =>
  condP v1
  (outP CC H1 (w_indexAddr (.sl 1) H1 x11 x13) fun v2 H2 =>
  outP CC H2 (w_load none H2 v2) fun v3 H3 =>
  outP CC H3 (w_conv (.int .i64) H3 v3 none) fun v4 H4 =>
  outP CC H4 (w_buildSlice PP 2 1 H4 [(0, v4)] none) fun v5 H5 =>
  outP CC H5 (some (.enter 14 [x0, v5])) fun _v6 H6 =>
  outP CC H6 (w_int .add H6 x13 (.int .i64 1)) fun v7 H7 =>
  r0 (x0, x11, x12, v7) H7)
  (K (.tup []) H1)
theorem m_vect_Putttbl_eq (K : AV → AH → Prop) (r0 : (AV × AV × AV × AV) → AH → Prop) (a : TE) (H : AH) : codeP PP CC (subC (bodyC PP 13) [1, 1, 0, 0]) (m_vect_Putttb_k K r0) a H = m_vect_Putttbl K r0 (a 0) (a 11) (a 12) (a 13) H :=
  by kernel_rfl
def m_vect_Putttb (K : AV → AH → Prop) (x0 x11 x12 x13 : AV) (H : AH) : Prop :=
  loopP (fun (r0 : (AV × AV × AV × AV) → AH → Prop) (s : (AV × AV × AV × AV)) (H : AH) => m_vect_Putttbl K r0 s.1 s.2.1 s.2.2.1 s.2.2.2 H) (x0, x11, x12, x13) H
theorem m_vect_Putttb_eq (K : AV → AH → Prop) (a : TE) (H : AH) : codeP PP CC (subC (bodyC PP 13) [1, 1, 0]) (m_vect_Puttt_k K) a H = m_vect_Putttb K (a 0) (a 11) (a 12) (a 13) H :=
  have h1 : codeP PP CC (subC (bodyC PP 13) [1, 1, 0]) (m_vect_Puttt_k K) a H = loopP (fun (rec : KE) => codeP PP CC (subC (bodyC PP 13) [1, 1, 0, 0]) (exP rec (m_vect_Puttt_k K))) a H := by kernel_rfl
  have h2 := loopP_iso (F := fun (rec : KE) => codeP PP CC (subC (bodyC PP 13) [1, 1, 0, 0]) (exP rec (m_vect_Puttt_k K))) (S := (AV × AV × AV × AV)) (fun a => (a 0, a 11, a 12, a 13)) (fun (r0 : (AV × AV × AV × AV) → AH → Prop) (s : (AV × AV × AV × AV)) (H : AH) => m_vect_Putttbl K r0 s.1 s.2.1 s.2.2.1 s.2.2.2 H) (fun (r0 : (AV × AV × AV × AV) → AH → Prop) (a : TE) (H : AH) => (show codeP PP CC (subC (bodyC PP 13) [1, 1, 0, 0]) (exP (fun (a : TE) (H : AH) => r0 (a 0, a 11, a 12, a 13) H) (m_vect_Puttt_k K)) a H = codeP PP CC (subC (bodyC PP 13) [1, 1, 0, 0]) (m_vect_Putttb_k K r0) a H from by kernel_rfl).trans (m_vect_Putttbl_eq K r0 a H)) a H
  h1.trans h2
theorem m_vect_Puttt_eq (K : AV → AH → Prop) (a : TE) (H : AH) : codeP PP CC (subC (bodyC PP 13) [1, 1]) (m_vect_Put_K K) a H = m_vect_Putttb K (a 0) (a 11) (a 12) (a 13) H :=
  have h1 : codeP PP CC (subC (bodyC PP 13) [1, 1]) (m_vect_Put_K K) a H = codeP PP CC (subC (bodyC PP 13) [1, 1, 0]) (m_vect_Puttt_k K) a H := by kernel_rfl
  h1.trans (m_vect_Putttb_eq K a H)
abbrev m_vect_Putt_k (K : AV → AH → Prop) : KP := exP (fun (a : TE) (H : AH) => m_vect_Putttb K (a 0) (a 11) (a 12) (a 13) H) (m_vect_Put_K K)
def m_vect_Putt (K : AV → AH → Prop) (x0 x1 : AV) (H : AH) : Prop :=
  outP CC H (w_len PP 25 H x1) fun v1 H1 =>
  m_vect_Putttb K x0 x1 v1 (.int .i64 0) H1
theorem m_vect_Putt_eq (K : AV → AH → Prop) (a : TE) (H : AH) : codeP PP CC (subC (bodyC PP 13) [1]) (m_vect_Put_K K) a H = m_vect_Putt K (a 0) (a 1) H :=
  have h1 : codeP PP CC (subC (bodyC PP 13) [1]) (m_vect_Put_K K) a H = codeP PP CC (subC (bodyC PP 13) [1, 0]) (exP (codeP PP CC (subC (bodyC PP 13) [1, 1]) (m_vect_Put_K K)) (m_vect_Put_K K)) a H := by kernel_rfl
  have h2 : codeP PP CC (subC (bodyC PP 13) [1, 0]) (exP (codeP PP CC (subC (bodyC PP 13) [1, 1]) (m_vect_Put_K K)) (m_vect_Put_K K)) a H = codeP PP CC (subC (bodyC PP 13) [1, 0]) (exP (fun (a : TE) (H : AH) => m_vect_Putttb K (a 0) (a 11) (a 12) (a 13) H) (m_vect_Put_K K)) a H := congrArg (fun k : KE => codeP PP CC (subC (bodyC PP 13) [1, 0]) (exP k (m_vect_Put_K K)) a H) (funext fun a => funext fun H => m_vect_Puttt_eq K a H)
  have h2b : codeP PP CC (subC (bodyC PP 13) [1, 0]) (exP (fun (a : TE) (H : AH) => m_vect_Putttb K (a 0) (a 11) (a 12) (a 13) H) (m_vect_Put_K K)) a H = codeP PP CC (subC (bodyC PP 13) [1, 0]) (m_vect_Putt_k K) a H := by kernel_rfl
  have h3 : codeP PP CC (subC (bodyC PP 13) [1, 0]) (m_vect_Putt_k K) a H = m_vect_Putt K (a 0) (a 1) H := by kernel_rfl
  ((h1.trans h2).trans h2b).trans h3
abbrev m_vect_Put_k (K : AV → AH → Prop) : KP := exP (fun (a : TE) (H : AH) => m_vect_Putt K (a 0) (a 1) H) (m_vect_Put_K K)
def m_vect_Put (K : AV → AH → Prop) (x0 x1 : AV) (H : AH) : Prop :=
  outP CC H (w_len PP 25 H x1) fun v1 H1 =>
  outP CC H1 (w_buildSlice PP 2 1 H1 [(0, v1)] none) fun v2 H2 =>
  outP CC H2 (some (.enter 14 [x0, v2])) fun _v3 H3 =>
  m_vect_Putt K x0 x1 H3
theorem m_vect_Put_eq (K : AV → AH → Prop) (a : TE) (H : AH) : codeP PP CC (subC (bodyC PP 13) []) (m_vect_Put_K K) a H = m_vect_Put K (a 0) (a 1) H :=
  have h1 : codeP PP CC (subC (bodyC PP 13) []) (m_vect_Put_K K) a H = codeP PP CC (subC (bodyC PP 13) [0]) (exP (codeP PP CC (subC (bodyC PP 13) [1]) (m_vect_Put_K K)) (m_vect_Put_K K)) a H := by kernel_rfl
  have h2 : codeP PP CC (subC (bodyC PP 13) [0]) (exP (codeP PP CC (subC (bodyC PP 13) [1]) (m_vect_Put_K K)) (m_vect_Put_K K)) a H = codeP PP CC (subC (bodyC PP 13) [0]) (exP (fun (a : TE) (H : AH) => m_vect_Putt K (a 0) (a 1) H) (m_vect_Put_K K)) a H := congrArg (fun k : KE => codeP PP CC (subC (bodyC PP 13) [0]) (exP k (m_vect_Put_K K)) a H) (funext fun a => funext fun H => m_vect_Putt_eq K a H)
  have h2b : codeP PP CC (subC (bodyC PP 13) [0]) (exP (fun (a : TE) (H : AH) => m_vect_Putt K (a 0) (a 1) H) (m_vect_Put_K K)) a H = codeP PP CC (subC (bodyC PP 13) [0]) (m_vect_Put_k K) a H := by kernel_rfl
  have h3 : codeP PP CC (subC (bodyC PP 13) [0]) (m_vect_Put_k K) a H = m_vect_Put K (a 0) (a 1) H := by kernel_rfl
  ((h1.trans h2).trans h2b).trans h3
theorem m_vect_Put_ok (x0 x1 : AV) (H : AH) (K : AV → AH → Prop) (h : m_vect_Put K x0 x1 H) : CC.call 13 [x0, x1] H K :=
  have h1 : funP PP CC 13 [x0, x1] H K = codeP PP CC (subC (bodyC PP 13) []) (m_vect_Put_K K) (argE [x0, x1]) H := by kernel_rfl
  have h2 : m_vect_Put K (argE [x0, x1] 0) (argE [x0, x1] 1) H = m_vect_Put K x0 x1 H := by kernel_rfl
  funP_ok (P := PP) (by kernel_rfl) (by kernel_rfl) ((h1.trans ((m_vect_Put_eq K (argE [x0, x1]) H).trans h2)).mpr h)

/-! 15: fieldfare/bin.NewReader -/
abbrev m_bin_NewReader_K (K : AV → AH → Prop) : KP := finP PP (resC PP 15) K
def m_bin_NewReader (K : AV → AH → Prop) (x0 : AV) (H : AH) : Prop :=
  outP CC H (w_append 5 1 1 H (.slice none 0 0 true) x0 none) fun v1 H1 =>
  outP CC H1 (w_build PP 82 H1 [(0, v1)]) fun v2 H2 =>
  outP CC H2 (w_box 82 H2 v2 none) fun v3 H3 =>
  K v3 H3
theorem m_bin_NewReader_eq (K : AV → AH → Prop) (a : TE) (H : AH) : codeP PP CC (subC (bodyC PP 15) []) (m_bin_NewReader_K K) a H = m_bin_NewReader K (a 0) H :=
  by kernel_rfl
theorem m_bin_NewReader_ok (x0 : AV) (H : AH) (K : AV → AH → Prop) (h : m_bin_NewReader K x0 H) : CC.call 15 [x0] H K :=
  have h1 : funP PP CC 15 [x0] H K = codeP PP CC (subC (bodyC PP 15) []) (m_bin_NewReader_K K) (argE [x0]) H := by kernel_rfl
  have h2 : m_bin_NewReader K (argE [x0] 0) H = m_bin_NewReader K x0 H := by kernel_rfl
  funP_ok (P := PP) (by kernel_rfl) (by kernel_rfl) ((h1.trans ((m_bin_NewReader_eq K (argE [x0]) H).trans h2)).mpr h)

/-! 16: (*fieldfare/bin.Writer).Bytes -/
abbrev m_bin_Writer_Bytes_K (K : AV → AH → Prop) : KP := finP PP (resC PP 16) K
def m_bin_Writer_Bytes (K : AV → AH → Prop) (x0 : AV) (H : AH) : Prop :=
  outP CC H (w_eq PP .eql 33 false true H x0 (.ptr none)) fun v1 H1 =>
  condP v1
  (K (.slice none 0 0 true) H1)
  (outP CC H1 (w_nil H1 x0) fun v2 H2 =>
  outP CC H2 (w_fieldAddr 0 H2 v2) fun v3 H3 =>
  outP CC H3 (w_load none H3 v3) fun v4 H4 =>
  outP CC H4 (w_append 5 1 1 H4 (.slice none 0 0 true) v4 none) fun v5 H5 =>
  K v5 H5)
theorem m_bin_Writer_Bytes_eq (K : AV → AH → Prop) (a : TE) (H : AH) : codeP PP CC (subC (bodyC PP 16) []) (m_bin_Writer_Bytes_K K) a H = m_bin_Writer_Bytes K (a 0) H :=
  by kernel_rfl
theorem m_bin_Writer_Bytes_ok (x0 : AV) (H : AH) (K : AV → AH → Prop) (h : m_bin_Writer_Bytes K x0 H) : CC.call 16 [x0] H K :=
  have h1 : funP PP CC 16 [x0] H K = codeP PP CC (subC (bodyC PP 16) []) (m_bin_Writer_Bytes_K K) (argE [x0]) H := by kernel_rfl
  have h2 : m_bin_Writer_Bytes K (argE [x0] 0) H = m_bin_Writer_Bytes K x0 H := by kernel_rfl
  funP_ok (P := PP) (by kernel_rfl) (by kernel_rfl) ((h1.trans ((m_bin_Writer_Bytes_eq K (argE [x0]) H).trans h2)).mpr h)

/-! 18: fieldfare/vect.Get -/
abbrev m_vect_Get_K (K : AV → AH → Prop) : KP := finP PP (resC PP 18) K
abbrev m_vect_Gettttt_k (K : AV → AH → Prop) : KP := exP (codeP PP CC (subC (bodyC PP 18) [1, 1, 1, 1, 1]) (m_vect_Get_K K)) (m_vect_Get_K K)
abbrev m_vect_Getttttht_k (K : AV → AH → Prop) : KP := blockP 0 (m_vect_Gettttt_k K)
abbrev m_vect_Gettttthtb_k (K : AV → AH → Prop) (r0 : (AV × AV × AV × AV × AV) → AH → Prop) : KP := exP (fun (a : TE) (H : AH) => r0 (a 0, a 4, a 5, a 24, a 25) H) (m_vect_Getttttht_k K)
def m_vect_Gettttthtbl (K : AV → AH → Prop) (r0 : (AV × AV × AV × AV × AV) → AH → Prop) (x0 x4 x5 x24 x25 : AV) (H : AH) : Prop :=
  outP CC H (w_int .lss H x25 x24) fun v1 H1 =>
  condP v1
  (outP CC H1 (some (.enter 19 [x0])) fun v2 H2 =>
  outP CC H2 (w_conv (.int .i32) H2 v2 none) fun v3 H3 =>
  outP CC H3 (w_indexAddr (.sl 1) H3 x4 x25) fun v4 H4 =>
  outP CC H4 (w_store 1 H4 v4 v3) fun _v5 H5 =>
  guardP (boolIs true x5) H5 (outP CC H5 (some (.val v2 H5))) fun v6 H6 =>
  guardP (boolIs true x5) H6 (outP CC H6 (w_int .geq H6 v6 (.int .i64 (-2147483648)))) fun v7 H7 =>
  outP CC H7 (w_pick H7 x5 v7 (.bool false)) fun v8 H8 =>
  guardP (boolIs true v8) H8 (outP CC H8 (some (.val v2 H8))) fun v9 H9 =>
  guardP (boolIs true v8) H9 (outP CC H9 (w_int .leq H9 v9 (.int .i64 2147483647))) fun v10 H10 =>
  outP CC H10 (w_pick H10 v8 v10 (.bool false)) fun v11 H11 =>
  outP CC H11 (w_int .add H11 x25 (.int .i64 1)) fun v12 H12 =>
  r0 (x0, x4, v11, x24, v12) H12)
  (outP CC H1 (some (.enter 31 [x0])) fun v13 H13 =>
  outP CC H13 (w_int .neq H13 v13 (.int .i64 0)) fun v14 H14 =>
  guardP (boolIs false v14) H14 (outP CC H14 (some (.val x5 H14))) fun v15 H15 =>
  guardP (boolIs false v14) H15 (outP CC H15 (w_un .not H15 v15)) fun v16 H16 =>
  outP CC H16 (w_pick H16 v14 (.bool true) v16) fun v17 H17 =>
  condP v17
  (K (.slice none 0 0 true) H17)
  (K x4 H17))
theorem m_vect_Gettttthtbl_eq (K : AV → AH → Prop) (r0 : (AV × AV × AV × AV × AV) → AH → Prop) (a : TE) (H : AH) : codeP PP CC (subC (bodyC PP 18) [1, 1, 1, 1, 0, 1, 0, 0]) (m_vect_Gettttthtb_k K r0) a H = m_vect_Gettttthtbl K r0 (a 0) (a 4) (a 5) (a 24) (a 25) H :=
  by kernel_rfl
def m_vect_Gettttthtb (K : AV → AH → Prop) (x0 x4 x5 x24 x25 : AV) (H : AH) : Prop :=
  loopP (fun (r0 : (AV × AV × AV × AV × AV) → AH → Prop) (s : (AV × AV × AV × AV × AV)) (H : AH) => m_vect_Gettttthtbl K r0 s.1 s.2.1 s.2.2.1 s.2.2.2.1 s.2.2.2.2 H) (x0, x4, x5, x24, x25) H
theorem m_vect_Gettttthtb_eq (K : AV → AH → Prop) (a : TE) (H : AH) : codeP PP CC (subC (bodyC PP 18) [1, 1, 1, 1, 0, 1, 0]) (m_vect_Getttttht_k K) a H = m_vect_Gettttthtb K (a 0) (a 4) (a 5) (a 24) (a 25) H :=
  have h1 : codeP PP CC (subC (bodyC PP 18) [1, 1, 1, 1, 0, 1, 0]) (m_vect_Getttttht_k K) a H = loopP (fun (rec : KE) => codeP PP CC (subC (bodyC PP 18) [1, 1, 1, 1, 0, 1, 0, 0]) (exP rec (m_vect_Getttttht_k K))) a H := by kernel_rfl
  have h2 := loopP_iso (F := fun (rec : KE) => codeP PP CC (subC (bodyC PP 18) [1, 1, 1, 1, 0, 1, 0, 0]) (exP rec (m_vect_Getttttht_k K))) (S := (AV × AV × AV × AV × AV)) (fun a => (a 0, a 4, a 5, a 24, a 25)) (fun (r0 : (AV × AV × AV × AV × AV) → AH → Prop) (s : (AV × AV × AV × AV × AV)) (H : AH) => m_vect_Gettttthtbl K r0 s.1 s.2.1 s.2.2.1 s.2.2.2.1 s.2.2.2.2 H) (fun (r0 : (AV × AV × AV × AV × AV) → AH → Prop) (a : TE) (H : AH) => (show codeP PP CC (subC (bodyC PP 18) [1, 1, 1, 1, 0, 1, 0, 0]) (exP (fun (a : TE) (H : AH) => r0 (a 0, a 4, a 5, a 24, a 25) H) (m_vect_Getttttht_k K)) a H = codeP PP CC (subC (bodyC PP 18) [1, 1, 1, 1, 0, 1, 0, 0]) (m_vect_Gettttthtb_k K r0) a H from by kernel_rfl).trans (m_vect_Gettttthtbl_eq K r0 a H)) a H
  h1.trans h2
theorem m_vect_Getttttht_eq (K : AV → AH → Prop) (a : TE) (H : AH) : codeP PP CC (subC (bodyC PP 18) [1, 1, 1, 1, 0, 1]) (m_vect_Gettttt_k K) a H = m_vect_Gettttthtb K (a 0) (a 4) (a 5) (a 24) (a 25) H :=
  have h1 : codeP PP CC (subC (bodyC PP 18) [1, 1, 1, 1, 0, 1]) (m_vect_Gettttt_k K) a H = codeP PP CC (subC (bodyC PP 18) [1, 1, 1, 1, 0, 1, 0]) (m_vect_Getttttht_k K) a H := by kernel_rfl
  h1.trans (m_vect_Gettttthtb_eq K a H)
abbrev m_vect_Gettttth_k (K : AV → AH → Prop) : KP := exP (fun (a : TE) (H : AH) => m_vect_Gettttthtb K (a 0) (a 4) (a 5) (a 24) (a 25) H) (m_vect_Gettttt_k K)
def m_vect_Gettttth (K : AV → AH → Prop) (x0 x4 x5 : AV) (H : AH) : Prop :=
  outP CC H (w_len PP 25 H x4) fun v1 H1 =>
  m_vect_Gettttthtb K x0 x4 x5 v1 (.int .i64 0) H1
theorem m_vect_Gettttth_eq (K : AV → AH → Prop) (a : TE) (H : AH) : codeP PP CC (subC (bodyC PP 18) [1, 1, 1, 1, 0]) (m_vect_Gettttt_k K) a H = m_vect_Gettttth K (a 0) (a 4) (a 5) H :=
  have h1 : codeP PP CC (subC (bodyC PP 18) [1, 1, 1, 1, 0]) (m_vect_Gettttt_k K) a H = codeP PP CC (subC (bodyC PP 18) [1, 1, 1, 1, 0, 0]) (exP (codeP PP CC (subC (bodyC PP 18) [1, 1, 1, 1, 0, 1]) (m_vect_Gettttt_k K)) (m_vect_Gettttt_k K)) a H := by kernel_rfl
  have h2 : codeP PP CC (subC (bodyC PP 18) [1, 1, 1, 1, 0, 0]) (exP (codeP PP CC (subC (bodyC PP 18) [1, 1, 1, 1, 0, 1]) (m_vect_Gettttt_k K)) (m_vect_Gettttt_k K)) a H = codeP PP CC (subC (bodyC PP 18) [1, 1, 1, 1, 0, 0]) (exP (fun (a : TE) (H : AH) => m_vect_Gettttthtb K (a 0) (a 4) (a 5) (a 24) (a 25) H) (m_vect_Gettttt_k K)) a H := congrArg (fun k : KE => codeP PP CC (subC (bodyC PP 18) [1, 1, 1, 1, 0, 0]) (exP k (m_vect_Gettttt_k K)) a H) (funext fun a => funext fun H => m_vect_Getttttht_eq K a H)
  have h2b : codeP PP CC (subC (bodyC PP 18) [1, 1, 1, 1, 0, 0]) (exP (fun (a : TE) (H : AH) => m_vect_Gettttthtb K (a 0) (a 4) (a 5) (a 24) (a 25) H) (m_vect_Gettttt_k K)) a H = codeP PP CC (subC (bodyC PP 18) [1, 1, 1, 1, 0, 0]) (m_vect_Gettttth_k K) a H := by kernel_rfl
  have h3 : codeP PP CC (subC (bodyC PP 18) [1, 1, 1, 1, 0, 0]) (m_vect_Gettttth_k K) a H = m_vect_Gettttth K (a 0) (a 4) (a 5) H := by kernel_rfl
  ((h1.trans h2).trans h2b).trans h3
theorem m_vect_Gettttt_eq (K : AV → AH → Prop) (a : TE) (H : AH) : codeP PP CC (subC (bodyC PP 18) [1, 1, 1, 1]) (m_vect_Get_K K) a H = m_vect_Gettttth K (a 0) (a 4) (a 5) H :=
  have h1 : codeP PP CC (subC (bodyC PP 18) [1, 1, 1, 1]) (m_vect_Get_K K) a H = codeP PP CC (subC (bodyC PP 18) [1, 1, 1, 1, 0]) (m_vect_Gettttt_k K) a H := by kernel_rfl
  h1.trans (m_vect_Gettttth_eq K a H)
abbrev m_vect_Getttt_k (K : AV → AH → Prop) : KP := exP (fun (a : TE) (H : AH) => m_vect_Gettttth K (a 0) (a 4) (a 5) H) (m_vect_Get_K K)
def m_vect_Getttt (K : AV → AH → Prop) (x0 x3 : AV) (H : AH) : Prop :=
  outP CC H (w_makeSlice PP 21 H x3 x3 none) fun v1 H1 =>
  m_vect_Gettttth K x0 v1 (.bool true) H1
theorem m_vect_Getttt_eq (K : AV → AH → Prop) (a : TE) (H : AH) : codeP PP CC (subC (bodyC PP 18) [1, 1, 1]) (m_vect_Get_K K) a H = m_vect_Getttt K (a 0) (a 3) H :=
  have h1 : codeP PP CC (subC (bodyC PP 18) [1, 1, 1]) (m_vect_Get_K K) a H = codeP PP CC (subC (bodyC PP 18) [1, 1, 1, 0]) (exP (codeP PP CC (subC (bodyC PP 18) [1, 1, 1, 1]) (m_vect_Get_K K)) (m_vect_Get_K K)) a H := by kernel_rfl
  have h2 : codeP PP CC (subC (bodyC PP 18) [1, 1, 1, 0]) (exP (codeP PP CC (subC (bodyC PP 18) [1, 1, 1, 1]) (m_vect_Get_K K)) (m_vect_Get_K K)) a H = codeP PP CC (subC (bodyC PP 18) [1, 1, 1, 0]) (exP (fun (a : TE) (H : AH) => m_vect_Gettttth K (a 0) (a 4) (a 5) H) (m_vect_Get_K K)) a H := congrArg (fun k : KE => codeP PP CC (subC (bodyC PP 18) [1, 1, 1, 0]) (exP k (m_vect_Get_K K)) a H) (funext fun a => funext fun H => m_vect_Gettttt_eq K a H)
  have h2b : codeP PP CC (subC (bodyC PP 18) [1, 1, 1, 0]) (exP (fun (a : TE) (H : AH) => m_vect_Gettttth K (a 0) (a 4) (a 5) H) (m_vect_Get_K K)) a H = codeP PP CC (subC (bodyC PP 18) [1, 1, 1, 0]) (m_vect_Getttt_k K) a H := by kernel_rfl
  have h3 : codeP PP CC (subC (bodyC PP 18) [1, 1, 1, 0]) (m_vect_Getttt_k K) a H = m_vect_Getttt K (a 0) (a 3) H := by kernel_rfl
  ((h1.trans h2).trans h2b).trans h3
abbrev m_vect_Gettt_k (K : AV → AH → Prop) : KP := exP (fun (a : TE) (H : AH) => m_vect_Getttt K (a 0) (a 3) H) (m_vect_Get_K K)
def m_vect_Gettt (K : AV → AH → Prop) (x0 x3 : AV) (H : AH) : Prop :=
  outP CC H (some (.enter 31 [x0])) fun v1 H1 =>
  outP CC H1 (w_int .neq H1 v1 (.int .i64 0)) fun v2 H2 =>
  guardP (boolIs false v2) H2 (outP CC H2 (some (.val x3 H2))) fun v3 H3 =>
  guardP (boolIs false v2) H3 (outP CC H3 (w_int .lss H3 v3 (.int .i64 0))) fun v4 H4 =>
  outP CC H4 (w_pick H4 v2 (.bool true) v4) fun v5 H5 =>
  guardP (boolIs false v5) H5 (outP CC H5 (some (.val x3 H5))) fun v6 H6 =>
  guardP (boolIs false v5) H6 (outP CC H6 (w_int .gtr H6 v6 (.int .i64 8))) fun v7 H7 =>
  outP CC H7 (w_pick H7 v5 (.bool true) v7) fun v8 H8 =>
  condP v8
  (K (.slice none 0 0 true) H8)
  (m_vect_Getttt K x0 x3 H8)
theorem m_vect_Gettt_eq (K : AV → AH → Prop) (a : TE) (H : AH) : codeP PP CC (subC (bodyC PP 18) [1, 1]) (m_vect_Get_K K) a H = m_vect_Gettt K (a 0) (a 3) H :=
  have h1 : codeP PP CC (subC (bodyC PP 18) [1, 1]) (m_vect_Get_K K) a H = codeP PP CC (subC (bodyC PP 18) [1, 1, 0]) (exP (codeP PP CC (subC (bodyC PP 18) [1, 1, 1]) (m_vect_Get_K K)) (m_vect_Get_K K)) a H := by kernel_rfl
  have h2 : codeP PP CC (subC (bodyC PP 18) [1, 1, 0]) (exP (codeP PP CC (subC (bodyC PP 18) [1, 1, 1]) (m_vect_Get_K K)) (m_vect_Get_K K)) a H = codeP PP CC (subC (bodyC PP 18) [1, 1, 0]) (exP (fun (a : TE) (H : AH) => m_vect_Getttt K (a 0) (a 3) H) (m_vect_Get_K K)) a H := congrArg (fun k : KE => codeP PP CC (subC (bodyC PP 18) [1, 1, 0]) (exP k (m_vect_Get_K K)) a H) (funext fun a => funext fun H => m_vect_Getttt_eq K a H)
  have h2b : codeP PP CC (subC (bodyC PP 18) [1, 1, 0]) (exP (fun (a : TE) (H : AH) => m_vect_Getttt K (a 0) (a 3) H) (m_vect_Get_K K)) a H = codeP PP CC (subC (bodyC PP 18) [1, 1, 0]) (m_vect_Gettt_k K) a H := by kernel_rfl
  have h3 : codeP PP CC (subC (bodyC PP 18) [1, 1, 0]) (m_vect_Gettt_k K) a H = m_vect_Gettt K (a 0) (a 3) H := by kernel_rfl
  ((h1.trans h2).trans h2b).trans h3
abbrev m_vect_Gett_k (K : AV → AH → Prop) : KP := exP (fun (a : TE) (H : AH) => m_vect_Gettt K (a 0) (a 3) H) (m_vect_Get_K K)
def m_vect_Gett (K : AV → AH → Prop) (x0 : AV) (H : AH) : Prop :=
  outP CC H (some (.enter 19 [x0])) fun v1 H1 =>
  m_vect_Gettt K x0 v1 H1
theorem m_vect_Gett_eq (K : AV → AH → Prop) (a : TE) (H : AH) : codeP PP CC (subC (bodyC PP 18) [1]) (m_vect_Get_K K) a H = m_vect_Gett K (a 0) H :=
  have h1 : codeP PP CC (subC (bodyC PP 18) [1]) (m_vect_Get_K K) a H = codeP PP CC (subC (bodyC PP 18) [1, 0]) (exP (codeP PP CC (subC (bodyC PP 18) [1, 1]) (m_vect_Get_K K)) (m_vect_Get_K K)) a H := by kernel_rfl
  have h2 : codeP PP CC (subC (bodyC PP 18) [1, 0]) (exP (codeP PP CC (subC (bodyC PP 18) [1, 1]) (m_vect_Get_K K)) (m_vect_Get_K K)) a H = codeP PP CC (subC (bodyC PP 18) [1, 0]) (exP (fun (a : TE) (H : AH) => m_vect_Gettt K (a 0) (a 3) H) (m_vect_Get_K K)) a H := congrArg (fun k : KE => codeP PP CC (subC (bodyC PP 18) [1, 0]) (exP k (m_vect_Get_K K)) a H) (funext fun a => funext fun H => m_vect_Gettt_eq K a H)
  have h2b : codeP PP CC (subC (bodyC PP 18) [1, 0]) (exP (fun (a : TE) (H : AH) => m_vect_Gettt K (a 0) (a 3) H) (m_vect_Get_K K)) a H = codeP PP CC (subC (bodyC PP 18) [1, 0]) (m_vect_Gett_k K) a H := by kernel_rfl
  have h3 : codeP PP CC (subC (bodyC PP 18) [1, 0]) (m_vect_Gett_k K) a H = m_vect_Gett K (a 0) H := by kernel_rfl
  ((h1.trans h2).trans h2b).trans h3
abbrev m_vect_Get_k (K : AV → AH → Prop) : KP := exP (fun (a : TE) (H : AH) => m_vect_Gett K (a 0) H) (m_vect_Get_K K)
def m_vect_Get (K : AV → AH → Prop) (x0 : AV) (H : AH) : Prop :=
  m_vect_Gett K x0 H
theorem m_vect_Get_eq (K : AV → AH → Prop) (a : TE) (H : AH) : codeP PP CC (subC (bodyC PP 18) []) (m_vect_Get_K K) a H = m_vect_Get K (a 0) H :=
  have h1 : codeP PP CC (subC (bodyC PP 18) []) (m_vect_Get_K K) a H = codeP PP CC (subC (bodyC PP 18) [0]) (exP (codeP PP CC (subC (bodyC PP 18) [1]) (m_vect_Get_K K)) (m_vect_Get_K K)) a H := by kernel_rfl
  have h2 : codeP PP CC (subC (bodyC PP 18) [0]) (exP (codeP PP CC (subC (bodyC PP 18) [1]) (m_vect_Get_K K)) (m_vect_Get_K K)) a H = codeP PP CC (subC (bodyC PP 18) [0]) (exP (fun (a : TE) (H : AH) => m_vect_Gett K (a 0) H) (m_vect_Get_K K)) a H := congrArg (fun k : KE => codeP PP CC (subC (bodyC PP 18) [0]) (exP k (m_vect_Get_K K)) a H) (funext fun a => funext fun H => m_vect_Gett_eq K a H)
  have h2b : codeP PP CC (subC (bodyC PP 18) [0]) (exP (fun (a : TE) (H : AH) => m_vect_Gett K (a 0) H) (m_vect_Get_K K)) a H = codeP PP CC (subC (bodyC PP 18) [0]) (m_vect_Get_k K) a H := by kernel_rfl
  have h3 : codeP PP CC (subC (bodyC PP 18) [0]) (m_vect_Get_k K) a H = m_vect_Get K (a 0) H := by kernel_rfl
  ((h1.trans h2).trans h2b).trans h3
theorem m_vect_Get_ok (x0 : AV) (H : AH) (K : AV → AH → Prop) (h : m_vect_Get K x0 H) : CC.call 18 [x0] H K :=
  have h1 : funP PP CC 18 [x0] H K = codeP PP CC (subC (bodyC PP 18) []) (m_vect_Get_K K) (argE [x0]) H := by kernel_rfl
  have h2 : m_vect_Get K (argE [x0] 0) H = m_vect_Get K x0 H := by kernel_rfl
  funP_ok (P := PP) (by kernel_rfl) (by kernel_rfl) ((h1.trans ((m_vect_Get_eq K (argE [x0]) H).trans h2)).mpr h)

/-! 19: (*fieldfare/bin.Reader).Int -/
abbrev m_bin_Reader_Int_K (K : AV → AH → Prop) : KP := finP PP (resC PP 19) K
def m_bin_Reader_Intttttttt (K : AV → AH → Prop) (x0 x3 x4 : AV) (H : AH) : Prop :=
  outP CC H (some (.enter 48 [x4])) fun v1 H1 =>
  outP CC H1 (w_int .neq H1 v1 x3) fun v2 H2 =>
  condP v2
  (outP CC H2 (w_nil H2 x0) fun v3 H3 =>
  outP CC H3 (w_fieldAddr 1 H3 v3) fun v4 H4 =>
  outP CC H4 (w_store 1 H4 v4 (.bool true)) fun _v5 H5 =>
  K (.int .i64 0) H5)
  (outP CC H2 (w_nil H2 x0) fun v6 H6 =>
  outP CC H6 (w_fieldAddr 0 H6 v6) fun v7 H7 =>
  outP CC H7 (w_load none H7 v7) fun v8 H8 =>
  outP CC H8 (w_int .add H8 (.int .i64 1) x3) fun v9 H9 =>
  outP CC H9 (w_slice (.sl 1) false false H9 v8 (some v9) none none) fun v10 H10 =>
  outP CC H10 (w_nil H10 x0) fun v11 H11 =>
  outP CC H11 (w_fieldAddr 0 H11 v11) fun v12 H12 =>
  outP CC H12 (w_store 1 H12 v12 v10) fun _v13 H13 =>
  K x4 H13)
theorem m_bin_Reader_Intttttttt_eq (K : AV → AH → Prop) (a : TE) (H : AH) : codeP PP CC (subC (bodyC PP 19) [1, 1, 1, 1, 1, 1, 1]) (m_bin_Reader_Int_K K) a H = m_bin_Reader_Intttttttt K (a 0) (a 3) (a 4) H :=
  by kernel_rfl
abbrev m_bin_Reader_Inttttttt_k (K : AV → AH → Prop) : KP := exP (fun (a : TE) (H : AH) => m_bin_Reader_Intttttttt K (a 0) (a 3) (a 4) H) (m_bin_Reader_Int_K K)
def m_bin_Reader_Inttttttt (K : AV → AH → Prop) (x0 x3 x4 : AV) (H : AH) : Prop :=
  outP CC H (w_int .gtr H x3 (.int .i64 0)) fun v1 H1 =>
  condP v1
  (outP CC H1 (w_int .sub H1 (.int .i64 8) x3) fun v2 H2 =>
  outP CC H2 (w_int .mul H2 (.int .i64 8) v2) fun v3 H3 =>
  outP CC H3 (w_sh .shl H3 x4 v3) fun v4 H4 =>
  outP CC H4 (w_int .sub H4 (.int .i64 8) x3) fun v5 H5 =>
  outP CC H5 (w_int .mul H5 (.int .i64 8) v5) fun v6 H6 =>
  outP CC H6 (w_sh .shr H6 v4 v6) fun v7 H7 =>
  m_bin_Reader_Intttttttt K x0 x3 v7 H7)
  (m_bin_Reader_Intttttttt K x0 x3 x4 H1)
theorem m_bin_Reader_Inttttttt_eq (K : AV → AH → Prop) (a : TE) (H : AH) : codeP PP CC (subC (bodyC PP 19) [1, 1, 1, 1, 1, 1]) (m_bin_Reader_Int_K K) a H = m_bin_Reader_Inttttttt K (a 0) (a 3) (a 4) H :=
  have h1 : codeP PP CC (subC (bodyC PP 19) [1, 1, 1, 1, 1, 1]) (m_bin_Reader_Int_K K) a H = codeP PP CC (subC (bodyC PP 19) [1, 1, 1, 1, 1, 1, 0]) (exP (codeP PP CC (subC (bodyC PP 19) [1, 1, 1, 1, 1, 1, 1]) (m_bin_Reader_Int_K K)) (m_bin_Reader_Int_K K)) a H := by kernel_rfl
  have h2 : codeP PP CC (subC (bodyC PP 19) [1, 1, 1, 1, 1, 1, 0]) (exP (codeP PP CC (subC (bodyC PP 19) [1, 1, 1, 1, 1, 1, 1]) (m_bin_Reader_Int_K K)) (m_bin_Reader_Int_K K)) a H = codeP PP CC (subC (bodyC PP 19) [1, 1, 1, 1, 1, 1, 0]) (exP (fun (a : TE) (H : AH) => m_bin_Reader_Intttttttt K (a 0) (a 3) (a 4) H) (m_bin_Reader_Int_K K)) a H := congrArg (fun k : KE => codeP PP CC (subC (bodyC PP 19) [1, 1, 1, 1, 1, 1, 0]) (exP k (m_bin_Reader_Int_K K)) a H) (funext fun a => funext fun H => m_bin_Reader_Intttttttt_eq K a H)
  have h2b : codeP PP CC (subC (bodyC PP 19) [1, 1, 1, 1, 1, 1, 0]) (exP (fun (a : TE) (H : AH) => m_bin_Reader_Intttttttt K (a 0) (a 3) (a 4) H) (m_bin_Reader_Int_K K)) a H = codeP PP CC (subC (bodyC PP 19) [1, 1, 1, 1, 1, 1, 0]) (m_bin_Reader_Inttttttt_k K) a H := by kernel_rfl
  have h3 : codeP PP CC (subC (bodyC PP 19) [1, 1, 1, 1, 1, 1, 0]) (m_bin_Reader_Inttttttt_k K) a H = m_bin_Reader_Inttttttt K (a 0) (a 3) (a 4) H := by kernel_rfl
  ((h1.trans h2).trans h2b).trans h3
abbrev m_bin_Reader_Intttttt_k (K : AV → AH → Prop) : KP := exP (fun (a : TE) (H : AH) => m_bin_Reader_Inttttttt K (a 0) (a 3) (a 4) H) (m_bin_Reader_Int_K K)
abbrev m_bin_Reader_Inttttttht_k (K : AV → AH → Prop) : KP := blockP 0 (m_bin_Reader_Intttttt_k K)
abbrev m_bin_Reader_Intttttthtb_k (K : AV → AH → Prop) (r0 : (AV × AV × AV × AV × AV) → AH → Prop) : KP := exP (fun (a : TE) (H : AH) => r0 (a 0, a 3, a 4, a 49, a 50) H) (m_bin_Reader_Inttttttht_k K)
def m_bin_Reader_Intttttthtbl (K : AV → AH → Prop) (r0 : (AV × AV × AV × AV × AV) → AH → Prop) (x0 x3 x4 x49 x50 : AV) (H : AH) : Prop :=
  outP CC H (w_int .lss H x50 x49) fun v1 H1 =>
  condP v1
  (outP CC H1 (w_nil H1 x0) fun v2 H2 =>
  outP CC H2 (w_fieldAddr 0 H2 v2) fun v3 H3 =>
  outP CC H3 (w_load none H3 v3) fun v4 H4 =>
  outP CC H4 (w_int .add H4 (.int .i64 1) x50) fun v5 H5 =>
  outP CC H5 (w_indexAddr (.sl 1) H5 v4 v5) fun v6 H6 =>
  outP CC H6 (w_load none H6 v6) fun v7 H7 =>
  outP CC H7 (w_conv (.int .i64) H7 v7 none) fun v8 H8 =>
  outP CC H8 (w_int .mul H8 (.int .i64 8) x50) fun v9 H9 =>
  outP CC H9 (w_sh .shl H9 v8 v9) fun v10 H10 =>
  outP CC H10 (w_int .or H10 x4 v10) fun v11 H11 =>
  outP CC H11 (w_int .add H11 x50 (.int .i64 1)) fun v12 H12 =>
  r0 (x0, x3, v11, x49, v12) H12)
  (m_bin_Reader_Inttttttt K x0 x3 x4 H1)
theorem m_bin_Reader_Intttttthtbl_eq (K : AV → AH → Prop) (r0 : (AV × AV × AV × AV × AV) → AH → Prop) (a : TE) (H : AH) : codeP PP CC (subC (bodyC PP 19) [1, 1, 1, 1, 1, 0, 1, 0, 0]) (m_bin_Reader_Intttttthtb_k K r0) a H = m_bin_Reader_Intttttthtbl K r0 (a 0) (a 3) (a 4) (a 49) (a 50) H :=
  by kernel_rfl
def m_bin_Reader_Intttttthtb (K : AV → AH → Prop) (x0 x3 x4 x49 x50 : AV) (H : AH) : Prop :=
  loopP (fun (r0 : (AV × AV × AV × AV × AV) → AH → Prop) (s : (AV × AV × AV × AV × AV)) (H : AH) => m_bin_Reader_Intttttthtbl K r0 s.1 s.2.1 s.2.2.1 s.2.2.2.1 s.2.2.2.2 H) (x0, x3, x4, x49, x50) H
theorem m_bin_Reader_Intttttthtb_eq (K : AV → AH → Prop) (a : TE) (H : AH) : codeP PP CC (subC (bodyC PP 19) [1, 1, 1, 1, 1, 0, 1, 0]) (m_bin_Reader_Inttttttht_k K) a H = m_bin_Reader_Intttttthtb K (a 0) (a 3) (a 4) (a 49) (a 50) H :=
  have h1 : codeP PP CC (subC (bodyC PP 19) [1, 1, 1, 1, 1, 0, 1, 0]) (m_bin_Reader_Inttttttht_k K) a H = loopP (fun (rec : KE) => codeP PP CC (subC (bodyC PP 19) [1, 1, 1, 1, 1, 0, 1, 0, 0]) (exP rec (m_bin_Reader_Inttttttht_k K))) a H := by kernel_rfl
  have h2 := loopP_iso (F := fun (rec : KE) => codeP PP CC (subC (bodyC PP 19) [1, 1, 1, 1, 1, 0, 1, 0, 0]) (exP rec (m_bin_Reader_Inttttttht_k K))) (S := (AV × AV × AV × AV × AV)) (fun a => (a 0, a 3, a 4, a 49, a 50)) (fun (r0 : (AV × AV × AV × AV × AV) → AH → Prop) (s : (AV × AV × AV × AV × AV)) (H : AH) => m_bin_Reader_Intttttthtbl K r0 s.1 s.2.1 s.2.2.1 s.2.2.2.1 s.2.2.2.2 H) (fun (r0 : (AV × AV × AV × AV × AV) → AH → Prop) (a : TE) (H : AH) => (show codeP PP CC (subC (bodyC PP 19) [1, 1, 1, 1, 1, 0, 1, 0, 0]) (exP (fun (a : TE) (H : AH) => r0 (a 0, a 3, a 4, a 49, a 50) H) (m_bin_Reader_Inttttttht_k K)) a H = codeP PP CC (subC (bodyC PP 19) [1, 1, 1, 1, 1, 0, 1, 0, 0]) (m_bin_Reader_Intttttthtb_k K r0) a H from by kernel_rfl).trans (m_bin_Reader_Intttttthtbl_eq K r0 a H)) a H
  h1.trans h2
theorem m_bin_Reader_Inttttttht_eq (K : AV → AH → Prop) (a : TE) (H : AH) : codeP PP CC (subC (bodyC PP 19) [1, 1, 1, 1, 1, 0, 1]) (m_bin_Reader_Intttttt_k K) a H = m_bin_Reader_Intttttthtb K (a 0) (a 3) (a 4) (a 49) (a 50) H :=
  have h1 : codeP PP CC (subC (bodyC PP 19) [1, 1, 1, 1, 1, 0, 1]) (m_bin_Reader_Intttttt_k K) a H = codeP PP CC (subC (bodyC PP 19) [1, 1, 1, 1, 1, 0, 1, 0]) (m_bin_Reader_Inttttttht_k K) a H := by kernel_rfl
  h1.trans (m_bin_Reader_Intttttthtb_eq K a H)
abbrev m_bin_Reader_Intttttth_k (K : AV → AH → Prop) : KP := exP (fun (a : TE) (H : AH) => m_bin_Reader_Intttttthtb K (a 0) (a 3) (a 4) (a 49) (a 50) H) (m_bin_Reader_Intttttt_k K)
def m_bin_Reader_Intttttth (K : AV → AH → Prop) (x0 x3 x4 : AV) (H : AH) : Prop :=
  m_bin_Reader_Intttttthtb K x0 x3 x4 x3 (.int .i64 0) H
theorem m_bin_Reader_Intttttth_eq (K : AV → AH → Prop) (a : TE) (H : AH) : codeP PP CC (subC (bodyC PP 19) [1, 1, 1, 1, 1, 0]) (m_bin_Reader_Intttttt_k K) a H = m_bin_Reader_Intttttth K (a 0) (a 3) (a 4) H :=
  have h1 : codeP PP CC (subC (bodyC PP 19) [1, 1, 1, 1, 1, 0]) (m_bin_Reader_Intttttt_k K) a H = codeP PP CC (subC (bodyC PP 19) [1, 1, 1, 1, 1, 0, 0]) (exP (codeP PP CC (subC (bodyC PP 19) [1, 1, 1, 1, 1, 0, 1]) (m_bin_Reader_Intttttt_k K)) (m_bin_Reader_Intttttt_k K)) a H := by kernel_rfl
  have h2 : codeP PP CC (subC (bodyC PP 19) [1, 1, 1, 1, 1, 0, 0]) (exP (codeP PP CC (subC (bodyC PP 19) [1, 1, 1, 1, 1, 0, 1]) (m_bin_Reader_Intttttt_k K)) (m_bin_Reader_Intttttt_k K)) a H = codeP PP CC (subC (bodyC PP 19) [1, 1, 1, 1, 1, 0, 0]) (exP (fun (a : TE) (H : AH) => m_bin_Reader_Intttttthtb K (a 0) (a 3) (a 4) (a 49) (a 50) H) (m_bin_Reader_Intttttt_k K)) a H := congrArg (fun k : KE => codeP PP CC (subC (bodyC PP 19) [1, 1, 1, 1, 1, 0, 0]) (exP k (m_bin_Reader_Intttttt_k K)) a H) (funext fun a => funext fun H => m_bin_Reader_Inttttttht_eq K a H)
  have h2b : codeP PP CC (subC (bodyC PP 19) [1, 1, 1, 1, 1, 0, 0]) (exP (fun (a : TE) (H : AH) => m_bin_Reader_Intttttthtb K (a 0) (a 3) (a 4) (a 49) (a 50) H) (m_bin_Reader_Intttttt_k K)) a H = codeP PP CC (subC (bodyC PP 19) [1, 1, 1, 1, 1, 0, 0]) (m_bin_Reader_Intttttth_k K) a H := by kernel_rfl
  have h3 : codeP PP CC (subC (bodyC PP 19) [1, 1, 1, 1, 1, 0, 0]) (m_bin_Reader_Intttttth_k K) a H = m_bin_Reader_Intttttth K (a 0) (a 3) (a 4) H := by kernel_rfl
  ((h1.trans h2).trans h2b).trans h3
theorem m_bin_Reader_Intttttt_eq (K : AV → AH → Prop) (a : TE) (H : AH) : codeP PP CC (subC (bodyC PP 19) [1, 1, 1, 1, 1]) (m_bin_Reader_Int_K K) a H = m_bin_Reader_Intttttth K (a 0) (a 3) (a 4) H :=
  have h1 : codeP PP CC (subC (bodyC PP 19) [1, 1, 1, 1, 1]) (m_bin_Reader_Int_K K) a H = codeP PP CC (subC (bodyC PP 19) [1, 1, 1, 1, 1, 0]) (exP (codeP PP CC (subC (bodyC PP 19) [1, 1, 1, 1, 1, 1]) (m_bin_Reader_Int_K K)) (m_bin_Reader_Int_K K)) a H := by kernel_rfl
  have h2 : codeP PP CC (subC (bodyC PP 19) [1, 1, 1, 1, 1, 0]) (exP (codeP PP CC (subC (bodyC PP 19) [1, 1, 1, 1, 1, 1]) (m_bin_Reader_Int_K K)) (m_bin_Reader_Int_K K)) a H = codeP PP CC (subC (bodyC PP 19) [1, 1, 1, 1, 1, 0]) (exP (fun (a : TE) (H : AH) => m_bin_Reader_Inttttttt K (a 0) (a 3) (a 4) H) (m_bin_Reader_Int_K K)) a H := congrArg (fun k : KE => codeP PP CC (subC (bodyC PP 19) [1, 1, 1, 1, 1, 0]) (exP k (m_bin_Reader_Int_K K)) a H) (funext fun a => funext fun H => m_bin_Reader_Inttttttt_eq K a H)
  have h2b : codeP PP CC (subC (bodyC PP 19) [1, 1, 1, 1, 1, 0]) (exP (fun (a : TE) (H : AH) => m_bin_Reader_Inttttttt K (a 0) (a 3) (a 4) H) (m_bin_Reader_Int_K K)) a H = codeP PP CC (subC (bodyC PP 19) [1, 1, 1, 1, 1, 0]) (m_bin_Reader_Intttttt_k K) a H := by kernel_rfl
  ((h1.trans h2).trans h2b).trans (m_bin_Reader_Intttttth_eq K a H)
abbrev m_bin_Reader_Inttttt_k (K : AV → AH → Prop) : KP := exP (fun (a : TE) (H : AH) => m_bin_Reader_Intttttth K (a 0) (a 3) (a 4) H) (m_bin_Reader_Int_K K)
def m_bin_Reader_Inttttt (K : AV → AH → Prop) (x0 x3 : AV) (H : AH) : Prop :=
  m_bin_Reader_Intttttth K x0 x3 (.int .i64 0) H
theorem m_bin_Reader_Inttttt_eq (K : AV → AH → Prop) (a : TE) (H : AH) : codeP PP CC (subC (bodyC PP 19) [1, 1, 1, 1]) (m_bin_Reader_Int_K K) a H = m_bin_Reader_Inttttt K (a 0) (a 3) H :=
  have h1 : codeP PP CC (subC (bodyC PP 19) [1, 1, 1, 1]) (m_bin_Reader_Int_K K) a H = codeP PP CC (subC (bodyC PP 19) [1, 1, 1, 1, 0]) (exP (codeP PP CC (subC (bodyC PP 19) [1, 1, 1, 1, 1]) (m_bin_Reader_Int_K K)) (m_bin_Reader_Int_K K)) a H := by kernel_rfl
  have h2 : codeP PP CC (subC (bodyC PP 19) [1, 1, 1, 1, 0]) (exP (codeP PP CC (subC (bodyC PP 19) [1, 1, 1, 1, 1]) (m_bin_Reader_Int_K K)) (m_bin_Reader_Int_K K)) a H = codeP PP CC (subC (bodyC PP 19) [1, 1, 1, 1, 0]) (exP (fun (a : TE) (H : AH) => m_bin_Reader_Intttttth K (a 0) (a 3) (a 4) H) (m_bin_Reader_Int_K K)) a H := congrArg (fun k : KE => codeP PP CC (subC (bodyC PP 19) [1, 1, 1, 1, 0]) (exP k (m_bin_Reader_Int_K K)) a H) (funext fun a => funext fun H => m_bin_Reader_Intttttt_eq K a H)
  have h2b : codeP PP CC (subC (bodyC PP 19) [1, 1, 1, 1, 0]) (exP (fun (a : TE) (H : AH) => m_bin_Reader_Intttttth K (a 0) (a 3) (a 4) H) (m_bin_Reader_Int_K K)) a H = codeP PP CC (subC (bodyC PP 19) [1, 1, 1, 1, 0]) (m_bin_Reader_Inttttt_k K) a H := by kernel_rfl
  have h3 : codeP PP CC (subC (bodyC PP 19) [1, 1, 1, 1, 0]) (m_bin_Reader_Inttttt_k K) a H = m_bin_Reader_Inttttt K (a 0) (a 3) H := by kernel_rfl
  ((h1.trans h2).trans h2b).trans h3
abbrev m_bin_Reader_Intttt_k (K : AV → AH → Prop) : KP := exP (fun (a : TE) (H : AH) => m_bin_Reader_Inttttt K (a 0) (a 3) H) (m_bin_Reader_Int_K K)
def m_bin_Reader_Intttt (K : AV → AH → Prop) (x0 : AV) (H : AH) : Prop :=
  outP CC H (w_nil H x0) fun v1 H1 =>
  outP CC H1 (w_fieldAddr 0 H1 v1) fun v2 H2 =>
  outP CC H2 (w_load none H2 v2) fun v3 H3 =>
  outP CC H3 (w_indexAddr (.sl 1) H3 v3 (.int .i64 0)) fun v4 H4 =>
  outP CC H4 (w_load none H4 v4) fun v5 H5 =>
  outP CC H5 (w_conv (.int .i64) H5 v5 none) fun v6 H6 =>
  m_bin_Reader_Inttttt K x0 v6 H6
theorem m_bin_Reader_Intttt_eq (K : AV → AH → Prop) (a : TE) (H : AH) : codeP PP CC (subC (bodyC PP 19) [1, 1, 1]) (m_bin_Reader_Int_K K) a H = m_bin_Reader_Intttt K (a 0) H :=
  have h1 : codeP PP CC (subC (bodyC PP 19) [1, 1, 1]) (m_bin_Reader_Int_K K) a H = codeP PP CC (subC (bodyC PP 19) [1, 1, 1, 0]) (exP (codeP PP CC (subC (bodyC PP 19) [1, 1, 1, 1]) (m_bin_Reader_Int_K K)) (m_bin_Reader_Int_K K)) a H := by kernel_rfl
  have h2 : codeP PP CC (subC (bodyC PP 19) [1, 1, 1, 0]) (exP (codeP PP CC (subC (bodyC PP 19) [1, 1, 1, 1]) (m_bin_Reader_Int_K K)) (m_bin_Reader_Int_K K)) a H = codeP PP CC (subC (bodyC PP 19) [1, 1, 1, 0]) (exP (fun (a : TE) (H : AH) => m_bin_Reader_Inttttt K (a 0) (a 3) H) (m_bin_Reader_Int_K K)) a H := congrArg (fun k : KE => codeP PP CC (subC (bodyC PP 19) [1, 1, 1, 0]) (exP k (m_bin_Reader_Int_K K)) a H) (funext fun a => funext fun H => m_bin_Reader_Inttttt_eq K a H)
  have h2b : codeP PP CC (subC (bodyC PP 19) [1, 1, 1, 0]) (exP (fun (a : TE) (H : AH) => m_bin_Reader_Inttttt K (a 0) (a 3) H) (m_bin_Reader_Int_K K)) a H = codeP PP CC (subC (bodyC PP 19) [1, 1, 1, 0]) (m_bin_Reader_Intttt_k K) a H := by kernel_rfl
  have h3 : codeP PP CC (subC (bodyC PP 19) [1, 1, 1, 0]) (m_bin_Reader_Intttt_k K) a H = m_bin_Reader_Intttt K (a 0) H := by kernel_rfl
  ((h1.trans h2).trans h2b).trans h3
abbrev m_bin_Reader_Inttt_k (K : AV → AH → Prop) : KP := exP (fun (a : TE) (H : AH) => m_bin_Reader_Intttt K (a 0) H) (m_bin_Reader_Int_K K)
def m_bin_Reader_Inttt (K : AV → AH → Prop) (x0 : AV) (H : AH) : Prop :=
  outP CC H (w_nil H x0) fun v1 H1 =>
  outP CC H1 (w_fieldAddr 0 H1 v1) fun v2 H2 =>
  outP CC H2 (w_load none H2 v2) fun v3 H3 =>
  outP CC H3 (w_len PP 29 H3 v3) fun v4 H4 =>
  outP CC H4 (w_int .eql H4 v4 (.int .i64 0)) fun v5 H5 =>
  guardP (boolIs false v5) H5 (outP CC H5 (some (.val x0 H5))) fun v6 H6 =>
  guardP (boolIs false v5) H6 (outP CC H6 (w_nil H6 v6)) fun v7 H7 =>
  guardP (boolIs false v5) H7 (outP CC H7 (w_fieldAddr 0 H7 v7)) fun v8 H8 =>
  guardP (boolIs false v5) H8 (outP CC H8 (w_load none H8 v8)) fun v9 H9 =>
  guardP (boolIs false v5) H9 (outP CC H9 (w_indexAddr (.sl 1) H9 v9 (.int .i64 0))) fun v10 H10 =>
  guardP (boolIs false v5) H10 (outP CC H10 (w_load none H10 v10)) fun v11 H11 =>
  guardP (boolIs false v5) H11 (outP CC H11 (w_int .gtr H11 v11 (.int .u8 8))) fun v12 H12 =>
  outP CC H12 (w_pick H12 v5 (.bool true) v12) fun v13 H13 =>
  guardP (boolIs false v13) H13 (outP CC H13 (some (.val x0 H13))) fun v14 H14 =>
  guardP (boolIs false v13) H14 (outP CC H14 (w_nil H14 v14)) fun v15 H15 =>
  guardP (boolIs false v13) H15 (outP CC H15 (w_fieldAddr 0 H15 v15)) fun v16 H16 =>
  guardP (boolIs false v13) H16 (outP CC H16 (w_load none H16 v16)) fun v17 H17 =>
  guardP (boolIs false v13) H17 (outP CC H17 (w_len PP 29 H17 v17)) fun v18 H18 =>
  guardP (boolIs false v13) H18 (outP CC H18 (some (.val x0 H18))) fun v19 H19 =>
  guardP (boolIs false v13) H19 (outP CC H19 (w_nil H19 v19)) fun v20 H20 =>
  guardP (boolIs false v13) H20 (outP CC H20 (w_fieldAddr 0 H20 v20)) fun v21 H21 =>
  guardP (boolIs false v13) H21 (outP CC H21 (w_load none H21 v21)) fun v22 H22 =>
  guardP (boolIs false v13) H22 (outP CC H22 (w_indexAddr (.sl 1) H22 v22 (.int .i64 0))) fun v23 H23 =>
  guardP (boolIs false v13) H23 (outP CC H23 (w_load none H23 v23)) fun v24 H24 =>
  guardP (boolIs false v13) H24 (outP CC H24 (w_conv (.int .i64) H24 v24 none)) fun v25 H25 =>
  guardP (boolIs false v13) H25 (outP CC H25 (w_int .leq H25 v18 v25)) fun v26 H26 =>
  outP CC H26 (w_pick H26 v13 (.bool true) v26) fun v27 H27 =>
  condP v27
  (outP CC H27 (w_nil H27 x0) fun v28 H28 =>
  outP CC H28 (w_fieldAddr 1 H28 v28) fun v29 H29 =>
  outP CC H29 (w_store 1 H29 v29 (.bool true)) fun _v30 H30 =>
  K (.int .i64 0) H30)
  (m_bin_Reader_Intttt K x0 H27)
theorem m_bin_Reader_Inttt_eq (K : AV → AH → Prop) (a : TE) (H : AH) : codeP PP CC (subC (bodyC PP 19) [1, 1]) (m_bin_Reader_Int_K K) a H = m_bin_Reader_Inttt K (a 0) H :=
  have h1 : codeP PP CC (subC (bodyC PP 19) [1, 1]) (m_bin_Reader_Int_K K) a H = codeP PP CC (subC (bodyC PP 19) [1, 1, 0]) (exP (codeP PP CC (subC (bodyC PP 19) [1, 1, 1]) (m_bin_Reader_Int_K K)) (m_bin_Reader_Int_K K)) a H := by kernel_rfl
  have h2 : codeP PP CC (subC (bodyC PP 19) [1, 1, 0]) (exP (codeP PP CC (subC (bodyC PP 19) [1, 1, 1]) (m_bin_Reader_Int_K K)) (m_bin_Reader_Int_K K)) a H = codeP PP CC (subC (bodyC PP 19) [1, 1, 0]) (exP (fun (a : TE) (H : AH) => m_bin_Reader_Intttt K (a 0) H) (m_bin_Reader_Int_K K)) a H := congrArg (fun k : KE => codeP PP CC (subC (bodyC PP 19) [1, 1, 0]) (exP k (m_bin_Reader_Int_K K)) a H) (funext fun a => funext fun H => m_bin_Reader_Intttt_eq K a H)
  have h2b : codeP PP CC (subC (bodyC PP 19) [1, 1, 0]) (exP (fun (a : TE) (H : AH) => m_bin_Reader_Intttt K (a 0) H) (m_bin_Reader_Int_K K)) a H = codeP PP CC (subC (bodyC PP 19) [1, 1, 0]) (m_bin_Reader_Inttt_k K) a H := by kernel_rfl
  have h3 : codeP PP CC (subC (bodyC PP 19) [1, 1, 0]) (m_bin_Reader_Inttt_k K) a H = m_bin_Reader_Inttt K (a 0) H := by kernel_rfl
  ((h1.trans h2).trans h2b).trans h3
abbrev m_bin_Reader_Intt_k (K : AV → AH → Prop) : KP := exP (fun (a : TE) (H : AH) => m_bin_Reader_Inttt K (a 0) H) (m_bin_Reader_Int_K K)
def m_bin_Reader_Intt (K : AV → AH → Prop) (x0 : AV) (H : AH) : Prop :=
  outP CC H (some (.enter 31 [x0])) fun v1 H1 =>
  outP CC H1 (w_int .neq H1 v1 (.int .i64 0)) fun v2 H2 =>
  condP v2
  (K (.int .i64 0) H2)
  (m_bin_Reader_Inttt K x0 H2)
theorem m_bin_Reader_Intt_eq (K : AV → AH → Prop) (a : TE) (H : AH) : codeP PP CC (subC (bodyC PP 19) [1]) (m_bin_Reader_Int_K K) a H = m_bin_Reader_Intt K (a 0) H :=
  have h1 : codeP PP CC (subC (bodyC PP 19) [1]) (m_bin_Reader_Int_K K) a H = codeP PP CC (subC (bodyC PP 19) [1, 0]) (exP (codeP PP CC (subC (bodyC PP 19) [1, 1]) (m_bin_Reader_Int_K K)) (m_bin_Reader_Int_K K)) a H := by kernel_rfl
  have h2 : codeP PP CC (subC (bodyC PP 19) [1, 0]) (exP (codeP PP CC (subC (bodyC PP 19) [1, 1]) (m_bin_Reader_Int_K K)) (m_bin_Reader_Int_K K)) a H = codeP PP CC (subC (bodyC PP 19) [1, 0]) (exP (fun (a : TE) (H : AH) => m_bin_Reader_Inttt K (a 0) H) (m_bin_Reader_Int_K K)) a H := congrArg (fun k : KE => codeP PP CC (subC (bodyC PP 19) [1, 0]) (exP k (m_bin_Reader_Int_K K)) a H) (funext fun a => funext fun H => m_bin_Reader_Inttt_eq K a H)
  have h2b : codeP PP CC (subC (bodyC PP 19) [1, 0]) (exP (fun (a : TE) (H : AH) => m_bin_Reader_Inttt K (a 0) H) (m_bin_Reader_Int_K K)) a H = codeP PP CC (subC (bodyC PP 19) [1, 0]) (m_bin_Reader_Intt_k K) a H := by kernel_rfl
  have h3 : codeP PP CC (subC (bodyC PP 19) [1, 0]) (m_bin_Reader_Intt_k K) a H = m_bin_Reader_Intt K (a 0) H := by kernel_rfl
  ((h1.trans h2).trans h2b).trans h3
abbrev m_bin_Reader_Int_k (K : AV → AH → Prop) : KP := exP (fun (a : TE) (H : AH) => m_bin_Reader_Intt K (a 0) H) (m_bin_Reader_Int_K K)
def m_bin_Reader_Int (K : AV → AH → Prop) (x0 : AV) (H : AH) : Prop :=
  m_bin_Reader_Intt K x0 H
theorem m_bin_Reader_Int_eq (K : AV → AH → Prop) (a : TE) (H : AH) : codeP PP CC (subC (bodyC PP 19) []) (m_bin_Reader_Int_K K) a H = m_bin_Reader_Int K (a 0) H :=
  have h1 : codeP PP CC (subC (bodyC PP 19) []) (m_bin_Reader_Int_K K) a H = codeP PP CC (subC (bodyC PP 19) [0]) (exP (codeP PP CC (subC (bodyC PP 19) [1]) (m_bin_Reader_Int_K K)) (m_bin_Reader_Int_K K)) a H := by kernel_rfl
  have h2 : codeP PP CC (subC (bodyC PP 19) [0]) (exP (codeP PP CC (subC (bodyC PP 19) [1]) (m_bin_Reader_Int_K K)) (m_bin_Reader_Int_K K)) a H = codeP PP CC (subC (bodyC PP 19) [0]) (exP (fun (a : TE) (H : AH) => m_bin_Reader_Intt K (a 0) H) (m_bin_Reader_Int_K K)) a H := congrArg (fun k : KE => codeP PP CC (subC (bodyC PP 19) [0]) (exP k (m_bin_Reader_Int_K K)) a H) (funext fun a => funext fun H => m_bin_Reader_Intt_eq K a H)
  have h2b : codeP PP CC (subC (bodyC PP 19) [0]) (exP (fun (a : TE) (H : AH) => m_bin_Reader_Intt K (a 0) H) (m_bin_Reader_Int_K K)) a H = codeP PP CC (subC (bodyC PP 19) [0]) (m_bin_Reader_Int_k K) a H := by kernel_rfl
  have h3 : codeP PP CC (subC (bodyC PP 19) [0]) (m_bin_Reader_Int_k K) a H = m_bin_Reader_Int K (a 0) H := by kernel_rfl
  ((h1.trans h2).trans h2b).trans h3
theorem m_bin_Reader_Int_ok (x0 : AV) (H : AH) (K : AV → AH → Prop) (h : m_bin_Reader_Int K x0 H) : CC.call 19 [x0] H K :=
  have h1 : funP PP CC 19 [x0] H K = codeP PP CC (subC (bodyC PP 19) []) (m_bin_Reader_Int_K K) (argE [x0]) H := by kernel_rfl
  have h2 : m_bin_Reader_Int K (argE [x0] 0) H = m_bin_Reader_Int K x0 H := by kernel_rfl
  funP_ok (P := PP) (by kernel_rfl) (by kernel_rfl) ((h1.trans ((m_bin_Reader_Int_eq K (argE [x0]) H).trans h2)).mpr h)

/-! 20: (*fieldfare/bin.Reader).End -/
abbrev m_bin_Reader_End_K (K : AV → AH → Prop) : KP := finP PP (resC PP 20) K
def m_bin_Reader_End (K : AV → AH → Prop) (x0 : AV) (H : AH) : Prop :=
  outP CC H (some (.enter 31 [x0])) fun v1 H1 =>
  outP CC H1 (w_int .neq H1 v1 (.int .i64 0)) fun v2 H2 =>
  guardP (boolIs false v2) H2 (outP CC H2 (some (.val x0 H2))) fun v3 H3 =>
  guardP (boolIs false v2) H3 (outP CC H3 (w_nil H3 v3)) fun v4 H4 =>
  guardP (boolIs false v2) H4 (outP CC H4 (w_fieldAddr 0 H4 v4)) fun v5 H5 =>
  guardP (boolIs false v2) H5 (outP CC H5 (w_load none H5 v5)) fun v6 H6 =>
  guardP (boolIs false v2) H6 (outP CC H6 (w_len PP 29 H6 v6)) fun v7 H7 =>
  guardP (boolIs false v2) H7 (outP CC H7 (w_int .gtr H7 v7 (.int .i64 0))) fun v8 H8 =>
  outP CC H8 (w_pick H8 v2 (.bool true) v8) fun v9 H9 =>
  condP v9
  (K (.int .i64 1) H9)
  (K (.int .i64 0) H9)
theorem m_bin_Reader_End_eq (K : AV → AH → Prop) (a : TE) (H : AH) : codeP PP CC (subC (bodyC PP 20) []) (m_bin_Reader_End_K K) a H = m_bin_Reader_End K (a 0) H :=
  by kernel_rfl
theorem m_bin_Reader_End_ok (x0 : AV) (H : AH) (K : AV → AH → Prop) (h : m_bin_Reader_End K x0 H) : CC.call 20 [x0] H K :=
  have h1 : funP PP CC 20 [x0] H K = codeP PP CC (subC (bodyC PP 20) []) (m_bin_Reader_End_K K) (argE [x0]) H := by kernel_rfl
  have h2 : m_bin_Reader_End K (argE [x0] 0) H = m_bin_Reader_End K x0 H := by kernel_rfl
  funP_ok (P := PP) (by kernel_rfl) (by kernel_rfl) ((h1.trans ((m_bin_Reader_End_eq K (argE [x0]) H).trans h2)).mpr h)

/-! 31: (*fieldfare/bin.Reader).Err -/
abbrev m_bin_Reader_Err_K (K : AV → AH → Prop) : KP := finP PP (resC PP 31) K
def m_bin_Reader_Err (K : AV → AH → Prop) (x0 : AV) (H : AH) : Prop :=
  outP CC H (w_eq PP .eql 35 false true H x0 (.ptr none)) fun v1 H1 =>
  guardP (boolIs false v1) H1 (outP CC H1 (some (.val x0 H1))) fun v2 H2 =>
  guardP (boolIs false v1) H2 (outP CC H2 (w_nil H2 v2)) fun v3 H3 =>
  guardP (boolIs false v1) H3 (outP CC H3 (w_fieldAddr 1 H3 v3)) fun v4 H4 =>
  guardP (boolIs false v1) H4 (outP CC H4 (w_load none H4 v4)) fun v5 H5 =>
  outP CC H5 (w_pick H5 v1 (.bool true) v5) fun v6 H6 =>
  condP v6
  (K (.int .i64 1) H6)
  (K (.int .i64 0) H6)
theorem m_bin_Reader_Err_eq (K : AV → AH → Prop) (a : TE) (H : AH) : codeP PP CC (subC (bodyC PP 31) []) (m_bin_Reader_Err_K K) a H = m_bin_Reader_Err K (a 0) H :=
  by kernel_rfl
theorem m_bin_Reader_Err_ok (x0 : AV) (H : AH) (K : AV → AH → Prop) (h : m_bin_Reader_Err K x0 H) : CC.call 31 [x0] H K :=
  have h1 : funP PP CC 31 [x0] H K = codeP PP CC (subC (bodyC PP 31) []) (m_bin_Reader_Err_K K) (argE [x0]) H := by kernel_rfl
  have h2 : m_bin_Reader_Err K (argE [x0] 0) H = m_bin_Reader_Err K x0 H := by kernel_rfl
  funP_ok (P := PP) (by kernel_rfl) (by kernel_rfl) ((h1.trans ((m_bin_Reader_Err_eq K (argE [x0]) H).trans h2)).mpr h)

end
end Go.Ab
