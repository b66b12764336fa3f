/- What functions do, said as what the evaluator does. Printed by a program. -/
import Derived.Test.YtcehnjmpllhieaaGreatDoorBeg
import Derived.Test.YtcehnjmpllhieaaGreatDoorMir2
namespace Go.Ab
noncomputable section
open Go.Proofs
set_option maxRecDepth 100000



/-! 106: fieldfare/vect.Eq -/
abbrev bQ106 (p : List Nat) (k : KP) : KE := codeP PP CC (subC (bodyC PP 106) p) k
abbrev kQ106 (K : KT) : KP := finP PP (resC PP 106) K
def m_vect_Eq (K : KT) (x0 x1 : AV) (H : AH) : Prop :=
  outP CC H (some (.enter 194 [x0, x1])) fun v1 H1 =>
  K v1 H1
theorem eQ106_ (K : KT) (a : TE) (H : AH) : bQ106 [] (kQ106 K) a H = m_vect_Eq K (a 0) (a 1) H :=
  by kernel_rfl
theorem m_vect_Eq_ok (x0 x1 : AV) (H : AH) (K : KT) (h : m_vect_Eq K x0 x1 H) : CC.call 106 [x0, x1] H K :=
  have h1 : funP PP CC 106 [x0, x1] H K = bQ106 [] (kQ106 K) (argE [x0, x1]) H := by kernel_rfl
  have h2 : m_vect_Eq K (argE [x0, x1] 0) (argE [x0, x1] 1) H = m_vect_Eq K x0 x1 H := by kernel_rfl
  funP_ok (P := PP) (by kernel_rfl) (by kernel_rfl) ((h1.trans ((eQ106_ K (argE [x0, x1]) H).trans h2)).mpr h)

/-! 194: slices.Equal[fieldfare/api.Vec,int32] -/
abbrev bQ194 (p : List Nat) (k : KP) : KE := codeP PP CC (subC (bodyC PP 194) p) k
abbrev kQ194 (K : KT) : KP := finP PP (resC PP 194) K
abbrev kQ194_tt (K : KT) : KP := exP (bQ194 [1,1,1] (kQ194 K)) (kQ194 K)
abbrev kQ194_ttht (K : KT) : KP := blockP 0 (kQ194_tt K)
abbrev kQ194_tthtb (K : KT) (r0 : (AV × AV × AV × AV) → AH → Prop) : KP := exP (fun (a : TE) (H : AH) => r0 (a 0, a 1, a 12, a 13) H) (kQ194_ttht K)
def m_slices_Equal_api_Vec_int32tthtbl (K : KT) (r0 : (AV × AV × AV × AV) → AH → Prop) (x0 x1 x12 x13 : AV) (H : AH) : Prop :=
  outP CC H (w_int .lss H x13 x12) fun v1 H1 =>
  condP v1
  (outP CC H1 (w_indexAddr (.sl 1) H1 x0 x13) fun v2 H2 =>
  outP CC H2 (w_load none H2 v2) fun v3 H3 =>
  outP CC H3 (w_indexAddr (.sl 1) H3 x1 x13) fun v4 H4 =>
  outP CC H4 (w_load none H4 v4) fun v5 H5 =>
  outP CC H5 (w_int .neq H5 v3 v5) fun v6 H6 =>
  condP v6
  (K (.bool false) H6)
  (outP CC H6 (w_int .add H6 x13 (.int .i64 1)) fun v7 H7 =>
  r0 (x0, x1, x12, v7) H7))
  (K (.bool true) H1)
theorem eQ194_tthtbl (K : KT) (r0 : (AV × AV × AV × AV) → AH → Prop) (a : TE) (H : AH) : bQ194 [1,1,0,1,0,0] (kQ194_tthtb K r0) a H = m_slices_Equal_api_Vec_int32tthtbl K r0 (a 0) (a 1) (a 12) (a 13) H :=
  by kernel_rfl
def m_slices_Equal_api_Vec_int32tthtb (K : KT) (x0 x1 x12 x13 : AV) (H : AH) : Prop :=
  loopP (fun (r0 : (AV × AV × AV × AV) → AH → Prop) (s : (AV × AV × AV × AV)) (H : AH) => m_slices_Equal_api_Vec_int32tthtbl K r0 s.1 s.2.1 s.2.2.1 s.2.2.2 H) (x0, x1, x12, x13) H
theorem eQ194_tthtb (K : KT) (a : TE) (H : AH) : bQ194 [1,1,0,1,0] (kQ194_ttht K) a H = m_slices_Equal_api_Vec_int32tthtb K (a 0) (a 1) (a 12) (a 13) H :=
  eLoopK (S := (AV × AV × AV × AV)) (fun a => (a 0, a 1, a 12, a 13)) (fun r0 s H => m_slices_Equal_api_Vec_int32tthtbl K r0 s.1 s.2.1 s.2.2.1 s.2.2.2 H) (by kernel_rfl) (fun r => by kernel_rfl) (eQ194_tthtbl K)
theorem eQ194_ttht (K : KT) (a : TE) (H : AH) : bQ194 [1,1,0,1] (kQ194_tt K) a H = m_slices_Equal_api_Vec_int32tthtb K (a 0) (a 1) (a 12) (a 13) H :=
  eBlockK 0 (by kernel_rfl) (by kernel_rfl) (eQ194_tthtb K a H)
def m_slices_Equal_api_Vec_int32tth (K : KT) (x0 x1 : AV) (H : AH) : Prop :=
  outP CC H (w_len PP 23 H x0) fun v1 H1 =>
  m_slices_Equal_api_Vec_int32tthtb K x0 x1 v1 (.int .i64 0) H1
theorem eQ194_tth (K : KT) (a : TE) (H : AH) : bQ194 [1,1,0] (kQ194_tt K) a H = m_slices_Equal_api_Vec_int32tth K (a 0) (a 1) H :=
  eSeq (ca := subC (bodyC PP 194) [1,1,0,0]) (by kernel_rfl) (eQ194_ttht K) (by kernel_rfl)
theorem eQ194_tt (K : KT) (a : TE) (H : AH) : bQ194 [1,1] (kQ194 K) a H = m_slices_Equal_api_Vec_int32tth K (a 0) (a 1) H :=
  eSeqJ (subC (bodyC PP 194) [1,1,1]) (by kernel_rfl) (by kernel_rfl) (eQ194_tth K a H)
def m_slices_Equal_api_Vec_int32t (K : KT) (x0 x1 : AV) (H : AH) : Prop :=
  outP CC H (w_len PP 23 H x0) fun v1 H1 =>
  outP CC H1 (w_len PP 23 H1 x1) fun v2 H2 =>
  outP CC H2 (w_int .neq H2 v1 v2) fun v3 H3 =>
  condP v3
  (K (.bool false) H3)
  (m_slices_Equal_api_Vec_int32tth K x0 x1 H3)
theorem eQ194_t (K : KT) (a : TE) (H : AH) : bQ194 [1] (kQ194 K) a H = m_slices_Equal_api_Vec_int32t K (a 0) (a 1) H :=
  eSeq (ca := subC (bodyC PP 194) [1,0]) (by kernel_rfl) (eQ194_tt K) (by kernel_rfl)
def m_slices_Equal_api_Vec_int32 (K : KT) (x0 x1 : AV) (H : AH) : Prop :=
  m_slices_Equal_api_Vec_int32t K x0 x1 H
theorem eQ194_ (K : KT) (a : TE) (H : AH) : bQ194 [] (kQ194 K) a H = m_slices_Equal_api_Vec_int32 K (a 0) (a 1) H :=
  eSeq (ca := subC (bodyC PP 194) [0]) (by kernel_rfl) (eQ194_t K) (by kernel_rfl)
theorem m_slices_Equal_api_Vec_int32_ok (x0 x1 : AV) (H : AH) (K : KT) (h : m_slices_Equal_api_Vec_int32 K x0 x1 H) : CC.call 194 [x0, x1] H K :=
  have h1 : funP PP CC 194 [x0, x1] H K = bQ194 [] (kQ194 K) (argE [x0, x1]) H := by kernel_rfl
  have h2 : m_slices_Equal_api_Vec_int32 K (argE [x0, x1] 0) (argE [x0, x1] 1) H = m_slices_Equal_api_Vec_int32 K x0 x1 H := by kernel_rfl
  funP_ok (P := PP) (by kernel_rfl) (by kernel_rfl) ((h1.trans ((eQ194_ K (argE [x0, x1]) H).trans h2)).mpr h)

/-! 104: fieldfare/bin.size -/
abbrev bQ104 (p : List Nat) (k : KP) : KE := codeP PP CC (subC (bodyC PP 104) p) k
abbrev kQ104 (K : KT) : KP := finP PP (resC PP 104) K
abbrev kQ104_ttt (K : KT) : KP := exP (bQ104 [1,1,1,1] (kQ104 K)) (kQ104 K)
abbrev kQ104_ttth (K : KT) : KP := blockP 0 (kQ104_ttt K)
abbrev kQ104_ttthb (K : KT) (r0 : (AV × AV) → AH → Prop) : KP := exP (fun (a : TE) (H : AH) => r0 (a 0, a 3) H) (kQ104_ttth K)
def m_bin_sizettthbl (K : KT) (r0 : (AV × AV) → AH → Prop) (x0 x3 : AV) (H : AH) : Prop :=
  outP CC H (w_int .lss H x3 (.int .i64 8)) fun v1 H1 =>
  guardP (boolIs true v1) H1 (outP CC H1 (some (.val x0 H1))) fun v2 H2 =>
  guardP (boolIs true v1) H2 (outP CC H2 (some (.val x0 H2))) fun v3 H3 =>
  guardP (boolIs true v1) H3 (outP CC H3 (some (.val x3 H3))) fun v4 H4 =>
  guardP (boolIs true v1) H4 (outP CC H4 (w_int .sub H4 (.int .i64 8) v4)) fun v5 H5 =>
  guardP (boolIs true v1) H5 (outP CC H5 (w_int .mul H5 (.int .i64 8) v5)) fun v6 H6 =>
  guardP (boolIs true v1) H6 (outP CC H6 (w_sh .shl H6 v3 v6)) fun v7 H7 =>
  guardP (boolIs true v1) H7 (outP CC H7 (some (.val x3 H7))) fun v8 H8 =>
  guardP (boolIs true v1) H8 (outP CC H8 (w_int .sub H8 (.int .i64 8) v8)) fun v9 H9 =>
  guardP (boolIs true v1) H9 (outP CC H9 (w_int .mul H9 (.int .i64 8) v9)) fun v10 H10 =>
  guardP (boolIs true v1) H10 (outP CC H10 (w_sh .shr H10 v7 v10)) fun v11 H11 =>
  guardP (boolIs true v1) H11 (outP CC H11 (w_int .neq H11 v2 v11)) fun v12 H12 =>
  outP CC H12 (w_pick H12 v1 v12 (.bool false)) fun v13 H13 =>
  condP v13
  (outP CC H13 (w_int .add H13 x3 (.int .i64 1)) fun v14 H14 =>
  r0 (x0, v14) H14)
  (K x3 H13)
theorem eQ104_ttthbl (K : KT) (r0 : (AV × AV) → AH → Prop) (a : TE) (H : AH) : bQ104 [1,1,1,0,0,0] (kQ104_ttthb K r0) a H = m_bin_sizettthbl K r0 (a 0) (a 3) H :=
  by kernel_rfl
def m_bin_sizettthb (K : KT) (x0 x3 : AV) (H : AH) : Prop :=
  loopP (fun (r0 : (AV × AV) → AH → Prop) (s : (AV × AV)) (H : AH) => m_bin_sizettthbl K r0 s.1 s.2 H) (x0, x3) H
theorem eQ104_ttthb (K : KT) (a : TE) (H : AH) : bQ104 [1,1,1,0,0] (kQ104_ttth K) a H = m_bin_sizettthb K (a 0) (a 3) H :=
  eLoopK (S := (AV × AV)) (fun a => (a 0, a 3)) (fun r0 s H => m_bin_sizettthbl K r0 s.1 s.2 H) (by kernel_rfl) (fun r => by kernel_rfl) (eQ104_ttthbl K)
theorem eQ104_ttth (K : KT) (a : TE) (H : AH) : bQ104 [1,1,1,0] (kQ104_ttt K) a H = m_bin_sizettthb K (a 0) (a 3) H :=
  eBlockK 0 (by kernel_rfl) (by kernel_rfl) (eQ104_ttthb K a H)
theorem eQ104_ttt (K : KT) (a : TE) (H : AH) : bQ104 [1,1,1] (kQ104 K) a H = m_bin_sizettthb K (a 0) (a 3) H :=
  eSeqJ (subC (bodyC PP 104) [1,1,1,1]) (by kernel_rfl) (by kernel_rfl) (eQ104_ttth K a H)
def m_bin_sizett (K : KT) (x0 : AV) (H : AH) : Prop :=
  m_bin_sizettthb K x0 (.int .i64 1) H
theorem eQ104_tt (K : KT) (a : TE) (H : AH) : bQ104 [1,1] (kQ104 K) a H = m_bin_sizett K (a 0) H :=
  eSeq (ca := subC (bodyC PP 104) [1,1,0]) (by kernel_rfl) (eQ104_ttt K) (by kernel_rfl)
def m_bin_sizet (K : KT) (x0 : AV) (H : AH) : Prop :=
  outP CC H (w_int .eql H x0 (.int .i64 0)) fun v1 H1 =>
  condP v1
  (K (.int .i64 0) H1)
  (m_bin_sizett K x0 H1)
theorem eQ104_t (K : KT) (a : TE) (H : AH) : bQ104 [1] (kQ104 K) a H = m_bin_sizet K (a 0) H :=
  eSeq (ca := subC (bodyC PP 104) [1,0]) (by kernel_rfl) (eQ104_tt K) (by kernel_rfl)
def m_bin_size (K : KT) (x0 : AV) (H : AH) : Prop :=
  m_bin_sizet K x0 H
theorem eQ104_ (K : KT) (a : TE) (H : AH) : bQ104 [] (kQ104 K) a H = m_bin_size K (a 0) H :=
  eSeq (ca := subC (bodyC PP 104) [0]) (by kernel_rfl) (eQ104_t K) (by kernel_rfl)
theorem m_bin_size_ok (x0 : AV) (H : AH) (K : KT) (h : m_bin_size K x0 H) : CC.call 104 [x0] H K :=
  have h1 : funP PP CC 104 [x0] H K = bQ104 [] (kQ104 K) (argE [x0]) H := by kernel_rfl
  have h2 : m_bin_size K (argE [x0] 0) H = m_bin_size K x0 H := by kernel_rfl
  funP_ok (P := PP) (by kernel_rfl) (by kernel_rfl) ((h1.trans ((eQ104_ K (argE [x0]) H).trans h2)).mpr h)

/-! 42: (*fieldfare/bin.Writer).Int -/
abbrev bQ42 (p : List Nat) (k : KP) : KE := codeP PP CC (subC (bodyC PP 42) p) k
abbrev kQ42 (K : KT) : KP := finP PP (resC PP 42) K
abbrev kQ42_tt (K : KT) : KP := blockP 0 (kQ42 K)
abbrev kQ42_ttb (K : KT) (r0 : (AV × AV × AV × AV) → AH → Prop) : KP := exP (fun (a : TE) (H : AH) => r0 (a 0, a 10, a 11, a 12) H) (kQ42_tt K)
abbrev kQ42_ttbltt (K : KT) (r0 : (AV × AV × AV × AV) → AH → Prop) : KP := exP (bQ42 [1,1,0,0,1,1,1] (kQ42_ttb K r0)) (kQ42_ttb K r0)
abbrev kQ42_ttbltth (K : KT) (r0 : (AV × AV × AV × AV) → AH → Prop) : KP := blockP 1 (kQ42_ttbltt K r0)
abbrev kQ42_ttbltthbtttt (K : KT) (r0 : (AV × AV × AV × AV) → AH → Prop) : KP := blockP 2 (kQ42_ttbltth K r0)
abbrev kQ42_ttbltthbttttb (K : KT) (r0 : (AV × AV × AV × AV) → AH → Prop) (r1 : (AV × AV × AV × AV × AV × AV × AV) → AH → Prop) : KP := exP (fun (a : TE) (H : AH) => r1 (a 0, a 5, a 10, a 11, a 12, a 29, a 30) H) (kQ42_ttbltthbtttt K r0)
def m_bin_Writer_Intttbltthbttttbl (_K : KT) (r0 : (AV × AV × AV × AV) → AH → Prop) (r1 : (AV × AV × AV × AV × AV × AV × AV) → AH → Prop) (x0 x5 x10 x11 x12 x29 x30 : AV) (H : AH) : Prop :=
  outP CC H (w_int .lss H x30 x29) fun v1 H1 =>
  condP v1
  (outP CC (H1.more 1) (w_nil (H1.more 1) x0) fun v2 H2 =>
  outP CC H2 (w_fieldAddr 0 H2 v2) fun v3 H3 =>
  outP CC H3 (w_load none H3 v3) fun v4 H4 =>
  outP CC H4 (w_int .mul H4 (.int .i64 8) x30) fun v5 H5 =>
  outP CC H5 (w_sh .shr H5 x5 v5) fun v6 H6 =>
  outP CC H6 (w_conv (.int .u8) H6 v6 none) fun v7 H7 =>
  outP CC H7 (w_buildSlice PP 5 1 H7 [(0, v7)] (some (Nat.add H1.next 0))) fun v8 H8 =>
  outP CC H8 (w_append 5 1 1 H8 v4 v8 none) fun v9 H9 =>
  outP CC H9 (w_nil H9 x0) fun v10 H10 =>
  outP CC H10 (w_fieldAddr 0 H10 v10) fun v11 H11 =>
  outP CC H11 (w_store 1 H11 v11 v9) fun _v12 H12 =>
  outP CC H12 (w_int .add H12 x30 (.int .i64 1)) fun v13 H13 =>
  r1 (x0, x5, x10, x11, x12, x29, v13) H13)
  (outP CC H1 (w_int .add H1 x12 (.int .i64 1)) fun v14 H14 =>
  r0 (x0, x10, x11, v14) H14)
theorem eQ42_ttbltthbttttbl (K : KT) (r0 : (AV × AV × AV × AV) → AH → Prop) (r1 : (AV × AV × AV × AV × AV × AV × AV) → AH → Prop) (a : TE) (H : AH) : bQ42 [1,1,0,0,1,1,0,0,1,1,1,1,0,0] (kQ42_ttbltthbttttb K r0 r1) a H = m_bin_Writer_Intttbltthbttttbl K r0 r1 (a 0) (a 5) (a 10) (a 11) (a 12) (a 29) (a 30) H :=
  by kernel_rfl
def m_bin_Writer_Intttbltthbttttb (K : KT) (r0 : (AV × AV × AV × AV) → AH → Prop) (x0 x5 x10 x11 x12 x29 x30 : AV) (H : AH) : Prop :=
  loopP (fun (r1 : (AV × AV × AV × AV × AV × AV × AV) → AH → Prop) (s : (AV × AV × AV × AV × AV × AV × AV)) (H : AH) => m_bin_Writer_Intttbltthbttttbl K r0 r1 s.1 s.2.1 s.2.2.1 s.2.2.2.1 s.2.2.2.2.1 s.2.2.2.2.2.1 s.2.2.2.2.2.2 H) (x0, x5, x10, x11, x12, x29, x30) H
theorem eQ42_ttbltthbttttb (K : KT) (r0 : (AV × AV × AV × AV) → AH → Prop) (a : TE) (H : AH) : bQ42 [1,1,0,0,1,1,0,0,1,1,1,1,0] (kQ42_ttbltthbtttt K r0) a H = m_bin_Writer_Intttbltthbttttb K r0 (a 0) (a 5) (a 10) (a 11) (a 12) (a 29) (a 30) H :=
  eLoopK (S := (AV × AV × AV × AV × AV × AV × AV)) (fun a => (a 0, a 5, a 10, a 11, a 12, a 29, a 30)) (fun r1 s H => m_bin_Writer_Intttbltthbttttbl K r0 r1 s.1 s.2.1 s.2.2.1 s.2.2.2.1 s.2.2.2.2.1 s.2.2.2.2.2.1 s.2.2.2.2.2.2 H) (by kernel_rfl) (fun r => by kernel_rfl) (eQ42_ttbltthbttttbl K r0)
theorem eQ42_ttbltthbtttt (K : KT) (r0 : (AV × AV × AV × AV) → AH → Prop) (a : TE) (H : AH) : bQ42 [1,1,0,0,1,1,0,0,1,1,1,1] (kQ42_ttbltth K r0) a H = m_bin_Writer_Intttbltthbttttb K r0 (a 0) (a 5) (a 10) (a 11) (a 12) (a 29) (a 30) H :=
  eBlockK 2 (by kernel_rfl) (by kernel_rfl) (eQ42_ttbltthbttttb K r0 a H)
def m_bin_Writer_Intttbltthbttt (K : KT) (r0 : (AV × AV × AV × AV) → AH → Prop) (x0 x5 x6 x10 x11 x12 : AV) (H : AH) : Prop :=
  m_bin_Writer_Intttbltthbttttb K r0 x0 x5 x10 x11 x12 x6 (.int .i64 0) H
theorem eQ42_ttbltthbttt (K : KT) (r0 : (AV × AV × AV × AV) → AH → Prop) (a : TE) (H : AH) : bQ42 [1,1,0,0,1,1,0,0,1,1,1] (kQ42_ttbltth K r0) a H = m_bin_Writer_Intttbltthbttt K r0 (a 0) (a 5) (a 6) (a 10) (a 11) (a 12) H :=
  eSeq (ca := subC (bodyC PP 42) [1,1,0,0,1,1,0,0,1,1,1,0]) (by kernel_rfl) (eQ42_ttbltthbtttt K r0) (by kernel_rfl)
def m_bin_Writer_Intttbltthbtt (K : KT) (r0 : (AV × AV × AV × AV) → AH → Prop) (x0 x5 x6 x10 x11 x12 : AV) (H : AH) : Prop :=
  outP CC H (w_nil H x0) fun v1 H1 =>
  outP CC H1 (w_fieldAddr 0 H1 v1) fun v2 H2 =>
  outP CC H2 (w_load none H2 v2) fun v3 H3 =>
  outP CC H3 (w_conv (.int .u8) H3 x6 none) fun v4 H4 =>
  outP CC H4 (w_buildSlice PP 5 1 H4 [(0, v4)] none) fun v5 H5 =>
  outP CC H5 (w_append 5 1 1 H5 v3 v5 none) fun v6 H6 =>
  outP CC H6 (w_nil H6 x0) fun v7 H7 =>
  outP CC H7 (w_fieldAddr 0 H7 v7) fun v8 H8 =>
  outP CC H8 (w_store 1 H8 v8 v6) fun _v9 H9 =>
  m_bin_Writer_Intttbltthbttt K r0 x0 x5 x6 x10 x11 x12 H9
theorem eQ42_ttbltthbtt (K : KT) (r0 : (AV × AV × AV × AV) → AH → Prop) (a : TE) (H : AH) : bQ42 [1,1,0,0,1,1,0,0,1,1] (kQ42_ttbltth K r0) a H = m_bin_Writer_Intttbltthbtt K r0 (a 0) (a 5) (a 6) (a 10) (a 11) (a 12) H :=
  eSeq (ca := subC (bodyC PP 42) [1,1,0,0,1,1,0,0,1,1,0]) (by kernel_rfl) (eQ42_ttbltthbttt K r0) (by kernel_rfl)
def m_bin_Writer_Intttbltthbt (K : KT) (r0 : (AV × AV × AV × AV) → AH → Prop) (x0 x5 x10 x11 x12 : AV) (H : AH) : Prop :=
  outP CC H (some (.enter 104 [x5])) fun v1 H1 =>
  m_bin_Writer_Intttbltthbtt K r0 x0 x5 v1 x10 x11 x12 H1
theorem eQ42_ttbltthbt (K : KT) (r0 : (AV × AV × AV × AV) → AH → Prop) (a : TE) (H : AH) : bQ42 [1,1,0,0,1,1,0,0,1] (kQ42_ttbltth K r0) a H = m_bin_Writer_Intttbltthbt K r0 (a 0) (a 5) (a 10) (a 11) (a 12) H :=
  eSeq (ca := subC (bodyC PP 42) [1,1,0,0,1,1,0,0,1,0]) (by kernel_rfl) (eQ42_ttbltthbtt K r0) (by kernel_rfl)
def m_bin_Writer_Intttbltthb (K : KT) (r0 : (AV × AV × AV × AV) → AH → Prop) (x0 x10 x11 x12 : AV) (H : AH) : Prop :=
  outP CC H (w_indexAddr (.sl 1) H x10 x12) fun v1 H1 =>
  outP CC H1 (w_load none H1 v1) fun v2 H2 =>
  m_bin_Writer_Intttbltthbt K r0 x0 v2 x10 x11 x12 H2
theorem eQ42_ttbltthb (K : KT) (r0 : (AV × AV × AV × AV) → AH → Prop) (a : TE) (H : AH) : bQ42 [1,1,0,0,1,1,0,0] (kQ42_ttbltth K r0) a H = m_bin_Writer_Intttbltthb K r0 (a 0) (a 10) (a 11) (a 12) H :=
  eSeq (ca := subC (bodyC PP 42) [1,1,0,0,1,1,0,0,0]) (by kernel_rfl) (eQ42_ttbltthbt K r0) (by kernel_rfl)
theorem eQ42_ttbltth (K : KT) (r0 : (AV × AV × AV × AV) → AH → Prop) (a : TE) (H : AH) : bQ42 [1,1,0,0,1,1,0] (kQ42_ttbltt K r0) a H = m_bin_Writer_Intttbltthb K r0 (a 0) (a 10) (a 11) (a 12) H :=
  eBlockK 1 (by kernel_rfl) (by kernel_rfl) (eQ42_ttbltthb K r0 a H)
theorem eQ42_ttbltt (K : KT) (r0 : (AV × AV × AV × AV) → AH → Prop) (a : TE) (H : AH) : bQ42 [1,1,0,0,1,1] (kQ42_ttb K r0) a H = m_bin_Writer_Intttbltthb K r0 (a 0) (a 10) (a 11) (a 12) H :=
  eSeqJ (subC (bodyC PP 42) [1,1,0,0,1,1,1]) (by kernel_rfl) (by kernel_rfl) (eQ42_ttbltth K r0 a H)
def m_bin_Writer_Intttblt (K : KT) (r0 : (AV × AV × AV × AV) → AH → Prop) (x0 x10 x11 x12 x13 : AV) (H : AH) : Prop :=
  condP x13
  (m_bin_Writer_Intttbltthb K r0 x0 x10 x11 x12 H)
  (K (.tup []) H)
theorem eQ42_ttblt (K : KT) (r0 : (AV × AV × AV × AV) → AH → Prop) (a : TE) (H : AH) : bQ42 [1,1,0,0,1] (kQ42_ttb K r0) a H = m_bin_Writer_Intttblt K r0 (a 0) (a 10) (a 11) (a 12) (a 13) H :=
  eSeq (ca := subC (bodyC PP 42) [1,1,0,0,1,0]) (by kernel_rfl) (eQ42_ttbltt K r0) (by kernel_rfl)
def m_bin_Writer_Intttbl (K : KT) (r0 : (AV × AV × AV × AV) → AH → Prop) (x0 x10 x11 x12 : AV) (H : AH) : Prop :=
  outP CC H (w_int .lss H x12 x11) fun v1 H1 =>
  m_bin_Writer_Intttblt K r0 x0 x10 x11 x12 v1 H1
theorem eQ42_ttbl (K : KT) (r0 : (AV × AV × AV × AV) → AH → Prop) (a : TE) (H : AH) : bQ42 [1,1,0,0] (kQ42_ttb K r0) a H = m_bin_Writer_Intttbl K r0 (a 0) (a 10) (a 11) (a 12) H :=
  eSeq (ca := subC (bodyC PP 42) [1,1,0,0,0]) (by kernel_rfl) (eQ42_ttblt K r0) (by kernel_rfl)
def m_bin_Writer_Intttb (K : KT) (x0 x10 x11 x12 : AV) (H : AH) : Prop :=
  loopP (fun (r0 : (AV × AV × AV × AV) → AH → Prop) (s : (AV × AV × AV × AV)) (H : AH) => m_bin_Writer_Intttbl K r0 s.1 s.2.1 s.2.2.1 s.2.2.2 H) (x0, x10, x11, x12) H
theorem eQ42_ttb (K : KT) (a : TE) (H : AH) : bQ42 [1,1,0] (kQ42_tt K) a H = m_bin_Writer_Intttb K (a 0) (a 10) (a 11) (a 12) H :=
  eLoopK (S := (AV × AV × AV × AV)) (fun a => (a 0, a 10, a 11, a 12)) (fun r0 s H => m_bin_Writer_Intttbl K r0 s.1 s.2.1 s.2.2.1 s.2.2.2 H) (by kernel_rfl) (fun r => by kernel_rfl) (eQ42_ttbl K)
theorem eQ42_tt (K : KT) (a : TE) (H : AH) : bQ42 [1,1] (kQ42 K) a H = m_bin_Writer_Intttb K (a 0) (a 10) (a 11) (a 12) H :=
  eBlockK 0 (by kernel_rfl) (by kernel_rfl) (eQ42_ttb K a H)
def m_bin_Writer_Intt (K : KT) (x0 x1 : AV) (H : AH) : Prop :=
  outP CC H (w_len PP 179 H x1) fun v1 H1 =>
  m_bin_Writer_Intttb K x0 x1 v1 (.int .i64 0) H1
theorem eQ42_t (K : KT) (a : TE) (H : AH) : bQ42 [1] (kQ42 K) a H = m_bin_Writer_Intt K (a 0) (a 1) H :=
  eSeq (ca := subC (bodyC PP 42) [1,0]) (by kernel_rfl) (eQ42_tt K) (by kernel_rfl)
def m_bin_Writer_Int (K : KT) (x0 x1 : AV) (H : AH) : Prop :=
  outP CC H (w_eq PP .eql 87 false true H x0 (.ptr none)) fun v1 H1 =>
  condP v1
  (K (.tup []) H1)
  (m_bin_Writer_Intt K x0 x1 H1)
theorem eQ42_ (K : KT) (a : TE) (H : AH) : bQ42 [] (kQ42 K) a H = m_bin_Writer_Int K (a 0) (a 1) H :=
  eSeq (ca := subC (bodyC PP 42) [0]) (by kernel_rfl) (eQ42_t K) (by kernel_rfl)
theorem m_bin_Writer_Int_ok (x0 x1 : AV) (H : AH) (K : KT) (h : m_bin_Writer_Int K x0 x1 H) : CC.call 42 [x0, x1] H K :=
  have h1 : funP PP CC 42 [x0, x1] H K = bQ42 [] (kQ42 K) (argE [x0, x1]) H := by kernel_rfl
  have h2 : m_bin_Writer_Int K (argE [x0, x1] 0) (argE [x0, x1] 1) H = m_bin_Writer_Int K x0 x1 H := by kernel_rfl
  funP_ok (P := PP) (by kernel_rfl) (by kernel_rfl) ((h1.trans ((eQ42_ K (argE [x0, x1]) H).trans h2)).mpr h)

/-! 105: fieldfare/vect.Put -/
abbrev bQ105 (p : List Nat) (k : KP) : KE := codeP PP CC (subC (bodyC PP 105) p) k
abbrev kQ105 (K : KT) : KP := finP PP (resC PP 105) K
abbrev kQ105_tt (K : KT) : KP := blockP 0 (kQ105 K)
abbrev kQ105_ttb (K : KT) (r0 : (AV × AV × AV × AV) → AH → Prop) : KP := exP (fun (a : TE) (H : AH) => r0 (a 0, a 11, a 12, a 13) H) (kQ105_tt K)
def m_vect_Putttbl (K : KT) (r0 : (AV × AV × AV × AV) → AH → Prop) (x0 x11 x12 x13 : AV) (H : AH) : Prop :=
  outP CC H (w_int .lss H x13 x12) fun v1 H1 =>
  condP v1
  (outP CC H1 (w_indexAddr (.sl 1) H1 x11 x13) fun v2 H2 =>
  outP CC H2 (w_load none H2 v2) fun v3 H3 =>
  outP CC H3 (w_conv (.int .i64) H3 v3 none) fun v4 H4 =>
  outP CC H4 (w_buildSlice PP 2 1 H4 [(0, v4)] none) fun v5 H5 =>
  outP CC H5 (some (.enter 42 [x0, v5])) fun _v6 H6 =>
  outP CC H6 (w_int .add H6 x13 (.int .i64 1)) fun v7 H7 =>
  r0 (x0, x11, x12, v7) H7)
  (K (.tup []) H1)
theorem eQ105_ttbl (K : KT) (r0 : (AV × AV × AV × AV) → AH → Prop) (a : TE) (H : AH) : bQ105 [1,1,0,0] (kQ105_ttb K r0) a H = m_vect_Putttbl K r0 (a 0) (a 11) (a 12) (a 13) H :=
  by kernel_rfl
def m_vect_Putttb (K : KT) (x0 x11 x12 x13 : AV) (H : AH) : Prop :=
  loopP (fun (r0 : (AV × AV × AV × AV) → AH → Prop) (s : (AV × AV × AV × AV)) (H : AH) => m_vect_Putttbl K r0 s.1 s.2.1 s.2.2.1 s.2.2.2 H) (x0, x11, x12, x13) H
theorem eQ105_ttb (K : KT) (a : TE) (H : AH) : bQ105 [1,1,0] (kQ105_tt K) a H = m_vect_Putttb K (a 0) (a 11) (a 12) (a 13) H :=
  eLoopK (S := (AV × AV × AV × AV)) (fun a => (a 0, a 11, a 12, a 13)) (fun r0 s H => m_vect_Putttbl K r0 s.1 s.2.1 s.2.2.1 s.2.2.2 H) (by kernel_rfl) (fun r => by kernel_rfl) (eQ105_ttbl K)
theorem eQ105_tt (K : KT) (a : TE) (H : AH) : bQ105 [1,1] (kQ105 K) a H = m_vect_Putttb K (a 0) (a 11) (a 12) (a 13) H :=
  eBlockK 0 (by kernel_rfl) (by kernel_rfl) (eQ105_ttb K a H)
def m_vect_Putt (K : KT) (x0 x1 : AV) (H : AH) : Prop :=
  outP CC H (w_len PP 23 H x1) fun v1 H1 =>
  m_vect_Putttb K x0 x1 v1 (.int .i64 0) H1
theorem eQ105_t (K : KT) (a : TE) (H : AH) : bQ105 [1] (kQ105 K) a H = m_vect_Putt K (a 0) (a 1) H :=
  eSeq (ca := subC (bodyC PP 105) [1,0]) (by kernel_rfl) (eQ105_tt K) (by kernel_rfl)
def m_vect_Put (K : KT) (x0 x1 : AV) (H : AH) : Prop :=
  outP CC H (w_len PP 23 H x1) fun v1 H1 =>
  outP CC H1 (w_buildSlice PP 2 1 H1 [(0, v1)] none) fun v2 H2 =>
  outP CC H2 (some (.enter 42 [x0, v2])) fun _v3 H3 =>
  m_vect_Putt K x0 x1 H3
theorem eQ105_ (K : KT) (a : TE) (H : AH) : bQ105 [] (kQ105 K) a H = m_vect_Put K (a 0) (a 1) H :=
  eSeq (ca := subC (bodyC PP 105) [0]) (by kernel_rfl) (eQ105_t K) (by kernel_rfl)
theorem m_vect_Put_ok (x0 x1 : AV) (H : AH) (K : KT) (h : m_vect_Put K x0 x1 H) : CC.call 105 [x0, x1] H K :=
  have h1 : funP PP CC 105 [x0, x1] H K = bQ105 [] (kQ105 K) (argE [x0, x1]) H := by kernel_rfl
  have h2 : m_vect_Put K (argE [x0, x1] 0) (argE [x0, x1] 1) H = m_vect_Put K x0 x1 H := by kernel_rfl
  funP_ok (P := PP) (by kernel_rfl) (by kernel_rfl) ((h1.trans ((eQ105_ K (argE [x0, x1]) H).trans h2)).mpr h)

/-! 54: fieldfare/bin.NewReader -/
abbrev bQ54 (p : List Nat) (k : KP) : KE := codeP PP CC (subC (bodyC PP 54) p) k
abbrev kQ54 (K : KT) : KP := finP PP (resC PP 54) K
def m_bin_NewReader (K : KT) (x0 : AV) (H : AH) : Prop :=
  outP CC H (w_append 5 1 1 H (.slice none 0 0 true) x0 none) fun v1 H1 =>
  outP CC H1 (w_build PP 194 H1 [(0, v1)]) fun v2 H2 =>
  outP CC H2 (w_box 194 H2 v2 none) fun v3 H3 =>
  K v3 H3
theorem eQ54_ (K : KT) (a : TE) (H : AH) : bQ54 [] (kQ54 K) a H = m_bin_NewReader K (a 0) H :=
  by kernel_rfl
theorem m_bin_NewReader_ok (x0 : AV) (H : AH) (K : KT) (h : m_bin_NewReader K x0 H) : CC.call 54 [x0] H K :=
  have h1 : funP PP CC 54 [x0] H K = bQ54 [] (kQ54 K) (argE [x0]) H := by kernel_rfl
  have h2 : m_bin_NewReader K (argE [x0] 0) H = m_bin_NewReader K x0 H := by kernel_rfl
  funP_ok (P := PP) (by kernel_rfl) (by kernel_rfl) ((h1.trans ((eQ54_ K (argE [x0]) H).trans h2)).mpr h)

/-! 45: (*fieldfare/bin.Writer).Bytes -/
abbrev bQ45 (p : List Nat) (k : KP) : KE := codeP PP CC (subC (bodyC PP 45) p) k
abbrev kQ45 (K : KT) : KP := finP PP (resC PP 45) K
def m_bin_Writer_Bytes (K : KT) (x0 : AV) (H : AH) : Prop :=
  outP CC H (w_eq PP .eql 87 false true H x0 (.ptr none)) fun v1 H1 =>
  condP v1
  (K (.slice none 0 0 true) H1)
  (outP CC H1 (w_nil H1 x0) fun v2 H2 =>
  outP CC H2 (w_fieldAddr 0 H2 v2) fun v3 H3 =>
  outP CC H3 (w_load none H3 v3) fun v4 H4 =>
  outP CC H4 (w_append 5 1 1 H4 (.slice none 0 0 true) v4 none) fun v5 H5 =>
  K v5 H5)
theorem eQ45_ (K : KT) (a : TE) (H : AH) : bQ45 [] (kQ45 K) a H = m_bin_Writer_Bytes K (a 0) H :=
  by kernel_rfl
theorem m_bin_Writer_Bytes_ok (x0 : AV) (H : AH) (K : KT) (h : m_bin_Writer_Bytes K x0 H) : CC.call 45 [x0] H K :=
  have h1 : funP PP CC 45 [x0] H K = bQ45 [] (kQ45 K) (argE [x0]) H := by kernel_rfl
  have h2 : m_bin_Writer_Bytes K (argE [x0] 0) H = m_bin_Writer_Bytes K x0 H := by kernel_rfl
  funP_ok (P := PP) (by kernel_rfl) (by kernel_rfl) ((h1.trans ((eQ45_ K (argE [x0]) H).trans h2)).mpr h)

/-! 198: fieldfare/vect.Get -/
abbrev bQ198 (p : List Nat) (k : KP) : KE := codeP PP CC (subC (bodyC PP 198) p) k
abbrev kQ198 (K : KT) : KP := finP PP (resC PP 198) K
abbrev kQ198_tttt (K : KT) : KP := exP (bQ198 [1,1,1,1,1] (kQ198 K)) (kQ198 K)
abbrev kQ198_ttttht (K : KT) : KP := blockP 0 (kQ198_tttt K)
abbrev kQ198_tttthtb (K : KT) (r0 : (AV × AV × AV × AV × AV) → AH → Prop) : KP := exP (fun (a : TE) (H : AH) => r0 (a 0, a 4, a 5, a 24, a 25) H) (kQ198_ttttht K)
def m_vect_Gettttthtbl (K : KT) (r0 : (AV × AV × AV × AV × AV) → AH → Prop) (x0 x4 x5 x24 x25 : AV) (H : AH) : Prop :=
  outP CC H (w_int .lss H x25 x24) fun v1 H1 =>
  condP v1
  (outP CC H1 (some (.enter 55 [x0])) fun v2 H2 =>
  outP CC H2 (w_conv (.int .i32) H2 v2 none) fun v3 H3 =>
  outP CC H3 (w_indexAddr (.sl 1) H3 x4 x25) fun v4 H4 =>
  outP CC H4 (w_store 1 H4 v4 v3) fun _v5 H5 =>
  guardP (boolIs true x5) H5 (outP CC H5 (some (.val v2 H5))) fun v6 H6 =>
  guardP (boolIs true x5) H6 (outP CC H6 (w_int .geq H6 v6 (.int .i64 (-2147483648)))) fun v7 H7 =>
  outP CC H7 (w_pick H7 x5 v7 (.bool false)) fun v8 H8 =>
  guardP (boolIs true v8) H8 (outP CC H8 (some (.val v2 H8))) fun v9 H9 =>
  guardP (boolIs true v8) H9 (outP CC H9 (w_int .leq H9 v9 (.int .i64 2147483647))) fun v10 H10 =>
  outP CC H10 (w_pick H10 v8 v10 (.bool false)) fun v11 H11 =>
  outP CC H11 (w_int .add H11 x25 (.int .i64 1)) fun v12 H12 =>
  r0 (x0, x4, v11, x24, v12) H12)
  (outP CC H1 (some (.enter 56 [x0])) fun v13 H13 =>
  outP CC H13 (w_int .neq H13 v13 (.int .i64 0)) fun v14 H14 =>
  guardP (boolIs false v14) H14 (outP CC H14 (some (.val x5 H14))) fun v15 H15 =>
  guardP (boolIs false v14) H15 (outP CC H15 (w_un .not H15 v15)) fun v16 H16 =>
  outP CC H16 (w_pick H16 v14 (.bool true) v16) fun v17 H17 =>
  condP v17
  (K (.slice none 0 0 true) H17)
  (K x4 H17))
theorem eQ198_tttthtbl (K : KT) (r0 : (AV × AV × AV × AV × AV) → AH → Prop) (a : TE) (H : AH) : bQ198 [1,1,1,1,0,1,0,0] (kQ198_tttthtb K r0) a H = m_vect_Gettttthtbl K r0 (a 0) (a 4) (a 5) (a 24) (a 25) H :=
  by kernel_rfl
def m_vect_Gettttthtb (K : KT) (x0 x4 x5 x24 x25 : AV) (H : AH) : Prop :=
  loopP (fun (r0 : (AV × AV × AV × AV × AV) → AH → Prop) (s : (AV × AV × AV × AV × AV)) (H : AH) => m_vect_Gettttthtbl K r0 s.1 s.2.1 s.2.2.1 s.2.2.2.1 s.2.2.2.2 H) (x0, x4, x5, x24, x25) H
theorem eQ198_tttthtb (K : KT) (a : TE) (H : AH) : bQ198 [1,1,1,1,0,1,0] (kQ198_ttttht K) a H = m_vect_Gettttthtb K (a 0) (a 4) (a 5) (a 24) (a 25) H :=
  eLoopK (S := (AV × AV × AV × AV × AV)) (fun a => (a 0, a 4, a 5, a 24, a 25)) (fun r0 s H => m_vect_Gettttthtbl K r0 s.1 s.2.1 s.2.2.1 s.2.2.2.1 s.2.2.2.2 H) (by kernel_rfl) (fun r => by kernel_rfl) (eQ198_tttthtbl K)
theorem eQ198_ttttht (K : KT) (a : TE) (H : AH) : bQ198 [1,1,1,1,0,1] (kQ198_tttt K) a H = m_vect_Gettttthtb K (a 0) (a 4) (a 5) (a 24) (a 25) H :=
  eBlockK 0 (by kernel_rfl) (by kernel_rfl) (eQ198_tttthtb K a H)
def m_vect_Gettttth (K : KT) (x0 x4 x5 : AV) (H : AH) : Prop :=
  outP CC H (w_len PP 23 H x4) fun v1 H1 =>
  m_vect_Gettttthtb K x0 x4 x5 v1 (.int .i64 0) H1
theorem eQ198_tttth (K : KT) (a : TE) (H : AH) : bQ198 [1,1,1,1,0] (kQ198_tttt K) a H = m_vect_Gettttth K (a 0) (a 4) (a 5) H :=
  eSeq (ca := subC (bodyC PP 198) [1,1,1,1,0,0]) (by kernel_rfl) (eQ198_ttttht K) (by kernel_rfl)
theorem eQ198_tttt (K : KT) (a : TE) (H : AH) : bQ198 [1,1,1,1] (kQ198 K) a H = m_vect_Gettttth K (a 0) (a 4) (a 5) H :=
  eSeqJ (subC (bodyC PP 198) [1,1,1,1,1]) (by kernel_rfl) (by kernel_rfl) (eQ198_tttth K a H)
def m_vect_Getttt (K : KT) (x0 x3 : AV) (H : AH) : Prop :=
  outP CC H (w_makeSlice PP 21 H x3 x3 none) fun v1 H1 =>
  m_vect_Gettttth K x0 v1 (.bool true) H1
theorem eQ198_ttt (K : KT) (a : TE) (H : AH) : bQ198 [1,1,1] (kQ198 K) a H = m_vect_Getttt K (a 0) (a 3) H :=
  eSeq (ca := subC (bodyC PP 198) [1,1,1,0]) (by kernel_rfl) (eQ198_tttt K) (by kernel_rfl)
def m_vect_Gettt (K : KT) (x0 x3 : AV) (H : AH) : Prop :=
  outP CC H (some (.enter 56 [x0])) fun v1 H1 =>
  outP CC H1 (w_int .neq H1 v1 (.int .i64 0)) fun v2 H2 =>
  guardP (boolIs false v2) H2 (outP CC H2 (some (.val x3 H2))) fun v3 H3 =>
  guardP (boolIs false v2) H3 (outP CC H3 (w_int .lss H3 v3 (.int .i64 0))) fun v4 H4 =>
  outP CC H4 (w_pick H4 v2 (.bool true) v4) fun v5 H5 =>
  guardP (boolIs false v5) H5 (outP CC H5 (some (.val x3 H5))) fun v6 H6 =>
  guardP (boolIs false v5) H6 (outP CC H6 (w_int .gtr H6 v6 (.int .i64 8))) fun v7 H7 =>
  outP CC H7 (w_pick H7 v5 (.bool true) v7) fun v8 H8 =>
  condP v8
  (K (.slice none 0 0 true) H8)
  (m_vect_Getttt K x0 x3 H8)
theorem eQ198_tt (K : KT) (a : TE) (H : AH) : bQ198 [1,1] (kQ198 K) a H = m_vect_Gettt K (a 0) (a 3) H :=
  eSeq (ca := subC (bodyC PP 198) [1,1,0]) (by kernel_rfl) (eQ198_ttt K) (by kernel_rfl)
def m_vect_Gett (K : KT) (x0 : AV) (H : AH) : Prop :=
  outP CC H (some (.enter 55 [x0])) fun v1 H1 =>
  m_vect_Gettt K x0 v1 H1
theorem eQ198_t (K : KT) (a : TE) (H : AH) : bQ198 [1] (kQ198 K) a H = m_vect_Gett K (a 0) H :=
  eSeq (ca := subC (bodyC PP 198) [1,0]) (by kernel_rfl) (eQ198_tt K) (by kernel_rfl)
def m_vect_Get (K : KT) (x0 : AV) (H : AH) : Prop :=
  m_vect_Gett K x0 H
theorem eQ198_ (K : KT) (a : TE) (H : AH) : bQ198 [] (kQ198 K) a H = m_vect_Get K (a 0) H :=
  eSeq (ca := subC (bodyC PP 198) [0]) (by kernel_rfl) (eQ198_t K) (by kernel_rfl)
theorem m_vect_Get_ok (x0 : AV) (H : AH) (K : KT) (h : m_vect_Get K x0 H) : CC.call 198 [x0] H K :=
  have h1 : funP PP CC 198 [x0] H K = bQ198 [] (kQ198 K) (argE [x0]) H := by kernel_rfl
  have h2 : m_vect_Get K (argE [x0] 0) H = m_vect_Get K x0 H := by kernel_rfl
  funP_ok (P := PP) (by kernel_rfl) (by kernel_rfl) ((h1.trans ((eQ198_ K (argE [x0]) H).trans h2)).mpr h)

/-! 55: (*fieldfare/bin.Reader).Int -/
abbrev bQ55 (p : List Nat) (k : KP) : KE := codeP PP CC (subC (bodyC PP 55) p) k
abbrev kQ55 (K : KT) : KP := finP PP (resC PP 55) K
def m_bin_Reader_Intttttttt (K : KT) (x0 x3 x4 : AV) (H : AH) : Prop :=
  outP CC H (some (.enter 104 [x4])) fun v1 H1 =>
  outP CC H1 (w_int .neq H1 v1 x3) fun v2 H2 =>
  condP v2
  (outP CC H2 (w_nil H2 x0) fun v3 H3 =>
  outP CC H3 (w_fieldAddr 1 H3 v3) fun v4 H4 =>
  outP CC H4 (w_store 1 H4 v4 (.bool true)) fun _v5 H5 =>
  K (.int .i64 0) H5)
  (outP CC H2 (w_nil H2 x0) fun v6 H6 =>
  outP CC H6 (w_fieldAddr 0 H6 v6) fun v7 H7 =>
  outP CC H7 (w_load none H7 v7) fun v8 H8 =>
  outP CC H8 (w_int .add H8 (.int .i64 1) x3) fun v9 H9 =>
  outP CC H9 (w_slice (.sl 1) false false H9 v8 (some v9) none none) fun v10 H10 =>
  outP CC H10 (w_nil H10 x0) fun v11 H11 =>
  outP CC H11 (w_fieldAddr 0 H11 v11) fun v12 H12 =>
  outP CC H12 (w_store 1 H12 v12 v10) fun _v13 H13 =>
  K x4 H13)
theorem eQ55_ttttttt (K : KT) (a : TE) (H : AH) : bQ55 [1,1,1,1,1,1,1] (kQ55 K) a H = m_bin_Reader_Intttttttt K (a 0) (a 3) (a 4) H :=
  by kernel_rfl
def m_bin_Reader_Inttttttt (K : KT) (x0 x3 x4 : AV) (H : AH) : Prop :=
  outP CC H (w_int .gtr H x3 (.int .i64 0)) fun v1 H1 =>
  condP v1
  (outP CC H1 (w_int .sub H1 (.int .i64 8) x3) fun v2 H2 =>
  outP CC H2 (w_int .mul H2 (.int .i64 8) v2) fun v3 H3 =>
  outP CC H3 (w_sh .shl H3 x4 v3) fun v4 H4 =>
  outP CC H4 (w_int .sub H4 (.int .i64 8) x3) fun v5 H5 =>
  outP CC H5 (w_int .mul H5 (.int .i64 8) v5) fun v6 H6 =>
  outP CC H6 (w_sh .shr H6 v4 v6) fun v7 H7 =>
  m_bin_Reader_Intttttttt K x0 x3 v7 H7)
  (m_bin_Reader_Intttttttt K x0 x3 x4 H1)
theorem eQ55_tttttt (K : KT) (a : TE) (H : AH) : bQ55 [1,1,1,1,1,1] (kQ55 K) a H = m_bin_Reader_Inttttttt K (a 0) (a 3) (a 4) H :=
  eSeq (ca := subC (bodyC PP 55) [1,1,1,1,1,1,0]) (by kernel_rfl) (eQ55_ttttttt K) (by kernel_rfl)
abbrev kQ55_ttttt (K : KT) : KP := exP (fun (a : TE) (H : AH) => m_bin_Reader_Inttttttt K (a 0) (a 3) (a 4) H) (kQ55 K)
abbrev kQ55_tttttht (K : KT) : KP := blockP 0 (kQ55_ttttt K)
abbrev kQ55_ttttthtb (K : KT) (r0 : (AV × AV × AV × AV × AV) → AH → Prop) : KP := exP (fun (a : TE) (H : AH) => r0 (a 0, a 3, a 4, a 49, a 50) H) (kQ55_tttttht K)
def m_bin_Reader_Intttttthtbl (K : KT) (r0 : (AV × AV × AV × AV × AV) → AH → Prop) (x0 x3 x4 x49 x50 : AV) (H : AH) : Prop :=
  outP CC H (w_int .lss H x50 x49) fun v1 H1 =>
  condP v1
  (outP CC H1 (w_nil H1 x0) fun v2 H2 =>
  outP CC H2 (w_fieldAddr 0 H2 v2) fun v3 H3 =>
  outP CC H3 (w_load none H3 v3) fun v4 H4 =>
  outP CC H4 (w_int .add H4 (.int .i64 1) x50) fun v5 H5 =>
  outP CC H5 (w_indexAddr (.sl 1) H5 v4 v5) fun v6 H6 =>
  outP CC H6 (w_load none H6 v6) fun v7 H7 =>
  outP CC H7 (w_conv (.int .i64) H7 v7 none) fun v8 H8 =>
  outP CC H8 (w_int .mul H8 (.int .i64 8) x50) fun v9 H9 =>
  outP CC H9 (w_sh .shl H9 v8 v9) fun v10 H10 =>
  outP CC H10 (w_int .or H10 x4 v10) fun v11 H11 =>
  outP CC H11 (w_int .add H11 x50 (.int .i64 1)) fun v12 H12 =>
  r0 (x0, x3, v11, x49, v12) H12)
  (m_bin_Reader_Inttttttt K x0 x3 x4 H1)
theorem eQ55_ttttthtbl (K : KT) (r0 : (AV × AV × AV × AV × AV) → AH → Prop) (a : TE) (H : AH) : bQ55 [1,1,1,1,1,0,1,0,0] (kQ55_ttttthtb K r0) a H = m_bin_Reader_Intttttthtbl K r0 (a 0) (a 3) (a 4) (a 49) (a 50) H :=
  by kernel_rfl
def m_bin_Reader_Intttttthtb (K : KT) (x0 x3 x4 x49 x50 : AV) (H : AH) : Prop :=
  loopP (fun (r0 : (AV × AV × AV × AV × AV) → AH → Prop) (s : (AV × AV × AV × AV × AV)) (H : AH) => m_bin_Reader_Intttttthtbl K r0 s.1 s.2.1 s.2.2.1 s.2.2.2.1 s.2.2.2.2 H) (x0, x3, x4, x49, x50) H
theorem eQ55_ttttthtb (K : KT) (a : TE) (H : AH) : bQ55 [1,1,1,1,1,0,1,0] (kQ55_tttttht K) a H = m_bin_Reader_Intttttthtb K (a 0) (a 3) (a 4) (a 49) (a 50) H :=
  eLoopK (S := (AV × AV × AV × AV × AV)) (fun a => (a 0, a 3, a 4, a 49, a 50)) (fun r0 s H => m_bin_Reader_Intttttthtbl K r0 s.1 s.2.1 s.2.2.1 s.2.2.2.1 s.2.2.2.2 H) (by kernel_rfl) (fun r => by kernel_rfl) (eQ55_ttttthtbl K)
theorem eQ55_tttttht (K : KT) (a : TE) (H : AH) : bQ55 [1,1,1,1,1,0,1] (kQ55_ttttt K) a H = m_bin_Reader_Intttttthtb K (a 0) (a 3) (a 4) (a 49) (a 50) H :=
  eBlockK 0 (by kernel_rfl) (by kernel_rfl) (eQ55_ttttthtb K a H)
def m_bin_Reader_Intttttth (K : KT) (x0 x3 x4 : AV) (H : AH) : Prop :=
  m_bin_Reader_Intttttthtb K x0 x3 x4 x3 (.int .i64 0) H
theorem eQ55_ttttth (K : KT) (a : TE) (H : AH) : bQ55 [1,1,1,1,1,0] (kQ55_ttttt K) a H = m_bin_Reader_Intttttth K (a 0) (a 3) (a 4) H :=
  eSeq (ca := subC (bodyC PP 55) [1,1,1,1,1,0,0]) (by kernel_rfl) (eQ55_tttttht K) (by kernel_rfl)
theorem eQ55_ttttt (K : KT) (a : TE) (H : AH) : bQ55 [1,1,1,1,1] (kQ55 K) a H = m_bin_Reader_Intttttth K (a 0) (a 3) (a 4) H :=
  eSeqK (by kernel_rfl) (eQ55_tttttt K) (by kernel_rfl) (eQ55_ttttth K a H)
def m_bin_Reader_Inttttt (K : KT) (x0 x3 : AV) (H : AH) : Prop :=
  m_bin_Reader_Intttttth K x0 x3 (.int .i64 0) H
theorem eQ55_tttt (K : KT) (a : TE) (H : AH) : bQ55 [1,1,1,1] (kQ55 K) a H = m_bin_Reader_Inttttt K (a 0) (a 3) H :=
  eSeq (ca := subC (bodyC PP 55) [1,1,1,1,0]) (by kernel_rfl) (eQ55_ttttt K) (by kernel_rfl)
def m_bin_Reader_Intttt (K : KT) (x0 : AV) (H : AH) : Prop :=
  outP CC H (w_nil H x0) fun v1 H1 =>
  outP CC H1 (w_fieldAddr 0 H1 v1) fun v2 H2 =>
  outP CC H2 (w_load none H2 v2) fun v3 H3 =>
  outP CC H3 (w_indexAddr (.sl 1) H3 v3 (.int .i64 0)) fun v4 H4 =>
  outP CC H4 (w_load none H4 v4) fun v5 H5 =>
  outP CC H5 (w_conv (.int .i64) H5 v5 none) fun v6 H6 =>
  m_bin_Reader_Inttttt K x0 v6 H6
theorem eQ55_ttt (K : KT) (a : TE) (H : AH) : bQ55 [1,1,1] (kQ55 K) a H = m_bin_Reader_Intttt K (a 0) H :=
  eSeq (ca := subC (bodyC PP 55) [1,1,1,0]) (by kernel_rfl) (eQ55_tttt K) (by kernel_rfl)
def m_bin_Reader_Inttt (K : KT) (x0 : AV) (H : AH) : Prop :=
  outP CC H (w_nil H x0) fun v1 H1 =>
  outP CC H1 (w_fieldAddr 0 H1 v1) fun v2 H2 =>
  outP CC H2 (w_load none H2 v2) fun v3 H3 =>
  outP CC H3 (w_len PP 27 H3 v3) fun v4 H4 =>
  outP CC H4 (w_int .eql H4 v4 (.int .i64 0)) fun v5 H5 =>
  guardP (boolIs false v5) H5 (outP CC H5 (some (.val x0 H5))) fun v6 H6 =>
  guardP (boolIs false v5) H6 (outP CC H6 (w_nil H6 v6)) fun v7 H7 =>
  guardP (boolIs false v5) H7 (outP CC H7 (w_fieldAddr 0 H7 v7)) fun v8 H8 =>
  guardP (boolIs false v5) H8 (outP CC H8 (w_load none H8 v8)) fun v9 H9 =>
  guardP (boolIs false v5) H9 (outP CC H9 (w_indexAddr (.sl 1) H9 v9 (.int .i64 0))) fun v10 H10 =>
  guardP (boolIs false v5) H10 (outP CC H10 (w_load none H10 v10)) fun v11 H11 =>
  guardP (boolIs false v5) H11 (outP CC H11 (w_int .gtr H11 v11 (.int .u8 8))) fun v12 H12 =>
  outP CC H12 (w_pick H12 v5 (.bool true) v12) fun v13 H13 =>
  guardP (boolIs false v13) H13 (outP CC H13 (some (.val x0 H13))) fun v14 H14 =>
  guardP (boolIs false v13) H14 (outP CC H14 (w_nil H14 v14)) fun v15 H15 =>
  guardP (boolIs false v13) H15 (outP CC H15 (w_fieldAddr 0 H15 v15)) fun v16 H16 =>
  guardP (boolIs false v13) H16 (outP CC H16 (w_load none H16 v16)) fun v17 H17 =>
  guardP (boolIs false v13) H17 (outP CC H17 (w_len PP 27 H17 v17)) fun v18 H18 =>
  guardP (boolIs false v13) H18 (outP CC H18 (some (.val x0 H18))) fun v19 H19 =>
  guardP (boolIs false v13) H19 (outP CC H19 (w_nil H19 v19)) fun v20 H20 =>
  guardP (boolIs false v13) H20 (outP CC H20 (w_fieldAddr 0 H20 v20)) fun v21 H21 =>
  guardP (boolIs false v13) H21 (outP CC H21 (w_load none H21 v21)) fun v22 H22 =>
  guardP (boolIs false v13) H22 (outP CC H22 (w_indexAddr (.sl 1) H22 v22 (.int .i64 0))) fun v23 H23 =>
  guardP (boolIs false v13) H23 (outP CC H23 (w_load none H23 v23)) fun v24 H24 =>
  guardP (boolIs false v13) H24 (outP CC H24 (w_conv (.int .i64) H24 v24 none)) fun v25 H25 =>
  guardP (boolIs false v13) H25 (outP CC H25 (w_int .leq H25 v18 v25)) fun v26 H26 =>
  outP CC H26 (w_pick H26 v13 (.bool true) v26) fun v27 H27 =>
  condP v27
  (outP CC H27 (w_nil H27 x0) fun v28 H28 =>
  outP CC H28 (w_fieldAddr 1 H28 v28) fun v29 H29 =>
  outP CC H29 (w_store 1 H29 v29 (.bool true)) fun _v30 H30 =>
  K (.int .i64 0) H30)
  (m_bin_Reader_Intttt K x0 H27)
theorem eQ55_tt (K : KT) (a : TE) (H : AH) : bQ55 [1,1] (kQ55 K) a H = m_bin_Reader_Inttt K (a 0) H :=
  eSeq (ca := subC (bodyC PP 55) [1,1,0]) (by kernel_rfl) (eQ55_ttt K) (by kernel_rfl)
def m_bin_Reader_Intt (K : KT) (x0 : AV) (H : AH) : Prop :=
  outP CC H (some (.enter 56 [x0])) fun v1 H1 =>
  outP CC H1 (w_int .neq H1 v1 (.int .i64 0)) fun v2 H2 =>
  condP v2
  (K (.int .i64 0) H2)
  (m_bin_Reader_Inttt K x0 H2)
theorem eQ55_t (K : KT) (a : TE) (H : AH) : bQ55 [1] (kQ55 K) a H = m_bin_Reader_Intt K (a 0) H :=
  eSeq (ca := subC (bodyC PP 55) [1,0]) (by kernel_rfl) (eQ55_tt K) (by kernel_rfl)
def m_bin_Reader_Int (K : KT) (x0 : AV) (H : AH) : Prop :=
  m_bin_Reader_Intt K x0 H
theorem eQ55_ (K : KT) (a : TE) (H : AH) : bQ55 [] (kQ55 K) a H = m_bin_Reader_Int K (a 0) H :=
  eSeq (ca := subC (bodyC PP 55) [0]) (by kernel_rfl) (eQ55_t K) (by kernel_rfl)
theorem m_bin_Reader_Int_ok (x0 : AV) (H : AH) (K : KT) (h : m_bin_Reader_Int K x0 H) : CC.call 55 [x0] H K :=
  have h1 : funP PP CC 55 [x0] H K = bQ55 [] (kQ55 K) (argE [x0]) H := by kernel_rfl
  have h2 : m_bin_Reader_Int K (argE [x0] 0) H = m_bin_Reader_Int K x0 H := by kernel_rfl
  funP_ok (P := PP) (by kernel_rfl) (by kernel_rfl) ((h1.trans ((eQ55_ K (argE [x0]) H).trans h2)).mpr h)

/-! 60: (*fieldfare/bin.Reader).End -/
abbrev bQ60 (p : List Nat) (k : KP) : KE := codeP PP CC (subC (bodyC PP 60) p) k
abbrev kQ60 (K : KT) : KP := finP PP (resC PP 60) K
def m_bin_Reader_End (K : KT) (x0 : AV) (H : AH) : Prop :=
  outP CC H (some (.enter 56 [x0])) fun v1 H1 =>
  outP CC H1 (w_int .neq H1 v1 (.int .i64 0)) fun v2 H2 =>
  guardP (boolIs false v2) H2 (outP CC H2 (some (.val x0 H2))) fun v3 H3 =>
  guardP (boolIs false v2) H3 (outP CC H3 (w_nil H3 v3)) fun v4 H4 =>
  guardP (boolIs false v2) H4 (outP CC H4 (w_fieldAddr 0 H4 v4)) fun v5 H5 =>
  guardP (boolIs false v2) H5 (outP CC H5 (w_load none H5 v5)) fun v6 H6 =>
  guardP (boolIs false v2) H6 (outP CC H6 (w_len PP 27 H6 v6)) fun v7 H7 =>
  guardP (boolIs false v2) H7 (outP CC H7 (w_int .gtr H7 v7 (.int .i64 0))) fun v8 H8 =>
  outP CC H8 (w_pick H8 v2 (.bool true) v8) fun v9 H9 =>
  condP v9
  (K (.int .i64 1) H9)
  (K (.int .i64 0) H9)
theorem eQ60_ (K : KT) (a : TE) (H : AH) : bQ60 [] (kQ60 K) a H = m_bin_Reader_End K (a 0) H :=
  by kernel_rfl
theorem m_bin_Reader_End_ok (x0 : AV) (H : AH) (K : KT) (h : m_bin_Reader_End K x0 H) : CC.call 60 [x0] H K :=
  have h1 : funP PP CC 60 [x0] H K = bQ60 [] (kQ60 K) (argE [x0]) H := by kernel_rfl
  have h2 : m_bin_Reader_End K (argE [x0] 0) H = m_bin_Reader_End K x0 H := by kernel_rfl
  funP_ok (P := PP) (by kernel_rfl) (by kernel_rfl) ((h1.trans ((eQ60_ K (argE [x0]) H).trans h2)).mpr h)

/-! 56: (*fieldfare/bin.Reader).Err -/
abbrev bQ56 (p : List Nat) (k : KP) : KE := codeP PP CC (subC (bodyC PP 56) p) k
abbrev kQ56 (K : KT) : KP := finP PP (resC PP 56) K
def m_bin_Reader_Err (K : KT) (x0 : AV) (H : AH) : Prop :=
  outP CC H (w_eq PP .eql 97 false true H x0 (.ptr none)) fun v1 H1 =>
  guardP (boolIs false v1) H1 (outP CC H1 (some (.val x0 H1))) fun v2 H2 =>
  guardP (boolIs false v1) H2 (outP CC H2 (w_nil H2 v2)) fun v3 H3 =>
  guardP (boolIs false v1) H3 (outP CC H3 (w_fieldAddr 1 H3 v3)) fun v4 H4 =>
  guardP (boolIs false v1) H4 (outP CC H4 (w_load none H4 v4)) fun v5 H5 =>
  outP CC H5 (w_pick H5 v1 (.bool true) v5) fun v6 H6 =>
  condP v6
  (K (.int .i64 1) H6)
  (K (.int .i64 0) H6)
theorem eQ56_ (K : KT) (a : TE) (H : AH) : bQ56 [] (kQ56 K) a H = m_bin_Reader_Err K (a 0) H :=
  by kernel_rfl
theorem m_bin_Reader_Err_ok (x0 : AV) (H : AH) (K : KT) (h : m_bin_Reader_Err K x0 H) : CC.call 56 [x0] H K :=
  have h1 : funP PP CC 56 [x0] H K = bQ56 [] (kQ56 K) (argE [x0]) H := by kernel_rfl
  have h2 : m_bin_Reader_Err K (argE [x0] 0) H = m_bin_Reader_Err K x0 H := by kernel_rfl
  funP_ok (P := PP) (by kernel_rfl) (by kernel_rfl) ((h1.trans ((eQ56_ K (argE [x0]) H).trans h2)).mpr h)

/-! 53: fieldfare/fieldfareref1.PutVec -/
abbrev bQ53 (p : List Nat) (k : KP) : KE := codeP PP CC (subC (bodyC PP 53) p) k
abbrev kQ53 (K : KT) : KP := finP PP (resC PP 53) K
abbrev kQ53_tt (K : KT) : KP := exP (bQ53 [1,1,1] (kQ53 K)) (kQ53 K)
abbrev kQ53_ttht (K : KT) : KP := blockP 0 (kQ53_tt K)
abbrev kQ53_tthtb (K : KT) (r0 : (AV × AV × AV × AV) → AH → Prop) : KP := exP (fun (a : TE) (H : AH) => r0 (a 0, a 3, a 9, a 10) H) (kQ53_ttht K)
def m_fieldfareref1_PutVectthtbl (K : KT) (r0 : (AV × AV × AV × AV) → AH → Prop) (x0 x3 x9 x10 : AV) (H : AH) : Prop :=
  outP CC H (w_int .lss H x10 x9) fun v1 H1 =>
  condP v1
  (outP CC H1 (w_indexAddr (.sl 1) H1 x0 x10) fun v2 H2 =>
  outP CC H2 (w_load none H2 v2) fun v3 H3 =>
  outP CC H3 (w_conv (.int .i64) H3 v3 none) fun v4 H4 =>
  outP CC H4 (some (.enter 50 [v4])) fun v5 H5 =>
  outP CC H5 (w_append 5 1 1 H5 x3 v5 none) fun v6 H6 =>
  outP CC H6 (w_int .add H6 x10 (.int .i64 1)) fun v7 H7 =>
  r0 (x0, v6, x9, v7) H7)
  (K x3 H1)
theorem eQ53_tthtbl (K : KT) (r0 : (AV × AV × AV × AV) → AH → Prop) (a : TE) (H : AH) : bQ53 [1,1,0,1,0,0] (kQ53_tthtb K r0) a H = m_fieldfareref1_PutVectthtbl K r0 (a 0) (a 3) (a 9) (a 10) H :=
  by kernel_rfl
def m_fieldfareref1_PutVectthtb (K : KT) (x0 x3 x9 x10 : AV) (H : AH) : Prop :=
  loopP (fun (r0 : (AV × AV × AV × AV) → AH → Prop) (s : (AV × AV × AV × AV)) (H : AH) => m_fieldfareref1_PutVectthtbl K r0 s.1 s.2.1 s.2.2.1 s.2.2.2 H) (x0, x3, x9, x10) H
theorem eQ53_tthtb (K : KT) (a : TE) (H : AH) : bQ53 [1,1,0,1,0] (kQ53_ttht K) a H = m_fieldfareref1_PutVectthtb K (a 0) (a 3) (a 9) (a 10) H :=
  eLoopK (S := (AV × AV × AV × AV)) (fun a => (a 0, a 3, a 9, a 10)) (fun r0 s H => m_fieldfareref1_PutVectthtbl K r0 s.1 s.2.1 s.2.2.1 s.2.2.2 H) (by kernel_rfl) (fun r => by kernel_rfl) (eQ53_tthtbl K)
theorem eQ53_ttht (K : KT) (a : TE) (H : AH) : bQ53 [1,1,0,1] (kQ53_tt K) a H = m_fieldfareref1_PutVectthtb K (a 0) (a 3) (a 9) (a 10) H :=
  eBlockK 0 (by kernel_rfl) (by kernel_rfl) (eQ53_tthtb K a H)
def m_fieldfareref1_PutVectth (K : KT) (x0 x3 : AV) (H : AH) : Prop :=
  outP CC H (w_len PP 23 H x0) fun v1 H1 =>
  m_fieldfareref1_PutVectthtb K x0 x3 v1 (.int .i64 0) H1
theorem eQ53_tth (K : KT) (a : TE) (H : AH) : bQ53 [1,1,0] (kQ53_tt K) a H = m_fieldfareref1_PutVectth K (a 0) (a 3) H :=
  eSeq (ca := subC (bodyC PP 53) [1,1,0,0]) (by kernel_rfl) (eQ53_ttht K) (by kernel_rfl)
theorem eQ53_tt (K : KT) (a : TE) (H : AH) : bQ53 [1,1] (kQ53 K) a H = m_fieldfareref1_PutVectth K (a 0) (a 3) H :=
  eSeqJ (subC (bodyC PP 53) [1,1,1]) (by kernel_rfl) (by kernel_rfl) (eQ53_tth K a H)
def m_fieldfareref1_PutVect (K : KT) (x0 : AV) (H : AH) : Prop :=
  outP CC H (w_len PP 23 H x0) fun v1 H1 =>
  outP CC H1 (some (.enter 50 [v1])) fun v2 H2 =>
  m_fieldfareref1_PutVectth K x0 v2 H2
theorem eQ53_t (K : KT) (a : TE) (H : AH) : bQ53 [1] (kQ53 K) a H = m_fieldfareref1_PutVect K (a 0) H :=
  eSeq (ca := subC (bodyC PP 53) [1,0]) (by kernel_rfl) (eQ53_tt K) (by kernel_rfl)
def m_fieldfareref1_PutVec (K : KT) (x0 : AV) (H : AH) : Prop :=
  m_fieldfareref1_PutVect K x0 H
theorem eQ53_ (K : KT) (a : TE) (H : AH) : bQ53 [] (kQ53 K) a H = m_fieldfareref1_PutVec K (a 0) H :=
  eSeq (ca := subC (bodyC PP 53) [0]) (by kernel_rfl) (eQ53_t K) (by kernel_rfl)
theorem m_fieldfareref1_PutVec_ok (x0 : AV) (H : AH) (K : KT) (h : m_fieldfareref1_PutVec K x0 H) : CC.call 53 [x0] H K :=
  have h1 : funP PP CC 53 [x0] H K = bQ53 [] (kQ53 K) (argE [x0]) H := by kernel_rfl
  have h2 : m_fieldfareref1_PutVec K (argE [x0] 0) H = m_fieldfareref1_PutVec K x0 H := by kernel_rfl
  funP_ok (P := PP) (by kernel_rfl) (by kernel_rfl) ((h1.trans ((eQ53_ K (argE [x0]) H).trans h2)).mpr h)

/-! 61: fieldfare/fieldfareref1.EqVec -/
abbrev bQ61 (p : List Nat) (k : KP) : KE := codeP PP CC (subC (bodyC PP 61) p) k
abbrev kQ61 (K : KT) : KP := finP PP (resC PP 61) K
abbrev kQ61_tt (K : KT) : KP := exP (bQ61 [1,1,1] (kQ61 K)) (kQ61 K)
abbrev kQ61_ttht (K : KT) : KP := blockP 0 (kQ61_tt K)
abbrev kQ61_tthtb (K : KT) (r0 : (AV × AV × AV × AV) → AH → Prop) : KP := exP (fun (a : TE) (H : AH) => r0 (a 0, a 1, a 12, a 13) H) (kQ61_ttht K)
def m_fieldfareref1_EqVectthtbl (K : KT) (r0 : (AV × AV × AV × AV) → AH → Prop) (x0 x1 x12 x13 : AV) (H : AH) : Prop :=
  outP CC H (w_int .lss H x13 x12) fun v1 H1 =>
  condP v1
  (outP CC H1 (w_indexAddr (.sl 1) H1 x0 x13) fun v2 H2 =>
  outP CC H2 (w_load none H2 v2) fun v3 H3 =>
  outP CC H3 (w_indexAddr (.sl 1) H3 x1 x13) fun v4 H4 =>
  outP CC H4 (w_load none H4 v4) fun v5 H5 =>
  outP CC H5 (w_int .neq H5 v3 v5) fun v6 H6 =>
  condP v6
  (K (.bool false) H6)
  (outP CC H6 (w_int .add H6 x13 (.int .i64 1)) fun v7 H7 =>
  r0 (x0, x1, x12, v7) H7))
  (K (.bool true) H1)
theorem eQ61_tthtbl (K : KT) (r0 : (AV × AV × AV × AV) → AH → Prop) (a : TE) (H : AH) : bQ61 [1,1,0,1,0,0] (kQ61_tthtb K r0) a H = m_fieldfareref1_EqVectthtbl K r0 (a 0) (a 1) (a 12) (a 13) H :=
  by kernel_rfl
def m_fieldfareref1_EqVectthtb (K : KT) (x0 x1 x12 x13 : AV) (H : AH) : Prop :=
  loopP (fun (r0 : (AV × AV × AV × AV) → AH → Prop) (s : (AV × AV × AV × AV)) (H : AH) => m_fieldfareref1_EqVectthtbl K r0 s.1 s.2.1 s.2.2.1 s.2.2.2 H) (x0, x1, x12, x13) H
theorem eQ61_tthtb (K : KT) (a : TE) (H : AH) : bQ61 [1,1,0,1,0] (kQ61_ttht K) a H = m_fieldfareref1_EqVectthtb K (a 0) (a 1) (a 12) (a 13) H :=
  eLoopK (S := (AV × AV × AV × AV)) (fun a => (a 0, a 1, a 12, a 13)) (fun r0 s H => m_fieldfareref1_EqVectthtbl K r0 s.1 s.2.1 s.2.2.1 s.2.2.2 H) (by kernel_rfl) (fun r => by kernel_rfl) (eQ61_tthtbl K)
theorem eQ61_ttht (K : KT) (a : TE) (H : AH) : bQ61 [1,1,0,1] (kQ61_tt K) a H = m_fieldfareref1_EqVectthtb K (a 0) (a 1) (a 12) (a 13) H :=
  eBlockK 0 (by kernel_rfl) (by kernel_rfl) (eQ61_tthtb K a H)
def m_fieldfareref1_EqVectth (K : KT) (x0 x1 : AV) (H : AH) : Prop :=
  outP CC H (w_len PP 23 H x0) fun v1 H1 =>
  m_fieldfareref1_EqVectthtb K x0 x1 v1 (.int .i64 0) H1
theorem eQ61_tth (K : KT) (a : TE) (H : AH) : bQ61 [1,1,0] (kQ61_tt K) a H = m_fieldfareref1_EqVectth K (a 0) (a 1) H :=
  eSeq (ca := subC (bodyC PP 61) [1,1,0,0]) (by kernel_rfl) (eQ61_ttht K) (by kernel_rfl)
theorem eQ61_tt (K : KT) (a : TE) (H : AH) : bQ61 [1,1] (kQ61 K) a H = m_fieldfareref1_EqVectth K (a 0) (a 1) H :=
  eSeqJ (subC (bodyC PP 61) [1,1,1]) (by kernel_rfl) (by kernel_rfl) (eQ61_tth K a H)
def m_fieldfareref1_EqVect (K : KT) (x0 x1 : AV) (H : AH) : Prop :=
  outP CC H (w_len PP 23 H x0) fun v1 H1 =>
  outP CC H1 (w_len PP 23 H1 x1) fun v2 H2 =>
  outP CC H2 (w_int .neq H2 v1 v2) fun v3 H3 =>
  condP v3
  (K (.bool false) H3)
  (m_fieldfareref1_EqVectth K x0 x1 H3)
theorem eQ61_t (K : KT) (a : TE) (H : AH) : bQ61 [1] (kQ61 K) a H = m_fieldfareref1_EqVect K (a 0) (a 1) H :=
  eSeq (ca := subC (bodyC PP 61) [1,0]) (by kernel_rfl) (eQ61_tt K) (by kernel_rfl)
def m_fieldfareref1_EqVec (K : KT) (x0 x1 : AV) (H : AH) : Prop :=
  m_fieldfareref1_EqVect K x0 x1 H
theorem eQ61_ (K : KT) (a : TE) (H : AH) : bQ61 [] (kQ61 K) a H = m_fieldfareref1_EqVec K (a 0) (a 1) H :=
  eSeq (ca := subC (bodyC PP 61) [0]) (by kernel_rfl) (eQ61_t K) (by kernel_rfl)
theorem m_fieldfareref1_EqVec_ok (x0 x1 : AV) (H : AH) (K : KT) (h : m_fieldfareref1_EqVec K x0 x1 H) : CC.call 61 [x0, x1] H K :=
  have h1 : funP PP CC 61 [x0, x1] H K = bQ61 [] (kQ61 K) (argE [x0, x1]) H := by kernel_rfl
  have h2 : m_fieldfareref1_EqVec K (argE [x0, x1] 0) (argE [x0, x1] 1) H = m_fieldfareref1_EqVec K x0 x1 H := by kernel_rfl
  funP_ok (P := PP) (by kernel_rfl) (by kernel_rfl) ((h1.trans ((eQ61_ K (argE [x0, x1]) H).trans h2)).mpr h)

/-! 50: fieldfare/fieldfareref1.Int -/
abbrev bQ50 (p : List Nat) (k : KP) : KE := codeP PP CC (subC (bodyC PP 50) p) k
abbrev kQ50 (K : KT) : KP := finP PP (resC PP 50) K
abbrev kQ50_tt (K : KT) : KP := exP (bQ50 [1,1,1] (kQ50 K)) (kQ50 K)
abbrev kQ50_ttht (K : KT) : KP := blockP 0 (kQ50_tt K)
abbrev kQ50_tthtb (K : KT) (r0 : (AV × AV) → AH → Prop) : KP := exP (fun (a : TE) (H : AH) => r0 (a 3, a 4) H) (kQ50_ttht K)
def m_fieldfareref1_Inttthtbl (K : KT) (r0 : (AV × AV) → AH → Prop) (x3 x4 : AV) (H : AH) : Prop :=
  outP CC H (w_int .eql H x4 (.int .i64 0)) fun v1 H1 =>
  guardP (boolIs true v1) H1 (outP CC H1 (some (.val x3 H1))) fun v2 H2 =>
  guardP (boolIs true v1) H2 (outP CC H2 (w_len PP 27 H2 v2)) fun v3 H3 =>
  guardP (boolIs true v1) H3 (outP CC H3 (w_int .eql H3 v3 (.int .i64 0))) fun v4 H4 =>
  guardP (boolIs true v1) H4 (outP CC H4 (some (.val v4 H4))) fun v5 H5 =>
  guardP (boolIs false v5) H5 (outP CC H5 (some (.val x3 H5))) fun v6 H6 =>
  guardP (boolIs false v5) H6 (outP CC H6 (some (.val x3 H6))) fun v7 H7 =>
  guardP (boolIs false v5) H7 (outP CC H7 (w_len PP 27 H7 v7)) fun v8 H8 =>
  guardP (boolIs false v5) H8 (outP CC H8 (w_int .sub H8 v8 (.int .i64 1))) fun v9 H9 =>
  guardP (boolIs false v5) H9 (outP CC H9 (w_indexAddr (.sl 1) H9 v6 v9)) fun v10 H10 =>
  guardP (boolIs false v5) H10 (outP CC H10 (w_load none H10 v10)) fun v11 H11 =>
  guardP (boolIs false v5) H11 (outP CC H11 (w_int .lss H11 v11 (.int .u8 128))) fun v12 H12 =>
  guardP (boolIs true v1) H12 (outP CC H12 (w_pick H12 v5 (.bool true) v12)) fun v13 H13 =>
  outP CC H13 (w_pick H13 v1 v13 (.bool false)) fun v14 H14 =>
  guardP (boolIs false v14) H14 (outP CC H14 (some (.val x4 H14))) fun v15 H15 =>
  guardP (boolIs false v14) H15 (outP CC H15 (w_int .eql H15 v15 (.int .i64 (-1)))) fun v16 H16 =>
  guardP (boolIs false v14) H16 (outP CC H16 (some (.val v16 H16))) fun v17 H17 =>
  guardP (boolIs true v17) H17 (outP CC H17 (some (.val x3 H17))) fun v18 H18 =>
  guardP (boolIs true v17) H18 (outP CC H18 (w_len PP 27 H18 v18)) fun v19 H19 =>
  guardP (boolIs true v17) H19 (outP CC H19 (w_int .gtr H19 v19 (.int .i64 0))) fun v20 H20 =>
  guardP (boolIs false v14) H20 (outP CC H20 (w_pick H20 v17 v20 (.bool false))) fun v21 H21 =>
  guardP (boolIs false v14) H21 (outP CC H21 (some (.val v21 H21))) fun v22 H22 =>
  guardP (boolIs true v22) H22 (outP CC H22 (some (.val x3 H22))) fun v23 H23 =>
  guardP (boolIs true v22) H23 (outP CC H23 (some (.val x3 H23))) fun v24 H24 =>
  guardP (boolIs true v22) H24 (outP CC H24 (w_len PP 27 H24 v24)) fun v25 H25 =>
  guardP (boolIs true v22) H25 (outP CC H25 (w_int .sub H25 v25 (.int .i64 1))) fun v26 H26 =>
  guardP (boolIs true v22) H26 (outP CC H26 (w_indexAddr (.sl 1) H26 v23 v26)) fun v27 H27 =>
  guardP (boolIs true v22) H27 (outP CC H27 (w_load none H27 v27)) fun v28 H28 =>
  guardP (boolIs true v22) H28 (outP CC H28 (w_int .geq H28 v28 (.int .u8 128))) fun v29 H29 =>
  guardP (boolIs false v14) H29 (outP CC H29 (w_pick H29 v22 v29 (.bool false))) fun v30 H30 =>
  outP CC H30 (w_pick H30 v14 (.bool true) v30) fun v31 H31 =>
  condP v31
  (outP CC H31 (w_len PP 27 H31 x3) fun v32 H32 =>
  outP CC H32 (w_conv (.int .u8) H32 v32 none) fun v33 H33 =>
  outP CC H33 (w_buildSlice PP 5 1 H33 [(0, v33)] none) fun v34 H34 =>
  outP CC H34 (w_append 5 1 1 H34 v34 x3 none) fun v35 H35 =>
  K v35 H35)
  (outP CC H31 (w_int .and H31 x4 (.int .i64 255)) fun v36 H36 =>
  outP CC H36 (w_conv (.int .u8) H36 v36 none) fun v37 H37 =>
  outP CC H37 (w_buildSlice PP 5 1 H37 [(0, v37)] none) fun v38 H38 =>
  outP CC H38 (w_append 5 1 1 H38 x3 v38 none) fun v39 H39 =>
  outP CC H39 (w_sh .shr H39 x4 (.int .u64 8)) fun v40 H40 =>
  r0 (v39, v40) H40)
theorem eQ50_tthtbl (K : KT) (r0 : (AV × AV) → AH → Prop) (a : TE) (H : AH) : bQ50 [1,1,0,1,0,0] (kQ50_tthtb K r0) a H = m_fieldfareref1_Inttthtbl K r0 (a 3) (a 4) H :=
  by kernel_rfl
def m_fieldfareref1_Inttthtb (K : KT) (x3 x4 : AV) (H : AH) : Prop :=
  loopP (fun (r0 : (AV × AV) → AH → Prop) (s : (AV × AV)) (H : AH) => m_fieldfareref1_Inttthtbl K r0 s.1 s.2 H) (x3, x4) H
theorem eQ50_tthtb (K : KT) (a : TE) (H : AH) : bQ50 [1,1,0,1,0] (kQ50_ttht K) a H = m_fieldfareref1_Inttthtb K (a 3) (a 4) H :=
  eLoopK (S := (AV × AV)) (fun a => (a 3, a 4)) (fun r0 s H => m_fieldfareref1_Inttthtbl K r0 s.1 s.2 H) (by kernel_rfl) (fun r => by kernel_rfl) (eQ50_tthtbl K)
theorem eQ50_ttht (K : KT) (a : TE) (H : AH) : bQ50 [1,1,0,1] (kQ50_tt K) a H = m_fieldfareref1_Inttthtb K (a 3) (a 4) H :=
  eBlockK 0 (by kernel_rfl) (by kernel_rfl) (eQ50_tthtb K a H)
def m_fieldfareref1_Inttth (K : KT) (x0 x3 : AV) (H : AH) : Prop :=
  m_fieldfareref1_Inttthtb K x3 x0 H
theorem eQ50_tth (K : KT) (a : TE) (H : AH) : bQ50 [1,1,0] (kQ50_tt K) a H = m_fieldfareref1_Inttth K (a 0) (a 3) H :=
  eSeq (ca := subC (bodyC PP 50) [1,1,0,0]) (by kernel_rfl) (eQ50_ttht K) (by kernel_rfl)
theorem eQ50_tt (K : KT) (a : TE) (H : AH) : bQ50 [1,1] (kQ50 K) a H = m_fieldfareref1_Inttth K (a 0) (a 3) H :=
  eSeqJ (subC (bodyC PP 50) [1,1,1]) (by kernel_rfl) (by kernel_rfl) (eQ50_tth K a H)
def m_fieldfareref1_Intt (K : KT) (x0 : AV) (H : AH) : Prop :=
  m_fieldfareref1_Inttth K x0 (.slice none 0 0 true) H
theorem eQ50_t (K : KT) (a : TE) (H : AH) : bQ50 [1] (kQ50 K) a H = m_fieldfareref1_Intt K (a 0) H :=
  eSeq (ca := subC (bodyC PP 50) [1,0]) (by kernel_rfl) (eQ50_tt K) (by kernel_rfl)
def m_fieldfareref1_Int (K : KT) (x0 : AV) (H : AH) : Prop :=
  m_fieldfareref1_Intt K x0 H
theorem eQ50_ (K : KT) (a : TE) (H : AH) : bQ50 [] (kQ50 K) a H = m_fieldfareref1_Int K (a 0) H :=
  eSeq (ca := subC (bodyC PP 50) [0]) (by kernel_rfl) (eQ50_t K) (by kernel_rfl)
theorem m_fieldfareref1_Int_ok (x0 : AV) (H : AH) (K : KT) (h : m_fieldfareref1_Int K x0 H) : CC.call 50 [x0] H K :=
  have h1 : funP PP CC 50 [x0] H K = bQ50 [] (kQ50 K) (argE [x0]) H := by kernel_rfl
  have h2 : m_fieldfareref1_Int K (argE [x0] 0) H = m_fieldfareref1_Int K x0 H := by kernel_rfl
  funP_ok (P := PP) (by kernel_rfl) (by kernel_rfl) ((h1.trans ((eQ50_ K (argE [x0]) H).trans h2)).mpr h)

/-! 46: fieldfare/req.is -/
abbrev bQ46 (p : List Nat) (k : KP) : KE := codeP PP CC (subC (bodyC PP 46) p) k
abbrev kQ46 (K : KT) : KP := finP PP (resC PP 46) K
def m_req_is (K : KT) (x0 : AV) (H : AH) : Prop :=
  outP CC H (w_int .geq H x0 (.int .i64 1)) fun v1 H1 =>
  guardP (boolIs true v1) H1 (outP CC H1 (some (.val x0 H1))) fun v2 H2 =>
  guardP (boolIs true v1) H2 (outP CC H2 (w_int .leq H2 v2 (.int .i64 15))) fun v3 H3 =>
  outP CC H3 (w_pick H3 v1 v3 (.bool false)) fun v4 H4 =>
  K v4 H4
theorem eQ46_ (K : KT) (a : TE) (H : AH) : bQ46 [] (kQ46 K) a H = m_req_is K (a 0) H :=
  by kernel_rfl
theorem m_req_is_ok (x0 : AV) (H : AH) (K : KT) (h : m_req_is K x0 H) : CC.call 46 [x0] H K :=
  have h1 : funP PP CC 46 [x0] H K = bQ46 [] (kQ46 K) (argE [x0]) H := by kernel_rfl
  have h2 : m_req_is K (argE [x0] 0) H = m_req_is K x0 H := by kernel_rfl
  funP_ok (P := PP) (by kernel_rfl) (by kernel_rfl) ((h1.trans ((eQ46_ K (argE [x0]) H).trans h2)).mpr h)

/-! 48: fieldfare/req.bare -/
abbrev bQ48 (p : List Nat) (k : KP) : KE := codeP PP CC (subC (bodyC PP 48) p) k
abbrev kQ48 (K : KT) : KP := finP PP (resC PP 48) K
abbrev kQ48_tt (K : KT) : KP := exP (bQ48 [1,1,1] (kQ48 K)) (kQ48 K)
abbrev kQ48_ttht (K : KT) : KP := blockP 0 (kQ48_tt K)
def m_req_baretthtbt (K : KT) (x1 x2 x3 : AV) (H : AH) : Prop :=
  outP CC H (w_fieldAddr 1 H x1) fun v1 H1 =>
  outP CC H1 (w_load none H1 v1) fun v2 H2 =>
  outP CC H2 (w_fieldAddr 7 H2 x1) fun v3 H3 =>
  outP CC H3 (w_load none H3 v3) fun v4 H4 =>
  outP CC H4 (w_fieldAddr 9 H4 x1) fun v5 H5 =>
  outP CC H5 (w_load none H5 v5) fun v6 H6 =>
  outP CC H6 (w_fieldAddr 1 H6 x3) fun v7 H7 =>
  outP CC H7 (w_store 1 H7 v7 v2) fun _v8 H8 =>
  ckP (reC true (w_load none H8 v3) v4) <|
  ckP (reC true (w_load none H8 v5) v6) <|
  outP CC H8 (w_fieldAddr 7 H8 x3) fun v9 H9 =>
  outP CC H9 (w_store 1 H9 v9 v4) fun _v10 H10 =>
  ckP (reC true (w_load none H10 v5) v6) <|
  outP CC H10 (w_fieldAddr 9 H10 x3) fun v11 H11 =>
  outP CC H11 (w_store 1 H11 v11 v6) fun _v12 H12 =>
  outP CC H12 (w_load (some 11) H12 x3) fun v13 H13 =>
  outP CC H13 (w_store 11 H13 x2 v13) fun _v14 H14 =>
  endP (resR (partF (some (some 11))) H14 x2 (some [])) K H14
theorem eQ48_tthtbt (K : KT) (a : TE) (H : AH) : bQ48 [1,1,0,1,0,1] (kQ48_ttht K) a H = m_req_baretthtbt K (a 1) (a 2) (a 3) H :=
  by kernel_rfl
abbrev kQ48_tthtb (K : KT) : KP := exP (fun (a : TE) (H : AH) => m_req_baretthtbt K (a 1) (a 2) (a 3) H) (kQ48_ttht K)
abbrev kQ48_tthtbh (K : KT) : KP := blockP 8 (kQ48_tthtb K)
def m_req_baretthtbhbt (K : KT) (x1 x2 x3 : AV) (H : AH) : Prop :=
  outP CC H (w_fieldAddr 10 H x1) fun v1 H1 =>
  outP CC H1 (w_load none H1 v1) fun v2 H2 =>
  outP CC H2 (w_fieldAddr 10 H2 x3) fun v3 H3 =>
  outP CC H3 (w_store 1 H3 v3 v2) fun _v4 H4 =>
  outP CC H4 (w_load (some 11) H4 x3) fun v5 H5 =>
  outP CC H5 (w_store 11 H5 x2 v5) fun _v6 H6 =>
  endP (resR (partF (some (some 11))) H6 x2 (some [])) K H6
theorem eQ48_tthtbhbt (K : KT) (a : TE) (H : AH) : bQ48 [1,1,0,1,0,0,0,1] (kQ48_tthtbh K) a H = m_req_baretthtbhbt K (a 1) (a 2) (a 3) H :=
  by kernel_rfl
abbrev kQ48_tthtbhb (K : KT) : KP := exP (fun (a : TE) (H : AH) => m_req_baretthtbhbt K (a 1) (a 2) (a 3) H) (kQ48_tthtbh K)
abbrev kQ48_tthtbhbh (K : KT) : KP := blockP 7 (kQ48_tthtbhb K)
def m_req_baretthtbhbhbt (K : KT) (x1 x2 x3 : AV) (H : AH) : Prop :=
  outP CC H (w_fieldAddr 2 H x1) fun v1 H1 =>
  outP CC H1 (w_load none H1 v1) fun v2 H2 =>
  outP CC H2 (w_fieldAddr 1 H2 x1) fun v3 H3 =>
  outP CC H3 (w_load none H3 v3) fun v4 H4 =>
  outP CC H4 (w_fieldAddr 2 H4 x3) fun v5 H5 =>
  outP CC H5 (w_store 1 H5 v5 v2) fun _v6 H6 =>
  ckP (reC true (w_load none H6 v3) v4) <|
  outP CC H6 (w_fieldAddr 1 H6 x3) fun v7 H7 =>
  outP CC H7 (w_store 1 H7 v7 v4) fun _v8 H8 =>
  outP CC H8 (w_load (some 11) H8 x3) fun v9 H9 =>
  outP CC H9 (w_store 11 H9 x2 v9) fun _v10 H10 =>
  endP (resR (partF (some (some 11))) H10 x2 (some [])) K H10
theorem eQ48_tthtbhbhbt (K : KT) (a : TE) (H : AH) : bQ48 [1,1,0,1,0,0,0,0,0,1] (kQ48_tthtbhbh K) a H = m_req_baretthtbhbhbt K (a 1) (a 2) (a 3) H :=
  by kernel_rfl
abbrev kQ48_tthtbhbhb (K : KT) : KP := exP (fun (a : TE) (H : AH) => m_req_baretthtbhbhbt K (a 1) (a 2) (a 3) H) (kQ48_tthtbhbh K)
abbrev kQ48_tthtbhbhbh (K : KT) : KP := blockP 6 (kQ48_tthtbhbhb K)
def m_req_baretthtbhbhbhbt (K : KT) (x1 x2 x3 : AV) (H : AH) : Prop :=
  outP CC H (w_fieldAddr 1 H x1) fun v1 H1 =>
  outP CC H1 (w_load none H1 v1) fun v2 H2 =>
  outP CC H2 (w_fieldAddr 3 H2 x1) fun v3 H3 =>
  outP CC H3 (w_load none H3 v3) fun v4 H4 =>
  outP CC H4 (w_fieldAddr 1 H4 x3) fun v5 H5 =>
  outP CC H5 (w_store 1 H5 v5 v2) fun _v6 H6 =>
  ckP (reC true (w_load none H6 v3) v4) <|
  outP CC H6 (w_fieldAddr 3 H6 x3) fun v7 H7 =>
  outP CC H7 (w_store 1 H7 v7 v4) fun _v8 H8 =>
  outP CC H8 (w_load (some 11) H8 x3) fun v9 H9 =>
  outP CC H9 (w_store 11 H9 x2 v9) fun _v10 H10 =>
  endP (resR (partF (some (some 11))) H10 x2 (some [])) K H10
theorem eQ48_tthtbhbhbhbt (K : KT) (a : TE) (H : AH) : bQ48 [1,1,0,1,0,0,0,0,0,0,0,1] (kQ48_tthtbhbhbh K) a H = m_req_baretthtbhbhbhbt K (a 1) (a 2) (a 3) H :=
  by kernel_rfl
abbrev kQ48_tthtbhbhbhb (K : KT) : KP := exP (fun (a : TE) (H : AH) => m_req_baretthtbhbhbhbt K (a 1) (a 2) (a 3) H) (kQ48_tthtbhbhbh K)
abbrev kQ48_tthtbhbhbhbh (K : KT) : KP := blockP 5 (kQ48_tthtbhbhbhb K)
def m_req_baretthtbhbhbhbhbt (K : KT) (x1 x2 x3 : AV) (H : AH) : Prop :=
  outP CC H (w_fieldAddr 7 H x1) fun v1 H1 =>
  outP CC H1 (w_load none H1 v1) fun v2 H2 =>
  outP CC H2 (w_fieldAddr 8 H2 x1) fun v3 H3 =>
  outP CC H3 (w_load none H3 v3) fun v4 H4 =>
  outP CC H4 (w_fieldAddr 10 H4 x1) fun v5 H5 =>
  outP CC H5 (w_load none H5 v5) fun v6 H6 =>
  outP CC H6 (w_fieldAddr 7 H6 x3) fun v7 H7 =>
  outP CC H7 (w_store 1 H7 v7 v2) fun _v8 H8 =>
  ckP (reC true (w_load none H8 v3) v4) <|
  ckP (reC true (w_load none H8 v5) v6) <|
  outP CC H8 (w_fieldAddr 8 H8 x3) fun v9 H9 =>
  outP CC H9 (w_store 1 H9 v9 v4) fun _v10 H10 =>
  ckP (reC true (w_load none H10 v5) v6) <|
  outP CC H10 (w_fieldAddr 10 H10 x3) fun v11 H11 =>
  outP CC H11 (w_store 1 H11 v11 v6) fun _v12 H12 =>
  m_req_baretthtbhbhbhbt K x1 x2 x3 H12
theorem eQ48_tthtbhbhbhbhbt (K : KT) (a : TE) (H : AH) : bQ48 [1,1,0,1,0,0,0,0,0,0,0,0,0,1] (kQ48_tthtbhbhbhbh K) a H = m_req_baretthtbhbhbhbhbt K (a 1) (a 2) (a 3) H :=
  by kernel_rfl
abbrev kQ48_tthtbhbhbhbhb (K : KT) : KP := exP (fun (a : TE) (H : AH) => m_req_baretthtbhbhbhbhbt K (a 1) (a 2) (a 3) H) (kQ48_tthtbhbhbhbh K)
abbrev kQ48_tthtbhbhbhbhbh (K : KT) : KP := blockP 4 (kQ48_tthtbhbhbhbhb K)
def m_req_baretthtbhbhbhbhbhbt (K : KT) (x1 x2 x3 : AV) (H : AH) : Prop :=
  outP CC H (w_fieldAddr 1 H x1) fun v1 H1 =>
  outP CC H1 (w_load none H1 v1) fun v2 H2 =>
  outP CC H2 (w_fieldAddr 1 H2 x3) fun v3 H3 =>
  outP CC H3 (w_store 1 H3 v3 v2) fun _v4 H4 =>
  outP CC H4 (w_load (some 11) H4 x3) fun v5 H5 =>
  outP CC H5 (w_store 11 H5 x2 v5) fun _v6 H6 =>
  endP (resR (partF (some (some 11))) H6 x2 (some [])) K H6
theorem eQ48_tthtbhbhbhbhbhbt (K : KT) (a : TE) (H : AH) : bQ48 [1,1,0,1,0,0,0,0,0,0,0,0,0,0,0,1] (kQ48_tthtbhbhbhbhbh K) a H = m_req_baretthtbhbhbhbhbhbt K (a 1) (a 2) (a 3) H :=
  by kernel_rfl
abbrev kQ48_tthtbhbhbhbhbhb (K : KT) : KP := exP (fun (a : TE) (H : AH) => m_req_baretthtbhbhbhbhbhbt K (a 1) (a 2) (a 3) H) (kQ48_tthtbhbhbhbhbh K)
abbrev kQ48_tthtbhbhbhbhbhbh (K : KT) : KP := blockP 3 (kQ48_tthtbhbhbhbhbhb K)
def m_req_baretthtbhbhbhbhbhbhbt (K : KT) (x1 x2 x3 : AV) (H : AH) : Prop :=
  outP CC H (w_fieldAddr 6 H x1) fun v1 H1 =>
  outP CC H1 (w_load none H1 v1) fun v2 H2 =>
  outP CC H2 (w_fieldAddr 6 H2 x3) fun v3 H3 =>
  outP CC H3 (w_store 1 H3 v3 v2) fun _v4 H4 =>
  m_req_baretthtbhbhbhbhbhbt K x1 x2 x3 H4
theorem eQ48_tthtbhbhbhbhbhbhbt (K : KT) (a : TE) (H : AH) : bQ48 [1,1,0,1,0,0,0,0,0,0,0,0,0,0,0,0,0,1] (kQ48_tthtbhbhbhbhbhbh K) a H = m_req_baretthtbhbhbhbhbhbhbt K (a 1) (a 2) (a 3) H :=
  by kernel_rfl
abbrev kQ48_tthtbhbhbhbhbhbhb (K : KT) : KP := exP (fun (a : TE) (H : AH) => m_req_baretthtbhbhbhbhbhbhbt K (a 1) (a 2) (a 3) H) (kQ48_tthtbhbhbhbhbhbh K)
abbrev kQ48_tthtbhbhbhbhbhbhbh (K : KT) : KP := blockP 2 (kQ48_tthtbhbhbhbhbhbhb K)
abbrev kQ48_tthtbhbhbhbhbhbhbhb (K : KT) : KP := exP (bQ48 [1,1,0,1,0,0,0,0,0,0,0,0,0,0,0,0,0,0,0,1] (kQ48_tthtbhbhbhbhbhbhbh K)) (kQ48_tthtbhbhbhbhbhbhbh K)
abbrev kQ48_tthtbhbhbhbhbhbhbhbh (K : KT) : KP := blockP 1 (kQ48_tthtbhbhbhbhbhbhbhb K)
abbrev kQ48_tthtbhbhbhbhbhbhbhbhb (K : KT) : KP := exP (bQ48 [1,1,0,1,0,0,0,0,0,0,0,0,0,0,0,0,0,0,0,0,0,1] (kQ48_tthtbhbhbhbhbhbhbhbh K)) (kQ48_tthtbhbhbhbhbhbhbhbh K)
def m_req_baretthtbhbhbhbhbhbhbhbhbhttttt (K : KT) (x1 x2 x3 x8 : AV) (H : AH) : Prop :=
  outP CC H (w_int .eql H x8 (.int .i64 5)) fun v1 H1 =>
  condP v1
  (m_req_baretthtbhbhbt K x1 x2 x3 H1)
  (outP CC H1 (w_int .eql H1 x8 (.int .i64 10)) fun v2 H2 =>
  condP v2
  (m_req_baretthtbhbt K x1 x2 x3 H2)
  (outP CC H2 (w_int .eql H2 x8 (.int .i64 13)) fun v3 H3 =>
  condP v3
  (m_req_baretthtbt K x1 x2 x3 H3)
  (outP CC H3 (w_load (some 11) H3 x3) fun v4 H4 =>
  outP CC H4 (w_store 11 H4 x2 v4) fun _v5 H5 =>
  endP (resR (partF (some (some 11))) H5 x2 (some [])) K H5)))
theorem eQ48_tthtbhbhbhbhbhbhbhbhbhttttt (K : KT) (a : TE) (H : AH) : bQ48 [1,1,0,1,0,0,0,0,0,0,0,0,0,0,0,0,0,0,0,0,0,0,1,1,1,1,1] (kQ48_tthtbhbhbhbhbhbhbhbhb K) a H = m_req_baretthtbhbhbhbhbhbhbhbhbhttttt K (a 1) (a 2) (a 3) (a 8) H :=
  by kernel_rfl
abbrev kQ48_tthtbhbhbhbhbhbhbhbhbhtttt (K : KT) : KP := exP (fun (a : TE) (H : AH) => m_req_baretthtbhbhbhbhbhbhbhbhbhttttt K (a 1) (a 2) (a 3) (a 8) H) (kQ48_tthtbhbhbhbhbhbhbhbhb K)
def m_req_baretthtbhbhbhbhbhbhbhbhbhttttht (K : KT) (x1 x2 x3 x8 x18 : AV) (H : AH) : Prop :=
  condP x18
  (m_req_baretthtbhbhbhbt K x1 x2 x3 H)
  (m_req_baretthtbhbhbhbhbhbhbhbhbhttttt K x1 x2 x3 x8 H)
theorem eQ48_tthtbhbhbhbhbhbhbhbhbhttttht (K : KT) (a : TE) (H : AH) : bQ48 [1,1,0,1,0,0,0,0,0,0,0,0,0,0,0,0,0,0,0,0,0,0,1,1,1,1,0,1] (kQ48_tthtbhbhbhbhbhbhbhbhbhtttt K) a H = m_req_baretthtbhbhbhbhbhbhbhbhbhttttht K (a 1) (a 2) (a 3) (a 8) (a 18) H :=
  by kernel_rfl
def m_req_baretthtbhbhbhbhbhbhbhbhbhtttth (K : KT) (x1 x2 x3 x8 : AV) (H : AH) : Prop :=
  outP CC H (w_int .eql H x8 (.int .i64 4)) fun v1 H1 =>
  condP v1
  (m_req_baretthtbhbhbhbhbhbhbhbhbhttttht K x1 x2 x3 x8 v1 H1)
  (outP CC H1 (w_int .eql H1 x8 (.int .i64 12)) fun v2 H2 =>
  m_req_baretthtbhbhbhbhbhbhbhbhbhttttht K x1 x2 x3 x8 v2 H2)
theorem eQ48_tthtbhbhbhbhbhbhbhbhbhtttth (K : KT) (a : TE) (H : AH) : bQ48 [1,1,0,1,0,0,0,0,0,0,0,0,0,0,0,0,0,0,0,0,0,0,1,1,1,1,0] (kQ48_tthtbhbhbhbhbhbhbhbhbhtttt K) a H = m_req_baretthtbhbhbhbhbhbhbhbhbhtttth K (a 1) (a 2) (a 3) (a 8) H :=
  eSeq (ca := subC (bodyC PP 48) [1,1,0,1,0,0,0,0,0,0,0,0,0,0,0,0,0,0,0,0,0,0,1,1,1,1,0,0]) (by kernel_rfl) (eQ48_tthtbhbhbhbhbhbhbhbhbhttttht K) (by kernel_rfl)
theorem eQ48_tthtbhbhbhbhbhbhbhbhbhtttt (K : KT) (a : TE) (H : AH) : bQ48 [1,1,0,1,0,0,0,0,0,0,0,0,0,0,0,0,0,0,0,0,0,0,1,1,1,1] (kQ48_tthtbhbhbhbhbhbhbhbhb K) a H = m_req_baretthtbhbhbhbhbhbhbhbhbhtttth K (a 1) (a 2) (a 3) (a 8) H :=
  eSeqK (by kernel_rfl) (eQ48_tthtbhbhbhbhbhbhbhbhbhttttt K) (by kernel_rfl) (eQ48_tthtbhbhbhbhbhbhbhbhbhtttth K a H)
def m_req_baretthtbhbhbhbhbhbhbhbhbhttt (K : KT) (x1 x2 x3 x8 : AV) (H : AH) : Prop :=
  outP CC H (w_int .eql H x8 (.int .i64 3)) fun v1 H1 =>
  condP v1
  (m_req_baretthtbhbhbhbhbt K x1 x2 x3 H1)
  (m_req_baretthtbhbhbhbhbhbhbhbhbhtttth K x1 x2 x3 x8 H1)
theorem eQ48_tthtbhbhbhbhbhbhbhbhbhttt (K : KT) (a : TE) (H : AH) : bQ48 [1,1,0,1,0,0,0,0,0,0,0,0,0,0,0,0,0,0,0,0,0,0,1,1,1] (kQ48_tthtbhbhbhbhbhbhbhbhb K) a H = m_req_baretthtbhbhbhbhbhbhbhbhbhttt K (a 1) (a 2) (a 3) (a 8) H :=
  eSeq (ca := subC (bodyC PP 48) [1,1,0,1,0,0,0,0,0,0,0,0,0,0,0,0,0,0,0,0,0,0,1,1,1,0]) (by kernel_rfl) (eQ48_tthtbhbhbhbhbhbhbhbhbhtttt K) (by kernel_rfl)
abbrev kQ48_tthtbhbhbhbhbhbhbhbhbhtt (K : KT) : KP := exP (fun (a : TE) (H : AH) => m_req_baretthtbhbhbhbhbhbhbhbhbhttt K (a 1) (a 2) (a 3) (a 8) H) (kQ48_tthtbhbhbhbhbhbhbhbhb K)
def m_req_baretthtbhbhbhbhbhbhbhbhbhttht (K : KT) (x1 x2 x3 x8 x13 : AV) (H : AH) : Prop :=
  condP x13
  (m_req_baretthtbhbhbhbhbhbt K x1 x2 x3 H)
  (m_req_baretthtbhbhbhbhbhbhbhbhbhttt K x1 x2 x3 x8 H)
theorem eQ48_tthtbhbhbhbhbhbhbhbhbhttht (K : KT) (a : TE) (H : AH) : bQ48 [1,1,0,1,0,0,0,0,0,0,0,0,0,0,0,0,0,0,0,0,0,0,1,1,0,1] (kQ48_tthtbhbhbhbhbhbhbhbhbhtt K) a H = m_req_baretthtbhbhbhbhbhbhbhbhbhttht K (a 1) (a 2) (a 3) (a 8) (a 13) H :=
  by kernel_rfl
def m_req_baretthtbhbhbhbhbhbhbhbhbhtth (K : KT) (x1 x2 x3 x8 : AV) (H : AH) : Prop :=
  outP CC H (w_int .eql H x8 (.int .i64 2)) fun v1 H1 =>
  condP v1
  (m_req_baretthtbhbhbhbhbhbhbhbhbhttht K x1 x2 x3 x8 v1 H1)
  (outP CC H1 (w_int .eql H1 x8 (.int .i64 15)) fun v2 H2 =>
  m_req_baretthtbhbhbhbhbhbhbhbhbhttht K x1 x2 x3 x8 v2 H2)
theorem eQ48_tthtbhbhbhbhbhbhbhbhbhtth (K : KT) (a : TE) (H : AH) : bQ48 [1,1,0,1,0,0,0,0,0,0,0,0,0,0,0,0,0,0,0,0,0,0,1,1,0] (kQ48_tthtbhbhbhbhbhbhbhbhbhtt K) a H = m_req_baretthtbhbhbhbhbhbhbhbhbhtth K (a 1) (a 2) (a 3) (a 8) H :=
  eSeq (ca := subC (bodyC PP 48) [1,1,0,1,0,0,0,0,0,0,0,0,0,0,0,0,0,0,0,0,0,0,1,1,0,0]) (by kernel_rfl) (eQ48_tthtbhbhbhbhbhbhbhbhbhttht K) (by kernel_rfl)
theorem eQ48_tthtbhbhbhbhbhbhbhbhbhtt (K : KT) (a : TE) (H : AH) : bQ48 [1,1,0,1,0,0,0,0,0,0,0,0,0,0,0,0,0,0,0,0,0,0,1,1] (kQ48_tthtbhbhbhbhbhbhbhbhb K) a H = m_req_baretthtbhbhbhbhbhbhbhbhbhtth K (a 1) (a 2) (a 3) (a 8) H :=
  eSeqK (by kernel_rfl) (eQ48_tthtbhbhbhbhbhbhbhbhbhttt K) (by kernel_rfl) (eQ48_tthtbhbhbhbhbhbhbhbhbhtth K a H)
def m_req_baretthtbhbhbhbhbhbhbhbhbht (K : KT) (x1 x2 x3 x8 : AV) (H : AH) : Prop :=
  outP CC H (w_int .eql H x8 (.int .i64 6)) fun v1 H1 =>
  condP v1
  (m_req_baretthtbhbhbhbhbhbhbt K x1 x2 x3 H1)
  (m_req_baretthtbhbhbhbhbhbhbhbhbhtth K x1 x2 x3 x8 H1)
theorem eQ48_tthtbhbhbhbhbhbhbhbhbht (K : KT) (a : TE) (H : AH) : bQ48 [1,1,0,1,0,0,0,0,0,0,0,0,0,0,0,0,0,0,0,0,0,0,1] (kQ48_tthtbhbhbhbhbhbhbhbhb K) a H = m_req_baretthtbhbhbhbhbhbhbhbhbht K (a 1) (a 2) (a 3) (a 8) H :=
  eSeq (ca := subC (bodyC PP 48) [1,1,0,1,0,0,0,0,0,0,0,0,0,0,0,0,0,0,0,0,0,0,1,0]) (by kernel_rfl) (eQ48_tthtbhbhbhbhbhbhbhbhbhtt K) (by kernel_rfl)
def m_req_baretthtbhbhbhbhbhbhbhbhbh (K : KT) (x1 x2 x3 x8 : AV) (H : AH) : Prop :=
  outP CC H (w_int .eql H x8 (.int .i64 1)) fun v1 H1 =>
  condP v1
  (outP CC H1 (w_fieldAddr 4 H1 x1) fun v2 H2 =>
  outP CC H2 (w_load none H2 v2) fun v3 H3 =>
  outP CC H3 (w_fieldAddr 5 H3 x1) fun v4 H4 =>
  outP CC H4 (w_load none H4 v4) fun v5 H5 =>
  outP CC H5 (w_fieldAddr 4 H5 x3) fun v6 H6 =>
  outP CC H6 (w_store 1 H6 v6 v3) fun _v7 H7 =>
  ckP (reC true (w_load none H7 v4) v5) <|
  outP CC H7 (w_fieldAddr 5 H7 x3) fun v8 H8 =>
  outP CC H8 (w_store 1 H8 v8 v5) fun _v9 H9 =>
  m_req_baretthtbhbhbhbhbhbhbt K x1 x2 x3 H9)
  (m_req_baretthtbhbhbhbhbhbhbhbhbht K x1 x2 x3 x8 H1)
theorem eQ48_tthtbhbhbhbhbhbhbhbhbh (K : KT) (a : TE) (H : AH) : bQ48 [1,1,0,1,0,0,0,0,0,0,0,0,0,0,0,0,0,0,0,0,0,0] (kQ48_tthtbhbhbhbhbhbhbhbhb K) a H = m_req_baretthtbhbhbhbhbhbhbhbhbh K (a 1) (a 2) (a 3) (a 8) H :=
  eSeq (ca := subC (bodyC PP 48) [1,1,0,1,0,0,0,0,0,0,0,0,0,0,0,0,0,0,0,0,0,0,0]) (by kernel_rfl) (eQ48_tthtbhbhbhbhbhbhbhbhbht K) (by kernel_rfl)
theorem eQ48_tthtbhbhbhbhbhbhbhbhb (K : KT) (a : TE) (H : AH) : bQ48 [1,1,0,1,0,0,0,0,0,0,0,0,0,0,0,0,0,0,0,0,0] (kQ48_tthtbhbhbhbhbhbhbhbh K) a H = m_req_baretthtbhbhbhbhbhbhbhbhbh K (a 1) (a 2) (a 3) (a 8) H :=
  eSeqJ (subC (bodyC PP 48) [1,1,0,1,0,0,0,0,0,0,0,0,0,0,0,0,0,0,0,0,0,1]) (by kernel_rfl) (by kernel_rfl) (eQ48_tthtbhbhbhbhbhbhbhbhbh K a H)
theorem eQ48_tthtbhbhbhbhbhbhbhbh (K : KT) (a : TE) (H : AH) : bQ48 [1,1,0,1,0,0,0,0,0,0,0,0,0,0,0,0,0,0,0,0] (kQ48_tthtbhbhbhbhbhbhbhb K) a H = m_req_baretthtbhbhbhbhbhbhbhbhbh K (a 1) (a 2) (a 3) (a 8) H :=
  eBlockK 1 (by kernel_rfl) (by kernel_rfl) (eQ48_tthtbhbhbhbhbhbhbhbhb K a H)
theorem eQ48_tthtbhbhbhbhbhbhbhb (K : KT) (a : TE) (H : AH) : bQ48 [1,1,0,1,0,0,0,0,0,0,0,0,0,0,0,0,0,0,0] (kQ48_tthtbhbhbhbhbhbhbh K) a H = m_req_baretthtbhbhbhbhbhbhbhbhbh K (a 1) (a 2) (a 3) (a 8) H :=
  eSeqJ (subC (bodyC PP 48) [1,1,0,1,0,0,0,0,0,0,0,0,0,0,0,0,0,0,0,1]) (by kernel_rfl) (by kernel_rfl) (eQ48_tthtbhbhbhbhbhbhbhbh K a H)
theorem eQ48_tthtbhbhbhbhbhbhbh (K : KT) (a : TE) (H : AH) : bQ48 [1,1,0,1,0,0,0,0,0,0,0,0,0,0,0,0,0,0] (kQ48_tthtbhbhbhbhbhbhb K) a H = m_req_baretthtbhbhbhbhbhbhbhbhbh K (a 1) (a 2) (a 3) (a 8) H :=
  eBlockK 2 (by kernel_rfl) (by kernel_rfl) (eQ48_tthtbhbhbhbhbhbhbhb K a H)
theorem eQ48_tthtbhbhbhbhbhbhb (K : KT) (a : TE) (H : AH) : bQ48 [1,1,0,1,0,0,0,0,0,0,0,0,0,0,0,0,0] (kQ48_tthtbhbhbhbhbhbh K) a H = m_req_baretthtbhbhbhbhbhbhbhbhbh K (a 1) (a 2) (a 3) (a 8) H :=
  eSeqK (by kernel_rfl) (eQ48_tthtbhbhbhbhbhbhbt K) (by kernel_rfl) (eQ48_tthtbhbhbhbhbhbhbh K a H)
theorem eQ48_tthtbhbhbhbhbhbh (K : KT) (a : TE) (H : AH) : bQ48 [1,1,0,1,0,0,0,0,0,0,0,0,0,0,0,0] (kQ48_tthtbhbhbhbhbhb K) a H = m_req_baretthtbhbhbhbhbhbhbhbhbh K (a 1) (a 2) (a 3) (a 8) H :=
  eBlockK 3 (by kernel_rfl) (by kernel_rfl) (eQ48_tthtbhbhbhbhbhbhb K a H)
theorem eQ48_tthtbhbhbhbhbhb (K : KT) (a : TE) (H : AH) : bQ48 [1,1,0,1,0,0,0,0,0,0,0,0,0,0,0] (kQ48_tthtbhbhbhbhbh K) a H = m_req_baretthtbhbhbhbhbhbhbhbhbh K (a 1) (a 2) (a 3) (a 8) H :=
  eSeqK (by kernel_rfl) (eQ48_tthtbhbhbhbhbhbt K) (by kernel_rfl) (eQ48_tthtbhbhbhbhbhbh K a H)
theorem eQ48_tthtbhbhbhbhbh (K : KT) (a : TE) (H : AH) : bQ48 [1,1,0,1,0,0,0,0,0,0,0,0,0,0] (kQ48_tthtbhbhbhbhb K) a H = m_req_baretthtbhbhbhbhbhbhbhbhbh K (a 1) (a 2) (a 3) (a 8) H :=
  eBlockK 4 (by kernel_rfl) (by kernel_rfl) (eQ48_tthtbhbhbhbhbhb K a H)
theorem eQ48_tthtbhbhbhbhb (K : KT) (a : TE) (H : AH) : bQ48 [1,1,0,1,0,0,0,0,0,0,0,0,0] (kQ48_tthtbhbhbhbh K) a H = m_req_baretthtbhbhbhbhbhbhbhbhbh K (a 1) (a 2) (a 3) (a 8) H :=
  eSeqK (by kernel_rfl) (eQ48_tthtbhbhbhbhbt K) (by kernel_rfl) (eQ48_tthtbhbhbhbhbh K a H)
theorem eQ48_tthtbhbhbhbh (K : KT) (a : TE) (H : AH) : bQ48 [1,1,0,1,0,0,0,0,0,0,0,0] (kQ48_tthtbhbhbhb K) a H = m_req_baretthtbhbhbhbhbhbhbhbhbh K (a 1) (a 2) (a 3) (a 8) H :=
  eBlockK 5 (by kernel_rfl) (by kernel_rfl) (eQ48_tthtbhbhbhbhb K a H)
theorem eQ48_tthtbhbhbhb (K : KT) (a : TE) (H : AH) : bQ48 [1,1,0,1,0,0,0,0,0,0,0] (kQ48_tthtbhbhbh K) a H = m_req_baretthtbhbhbhbhbhbhbhbhbh K (a 1) (a 2) (a 3) (a 8) H :=
  eSeqK (by kernel_rfl) (eQ48_tthtbhbhbhbt K) (by kernel_rfl) (eQ48_tthtbhbhbhbh K a H)
theorem eQ48_tthtbhbhbh (K : KT) (a : TE) (H : AH) : bQ48 [1,1,0,1,0,0,0,0,0,0] (kQ48_tthtbhbhb K) a H = m_req_baretthtbhbhbhbhbhbhbhbhbh K (a 1) (a 2) (a 3) (a 8) H :=
  eBlockK 6 (by kernel_rfl) (by kernel_rfl) (eQ48_tthtbhbhbhb K a H)
theorem eQ48_tthtbhbhb (K : KT) (a : TE) (H : AH) : bQ48 [1,1,0,1,0,0,0,0,0] (kQ48_tthtbhbh K) a H = m_req_baretthtbhbhbhbhbhbhbhbhbh K (a 1) (a 2) (a 3) (a 8) H :=
  eSeqK (by kernel_rfl) (eQ48_tthtbhbhbt K) (by kernel_rfl) (eQ48_tthtbhbhbh K a H)
theorem eQ48_tthtbhbh (K : KT) (a : TE) (H : AH) : bQ48 [1,1,0,1,0,0,0,0] (kQ48_tthtbhb K) a H = m_req_baretthtbhbhbhbhbhbhbhbhbh K (a 1) (a 2) (a 3) (a 8) H :=
  eBlockK 7 (by kernel_rfl) (by kernel_rfl) (eQ48_tthtbhbhb K a H)
theorem eQ48_tthtbhb (K : KT) (a : TE) (H : AH) : bQ48 [1,1,0,1,0,0,0] (kQ48_tthtbh K) a H = m_req_baretthtbhbhbhbhbhbhbhbhbh K (a 1) (a 2) (a 3) (a 8) H :=
  eSeqK (by kernel_rfl) (eQ48_tthtbhbt K) (by kernel_rfl) (eQ48_tthtbhbh K a H)
theorem eQ48_tthtbh (K : KT) (a : TE) (H : AH) : bQ48 [1,1,0,1,0,0] (kQ48_tthtb K) a H = m_req_baretthtbhbhbhbhbhbhbhbhbh K (a 1) (a 2) (a 3) (a 8) H :=
  eBlockK 8 (by kernel_rfl) (by kernel_rfl) (eQ48_tthtbhb K a H)
theorem eQ48_tthtb (K : KT) (a : TE) (H : AH) : bQ48 [1,1,0,1,0] (kQ48_ttht K) a H = m_req_baretthtbhbhbhbhbhbhbhbhbh K (a 1) (a 2) (a 3) (a 8) H :=
  eSeqK (by kernel_rfl) (eQ48_tthtbt K) (by kernel_rfl) (eQ48_tthtbh K a H)
theorem eQ48_ttht (K : KT) (a : TE) (H : AH) : bQ48 [1,1,0,1] (kQ48_tt K) a H = m_req_baretthtbhbhbhbhbhbhbhbhbh K (a 1) (a 2) (a 3) (a 8) H :=
  eBlockK 0 (by kernel_rfl) (by kernel_rfl) (eQ48_tthtb K a H)
def m_req_baretth (K : KT) (x1 x2 x3 : AV) (H : AH) : Prop :=
  outP CC H (w_fieldAddr 0 H x1) fun v1 H1 =>
  outP CC H1 (w_load none H1 v1) fun v2 H2 =>
  m_req_baretthtbhbhbhbhbhbhbhbhbh K x1 x2 x3 v2 H2
theorem eQ48_tth (K : KT) (a : TE) (H : AH) : bQ48 [1,1,0] (kQ48_tt K) a H = m_req_baretth K (a 1) (a 2) (a 3) H :=
  eSeq (ca := subC (bodyC PP 48) [1,1,0,0]) (by kernel_rfl) (eQ48_ttht K) (by kernel_rfl)
theorem eQ48_tt (K : KT) (a : TE) (H : AH) : bQ48 [1,1] (kQ48 K) a H = m_req_baretth K (a 1) (a 2) (a 3) H :=
  eSeqJ (subC (bodyC PP 48) [1,1,1]) (by kernel_rfl) (by kernel_rfl) (eQ48_tth K a H)
def m_req_baret (K : KT) (x1 x2 : AV) (H : AH) : Prop :=
  outP CC H (w_fieldAddr 0 H x1) fun v1 H1 =>
  outP CC H1 (w_load none H1 v1) fun v2 H2 =>
  outP CC H2 (w_build PP 26 H2 [(0, v2)]) fun v3 H3 =>
  outP CC H3 (w_alloc 26 [(.int .i64 0), (.str []), (.str []), (.int .i64 0), (.int .i64 0), (.int .i64 0), (.int .i64 0), (.slice none 0 0 true), (.str []), (.int .i64 0), (.int .u32 0)] H3 none) fun v4 H4 =>
  outP CC H4 (w_store 11 H4 v4 v3) fun _v5 H5 =>
  m_req_baretth K x1 x2 v4 H5
theorem eQ48_t (K : KT) (a : TE) (H : AH) : bQ48 [1] (kQ48 K) a H = m_req_baret K (a 1) (a 2) H :=
  eSeq (ca := subC (bodyC PP 48) [1,0]) (by kernel_rfl) (eQ48_tt K) (by kernel_rfl)
def m_req_bare (K : KT) (x0 : AV) (H : AH) : Prop :=
  outP CC H (w_box 26 H x0 none) fun v1 H1 =>
  outP CC H1 (w_alloc 26 [(.int .i64 0), (.str []), (.str []), (.int .i64 0), (.int .i64 0), (.int .i64 0), (.int .i64 0), (.slice none 0 0 true), (.str []), (.int .i64 0), (.int .u32 0)] H1 none) fun v2 H2 =>
  m_req_baret K v1 v2 H2
theorem eQ48_ (K : KT) (a : TE) (H : AH) : bQ48 [] (kQ48 K) a H = m_req_bare K (a 0) H :=
  eSeq (ca := subC (bodyC PP 48) [0]) (by kernel_rfl) (eQ48_t K) (by kernel_rfl)
theorem m_req_bare_ok (x0 : AV) (H : AH) (K : KT) (h : m_req_bare K x0 H) : CC.call 48 [x0] H K :=
  have h1 : funP PP CC 48 [x0] H K = bQ48 [] (kQ48 K) (argE [x0]) H := by kernel_rfl
  have h2 : m_req_bare K (argE [x0] 0) H = m_req_bare K x0 H := by kernel_rfl
  funP_ok (P := PP) (by kernel_rfl) (by kernel_rfl) ((h1.trans ((eQ48_ K (argE [x0]) H).trans h2)).mpr h)

/-! 47: fieldfare/req.same -/
abbrev bQ47 (p : List Nat) (k : KP) : KE := codeP PP CC (subC (bodyC PP 47) p) k
abbrev kQ47 (K : KT) : KP := finP PP (resC PP 47) K
def m_req_same (K : KT) (x0 x1 : AV) (H : AH) : Prop :=
  outP CC H (w_box 26 H x0 none) fun v1 H1 =>
  outP CC H1 (w_box 26 H1 x1 none) fun v2 H2 =>
  outP CC H2 (w_fieldAddr 0 H2 v1) fun v3 H3 =>
  outP CC H3 (w_load none H3 v3) fun v4 H4 =>
  outP CC H4 (w_fieldAddr 0 H4 v2) fun v5 H5 =>
  outP CC H5 (w_load none H5 v5) fun v6 H6 =>
  outP CC H6 (w_int .eql H6 v4 v6) fun v7 H7 =>
  guardP (boolIs true v7) H7 (outP CC H7 (w_fieldAddr 1 H7 v1)) fun v8 H8 =>
  guardP (boolIs true v7) H8 (outP CC H8 (w_load none H8 v8)) fun v9 H9 =>
  guardP (boolIs true v7) H9 (outP CC H9 (w_fieldAddr 1 H9 v2)) fun v10 H10 =>
  guardP (boolIs true v7) H10 (outP CC H10 (w_load none H10 v10)) fun v11 H11 =>
  guardP (boolIs true v7) H11 (outP CC H11 (w_str .eql H11 v9 v11)) fun v12 H12 =>
  outP CC H12 (w_pick H12 v7 v12 (.bool false)) fun v13 H13 =>
  guardP (boolIs true v13) H13 (outP CC H13 (w_fieldAddr 2 H13 v1)) fun v14 H14 =>
  guardP (boolIs true v13) H14 (outP CC H14 (w_load none H14 v14)) fun v15 H15 =>
  guardP (boolIs true v13) H15 (outP CC H15 (w_fieldAddr 2 H15 v2)) fun v16 H16 =>
  guardP (boolIs true v13) H16 (outP CC H16 (w_load none H16 v16)) fun v17 H17 =>
  guardP (boolIs true v13) H17 (outP CC H17 (w_str .eql H17 v15 v17)) fun v18 H18 =>
  outP CC H18 (w_pick H18 v13 v18 (.bool false)) fun v19 H19 =>
  guardP (boolIs true v19) H19 (outP CC H19 (w_fieldAddr 3 H19 v1)) fun v20 H20 =>
  guardP (boolIs true v19) H20 (outP CC H20 (w_load none H20 v20)) fun v21 H21 =>
  guardP (boolIs true v19) H21 (outP CC H21 (w_fieldAddr 3 H21 v2)) fun v22 H22 =>
  guardP (boolIs true v19) H22 (outP CC H22 (w_load none H22 v22)) fun v23 H23 =>
  guardP (boolIs true v19) H23 (outP CC H23 (w_int .eql H23 v21 v23)) fun v24 H24 =>
  outP CC H24 (w_pick H24 v19 v24 (.bool false)) fun v25 H25 =>
  guardP (boolIs true v25) H25 (outP CC H25 (w_fieldAddr 4 H25 v1)) fun v26 H26 =>
  guardP (boolIs true v25) H26 (outP CC H26 (w_load none H26 v26)) fun v27 H27 =>
  guardP (boolIs true v25) H27 (outP CC H27 (w_fieldAddr 4 H27 v2)) fun v28 H28 =>
  guardP (boolIs true v25) H28 (outP CC H28 (w_load none H28 v28)) fun v29 H29 =>
  guardP (boolIs true v25) H29 (outP CC H29 (w_int .eql H29 v27 v29)) fun v30 H30 =>
  outP CC H30 (w_pick H30 v25 v30 (.bool false)) fun v31 H31 =>
  guardP (boolIs true v31) H31 (outP CC H31 (w_fieldAddr 5 H31 v1)) fun v32 H32 =>
  guardP (boolIs true v31) H32 (outP CC H32 (w_load none H32 v32)) fun v33 H33 =>
  guardP (boolIs true v31) H33 (outP CC H33 (w_fieldAddr 5 H33 v2)) fun v34 H34 =>
  guardP (boolIs true v31) H34 (outP CC H34 (w_load none H34 v34)) fun v35 H35 =>
  guardP (boolIs true v31) H35 (outP CC H35 (w_int .eql H35 v33 v35)) fun v36 H36 =>
  outP CC H36 (w_pick H36 v31 v36 (.bool false)) fun v37 H37 =>
  guardP (boolIs true v37) H37 (outP CC H37 (w_fieldAddr 6 H37 v1)) fun v38 H38 =>
  guardP (boolIs true v37) H38 (outP CC H38 (w_load none H38 v38)) fun v39 H39 =>
  guardP (boolIs true v37) H39 (outP CC H39 (w_fieldAddr 6 H39 v2)) fun v40 H40 =>
  guardP (boolIs true v37) H40 (outP CC H40 (w_load none H40 v40)) fun v41 H41 =>
  guardP (boolIs true v37) H41 (outP CC H41 (w_int .eql H41 v39 v41)) fun v42 H42 =>
  outP CC H42 (w_pick H42 v37 v42 (.bool false)) fun v43 H43 =>
  guardP (boolIs true v43) H43 (outP CC H43 (w_fieldAddr 7 H43 v1)) fun v44 H44 =>
  guardP (boolIs true v43) H44 (outP CC H44 (w_load none H44 v44)) fun v45 H45 =>
  guardP (boolIs true v43) H45 (outP CC H45 (w_fieldAddr 7 H45 v2)) fun v46 H46 =>
  guardP (boolIs true v43) H46 (outP CC H46 (w_load none H46 v46)) fun v47 H47 =>
  guardP (boolIs true v43) H47 (outP CC H47 (some (.enter 106 [v45, v47]))) fun v48 H48 =>
  outP CC H48 (w_pick H48 v43 v48 (.bool false)) fun v49 H49 =>
  guardP (boolIs true v49) H49 (outP CC H49 (w_fieldAddr 8 H49 v1)) fun v50 H50 =>
  guardP (boolIs true v49) H50 (outP CC H50 (w_load none H50 v50)) fun v51 H51 =>
  guardP (boolIs true v49) H51 (outP CC H51 (w_fieldAddr 8 H51 v2)) fun v52 H52 =>
  guardP (boolIs true v49) H52 (outP CC H52 (w_load none H52 v52)) fun v53 H53 =>
  guardP (boolIs true v49) H53 (outP CC H53 (w_str .eql H53 v51 v53)) fun v54 H54 =>
  outP CC H54 (w_pick H54 v49 v54 (.bool false)) fun v55 H55 =>
  guardP (boolIs true v55) H55 (outP CC H55 (w_fieldAddr 9 H55 v1)) fun v56 H56 =>
  guardP (boolIs true v55) H56 (outP CC H56 (w_load none H56 v56)) fun v57 H57 =>
  guardP (boolIs true v55) H57 (outP CC H57 (w_fieldAddr 9 H57 v2)) fun v58 H58 =>
  guardP (boolIs true v55) H58 (outP CC H58 (w_load none H58 v58)) fun v59 H59 =>
  guardP (boolIs true v55) H59 (outP CC H59 (w_int .eql H59 v57 v59)) fun v60 H60 =>
  outP CC H60 (w_pick H60 v55 v60 (.bool false)) fun v61 H61 =>
  guardP (boolIs true v61) H61 (outP CC H61 (w_fieldAddr 10 H61 v1)) fun v62 H62 =>
  guardP (boolIs true v61) H62 (outP CC H62 (w_load none H62 v62)) fun v63 H63 =>
  guardP (boolIs true v61) H63 (outP CC H63 (w_fieldAddr 10 H63 v2)) fun v64 H64 =>
  guardP (boolIs true v61) H64 (outP CC H64 (w_load none H64 v64)) fun v65 H65 =>
  guardP (boolIs true v61) H65 (outP CC H65 (w_int .eql H65 v63 v65)) fun v66 H66 =>
  outP CC H66 (w_pick H66 v61 v66 (.bool false)) fun v67 H67 =>
  K v67 H67
theorem eQ47_ (K : KT) (a : TE) (H : AH) : bQ47 [] (kQ47 K) a H = m_req_same K (a 0) (a 1) H :=
  by kernel_rfl
theorem m_req_same_ok (x0 x1 : AV) (H : AH) (K : KT) (h : m_req_same K x0 x1 H) : CC.call 47 [x0, x1] H K :=
  have h1 : funP PP CC 47 [x0, x1] H K = bQ47 [] (kQ47 K) (argE [x0, x1]) H := by kernel_rfl
  have h2 : m_req_same K (argE [x0, x1] 0) (argE [x0, x1] 1) H = m_req_same K x0 x1 H := by kernel_rfl
  funP_ok (P := PP) (by kernel_rfl) (by kernel_rfl) ((h1.trans ((eQ47_ K (argE [x0, x1]) H).trans h2)).mpr h)

/-! 10: fieldfare/req.May -/
abbrev bQ10 (p : List Nat) (k : KP) : KE := codeP PP CC (subC (bodyC PP 10) p) k
abbrev kQ10 (K : KT) : KP := finP PP (resC PP 10) K
abbrev kQ10_tt (K : KT) : KP := exP (bQ10 [1,1,1] (kQ10 K)) (kQ10 K)
abbrev kQ10_ttht (K : KT) : KP := blockP 0 (kQ10_tt K)
abbrev kQ10_tthtb (K : KT) (r0 : (AV × AV × AV) → AH → Prop) : KP := exP (fun (a : TE) (H : AH) => r0 (a 50, a 51, a 52) H) (kQ10_ttht K)
def m_req_Maytthtbl (K : KT) (r0 : (AV × AV × AV) → AH → Prop) (x50 x51 x52 : AV) (H : AH) : Prop :=
  outP CC H (w_int .lss H x52 x51) fun v1 H1 =>
  condP v1
  (outP CC H1 (w_indexAddr (.sl 1) H1 x50 x52) fun v2 H2 =>
  outP CC H2 (w_load none H2 v2) fun v3 H3 =>
  outP CC H3 (w_int .lss H3 v3 (.int .i64 0)) fun v4 H4 =>
  guardP (boolIs false v4) H4 (outP CC H4 (some (.val v3 H4))) fun v5 H5 =>
  guardP (boolIs false v4) H5 (outP CC H5 (w_int .gtr H5 v5 (.int .i64 1000000))) fun v6 H6 =>
  outP CC H6 (w_pick H6 v4 (.bool true) v6) fun v7 H7 =>
  condP v7
  (K (.bool false) H7)
  (outP CC H7 (w_int .add H7 x52 (.int .i64 1)) fun v8 H8 =>
  r0 (x50, x51, v8) H8))
  (K (.bool true) H1)
theorem eQ10_tthtbl (K : KT) (r0 : (AV × AV × AV) → AH → Prop) (a : TE) (H : AH) : bQ10 [1,1,0,1,0,0] (kQ10_tthtb K r0) a H = m_req_Maytthtbl K r0 (a 50) (a 51) (a 52) H :=
  by kernel_rfl
def m_req_Maytthtb (K : KT) (x50 x51 x52 : AV) (H : AH) : Prop :=
  loopP (fun (r0 : (AV × AV × AV) → AH → Prop) (s : (AV × AV × AV)) (H : AH) => m_req_Maytthtbl K r0 s.1 s.2.1 s.2.2 H) (x50, x51, x52) H
theorem eQ10_tthtb (K : KT) (a : TE) (H : AH) : bQ10 [1,1,0,1,0] (kQ10_ttht K) a H = m_req_Maytthtb K (a 50) (a 51) (a 52) H :=
  eLoopK (S := (AV × AV × AV)) (fun a => (a 50, a 51, a 52)) (fun r0 s H => m_req_Maytthtbl K r0 s.1 s.2.1 s.2.2 H) (by kernel_rfl) (fun r => by kernel_rfl) (eQ10_tthtbl K)
theorem eQ10_ttht (K : KT) (a : TE) (H : AH) : bQ10 [1,1,0,1] (kQ10_tt K) a H = m_req_Maytthtb K (a 50) (a 51) (a 52) H :=
  eBlockK 0 (by kernel_rfl) (by kernel_rfl) (eQ10_tthtb K a H)
def m_req_Maytth (K : KT) (x1 : AV) (H : AH) : Prop :=
  outP CC H (w_fieldAddr 3 H x1) fun v1 H1 =>
  outP CC H1 (w_load none H1 v1) fun v2 H2 =>
  outP CC H2 (w_fieldAddr 4 H2 x1) fun v3 H3 =>
  outP CC H3 (w_load none H3 v3) fun v4 H4 =>
  outP CC H4 (w_fieldAddr 5 H4 x1) fun v5 H5 =>
  outP CC H5 (w_load none H5 v5) fun v6 H6 =>
  outP CC H6 (w_fieldAddr 6 H6 x1) fun v7 H7 =>
  outP CC H7 (w_load none H7 v7) fun v8 H8 =>
  outP CC H8 (w_fieldAddr 9 H8 x1) fun v9 H9 =>
  outP CC H9 (w_load none H9 v9) fun v10 H10 =>
  outP CC H10 (w_buildSlice PP 3 5 H10 [(0, v2), (1, v4), (2, v6), (3, v8), (4, v10)] none) fun v11 H11 =>
  outP CC H11 (w_len PP 69 H11 v11) fun v12 H12 =>
  m_req_Maytthtb K v11 v12 (.int .i64 0) H12
theorem eQ10_tth (K : KT) (a : TE) (H : AH) : bQ10 [1,1,0] (kQ10_tt K) a H = m_req_Maytth K (a 1) H :=
  eSeq (ca := subC (bodyC PP 10) [1,1,0,0]) (by kernel_rfl) (eQ10_ttht K) (by kernel_rfl)
theorem eQ10_tt (K : KT) (a : TE) (H : AH) : bQ10 [1,1] (kQ10 K) a H = m_req_Maytth K (a 1) H :=
  eSeqJ (subC (bodyC PP 10) [1,1,1]) (by kernel_rfl) (by kernel_rfl) (eQ10_tth K a H)
def m_req_Mayt (K : KT) (x1 : AV) (H : AH) : Prop :=
  outP CC H (w_fieldAddr 0 H x1) fun v1 H1 =>
  outP CC H1 (w_load none H1 v1) fun v2 H2 =>
  outP CC H2 (some (.enter 46 [v2])) fun v3 H3 =>
  outP CC H3 (w_un .not H3 v3) fun v4 H4 =>
  guardP (boolIs false v4) H4 (outP CC H4 (w_load (some 11) H4 x1)) fun v5 H5 =>
  guardP (boolIs false v4) H5 (outP CC H5 (w_load (some 11) H5 x1)) fun v6 H6 =>
  guardP (boolIs false v4) H6 (outP CC H6 (some (.enter 48 [v6]))) fun v7 H7 =>
  ckP (reC (boolIs false v4) (w_load (some 11) H7 x1) v5) <|
  guardP (boolIs false v4) H7 (outP CC H7 (some (.enter 47 [v5, v7]))) fun v8 H8 =>
  guardP (boolIs false v4) H8 (outP CC H8 (w_un .not H8 v8)) fun v9 H9 =>
  outP CC H9 (w_pick H9 v4 (.bool true) v9) fun v10 H10 =>
  guardP (boolIs false v10) H10 (outP CC H10 (w_fieldAddr 1 H10 x1)) fun v11 H11 =>
  guardP (boolIs false v10) H11 (outP CC H11 (w_load none H11 v11)) fun v12 H12 =>
  guardP (boolIs false v10) H12 (outP CC H12 (w_len PP 9 H12 v12)) fun v13 H13 =>
  guardP (boolIs false v10) H13 (outP CC H13 (w_int .gtr H13 v13 (.int .i64 12))) fun v14 H14 =>
  outP CC H14 (w_pick H14 v10 (.bool true) v14) fun v15 H15 =>
  guardP (boolIs false v15) H15 (outP CC H15 (w_fieldAddr 2 H15 x1)) fun v16 H16 =>
  guardP (boolIs false v15) H16 (outP CC H16 (w_load none H16 v16)) fun v17 H17 =>
  guardP (boolIs false v15) H17 (outP CC H17 (w_len PP 9 H17 v17)) fun v18 H18 =>
  guardP (boolIs false v15) H18 (outP CC H18 (w_int .gtr H18 v18 (.int .i64 12))) fun v19 H19 =>
  outP CC H19 (w_pick H19 v15 (.bool true) v19) fun v20 H20 =>
  guardP (boolIs false v20) H20 (outP CC H20 (w_fieldAddr 7 H20 x1)) fun v21 H21 =>
  guardP (boolIs false v20) H21 (outP CC H21 (w_load none H21 v21)) fun v22 H22 =>
  guardP (boolIs false v20) H22 (outP CC H22 (w_len PP 23 H22 v22)) fun v23 H23 =>
  guardP (boolIs false v20) H23 (outP CC H23 (w_int .gtr H23 v23 (.int .i64 8))) fun v24 H24 =>
  outP CC H24 (w_pick H24 v20 (.bool true) v24) fun v25 H25 =>
  guardP (boolIs false v25) H25 (outP CC H25 (w_fieldAddr 8 H25 x1)) fun v26 H26 =>
  guardP (boolIs false v25) H26 (outP CC H26 (w_load none H26 v26)) fun v27 H27 =>
  guardP (boolIs false v25) H27 (outP CC H27 (w_len PP 9 H27 v27)) fun v28 H28 =>
  guardP (boolIs false v25) H28 (outP CC H28 (w_int .gtr H28 v28 (.int .i64 40))) fun v29 H29 =>
  outP CC H29 (w_pick H29 v25 (.bool true) v29) fun v30 H30 =>
  condP v30
  (K (.bool false) H30)
  (m_req_Maytth K x1 H30)
theorem eQ10_t (K : KT) (a : TE) (H : AH) : bQ10 [1] (kQ10 K) a H = m_req_Mayt K (a 1) H :=
  eSeq (ca := subC (bodyC PP 10) [1,0]) (by kernel_rfl) (eQ10_tt K) (by kernel_rfl)
def m_req_May (K : KT) (x0 : AV) (H : AH) : Prop :=
  outP CC H (w_box 26 H x0 none) fun v1 H1 =>
  m_req_Mayt K v1 H1
theorem eQ10_ (K : KT) (a : TE) (H : AH) : bQ10 [] (kQ10 K) a H = m_req_May K (a 0) H :=
  eSeq (ca := subC (bodyC PP 10) [0]) (by kernel_rfl) (eQ10_t K) (by kernel_rfl)
theorem m_req_May_ok (x0 : AV) (H : AH) (K : KT) (h : m_req_May K x0 H) : CC.call 10 [x0] H K :=
  have h1 : funP PP CC 10 [x0] H K = bQ10 [] (kQ10 K) (argE [x0]) H := by kernel_rfl
  have h2 : m_req_May K (argE [x0] 0) H = m_req_May K x0 H := by kernel_rfl
  funP_ok (P := PP) (by kernel_rfl) (by kernel_rfl) ((h1.trans ((eQ10_ K (argE [x0]) H).trans h2)).mpr h)

/-! 43: (*fieldfare/bin.Writer).Text -/
abbrev bQ43 (p : List Nat) (k : KP) : KE := codeP PP CC (subC (bodyC PP 43) p) k
abbrev kQ43 (K : KT) : KP := finP PP (resC PP 43) K
def m_bin_Writer_Text (K : KT) (x0 x1 : AV) (H : AH) : Prop :=
  outP CC H (w_eq PP .neq 87 false true H x0 (.ptr none)) fun v1 H1 =>
  condP v1
  (outP CC H1 (w_len PP 9 H1 x1) fun v2 H2 =>
  outP CC H2 (w_buildSlice PP 2 1 H2 [(0, v2)] none) fun v3 H3 =>
  outP CC H3 (some (.enter 42 [x0, v3])) fun _v4 H4 =>
  outP CC H4 (w_nil H4 x0) fun v5 H5 =>
  outP CC H5 (w_fieldAddr 0 H5 v5) fun v6 H6 =>
  outP CC H6 (w_load none H6 v6) fun v7 H7 =>
  outP CC H7 (w_append 5 1 1 H7 v7 x1 none) fun v8 H8 =>
  outP CC H8 (w_nil H8 x0) fun v9 H9 =>
  outP CC H9 (w_fieldAddr 0 H9 v9) fun v10 H10 =>
  outP CC H10 (w_store 1 H10 v10 v8) fun _v11 H11 =>
  K (.tup []) H11)
  (K (.tup []) H1)
theorem eQ43_ (K : KT) (a : TE) (H : AH) : bQ43 [] (kQ43 K) a H = m_bin_Writer_Text K (a 0) (a 1) H :=
  by kernel_rfl
theorem m_bin_Writer_Text_ok (x0 x1 : AV) (H : AH) (K : KT) (h : m_bin_Writer_Text K x0 x1 H) : CC.call 43 [x0, x1] H K :=
  have h1 : funP PP CC 43 [x0, x1] H K = bQ43 [] (kQ43 K) (argE [x0, x1]) H := by kernel_rfl
  have h2 : m_bin_Writer_Text K (argE [x0, x1] 0) (argE [x0, x1] 1) H = m_bin_Writer_Text K x0 x1 H := by kernel_rfl
  funP_ok (P := PP) (by kernel_rfl) (by kernel_rfl) ((h1.trans ((eQ43_ K (argE [x0, x1]) H).trans h2)).mpr h)

/-! 44: fieldfare/req.fields -/
abbrev bQ44 (p : List Nat) (k : KP) : KE := codeP PP CC (subC (bodyC PP 44) p) k
abbrev kQ44 (K : KT) : KP := finP PP (resC PP 44) K
abbrev kQ44_tt (K : KT) : KP := blockP 0 (kQ44 K)
def m_req_fieldsttbty (K : KT) (x0 x3 : AV) (H : AH) : Prop :=
  outP CC H (w_fieldAddr 4 H x3) fun v1 H1 =>
  outP CC H1 (w_load none H1 v1) fun v2 H2 =>
  outP CC H2 (w_fieldAddr 5 H2 x3) fun v3 H3 =>
  outP CC H3 (w_load none H3 v3) fun v4 H4 =>
  outP CC H4 (w_fieldAddr 6 H4 x3) fun v5 H5 =>
  outP CC H5 (w_load none H5 v5) fun v6 H6 =>
  outP CC H6 (w_buildSlice PP 2 3 H6 [(0, v2), (1, v4), (2, v6)] none) fun v7 H7 =>
  outP CC H7 (some (.enter 42 [x0, v7])) fun _v8 H8 =>
  K (.tup []) H8
theorem eQ44_ttbty (K : KT) (a : TE) (H : AH) : bQ44 [1,1,0,1,0] (kQ44_tt K) a H = m_req_fieldsttbty K (a 0) (a 3) H :=
  by kernel_rfl
def m_req_fieldsttbtnty (K : KT) (x0 x3 : AV) (H : AH) : Prop :=
  outP CC H (w_fieldAddr 6 H x3) fun v1 H1 =>
  outP CC H1 (w_load none H1 v1) fun v2 H2 =>
  outP CC H2 (w_buildSlice PP 2 1 H2 [(0, v2)] none) fun v3 H3 =>
  outP CC H3 (some (.enter 42 [x0, v3])) fun _v4 H4 =>
  K (.tup []) H4
theorem eQ44_ttbtnty (K : KT) (a : TE) (H : AH) : bQ44 [1,1,0,1,1,1,0] (kQ44_tt K) a H = m_req_fieldsttbtnty K (a 0) (a 3) H :=
  by kernel_rfl
def m_req_fieldsttbtntnt (K : KT) (x0 x3 x5 x24 : AV) (H : AH) : Prop :=
  condP x24
  (outP CC H (w_fieldAddr 3 H x3) fun v1 H1 =>
  outP CC H1 (w_load none H1 v1) fun v2 H2 =>
  outP CC H2 (w_buildSlice PP 2 1 H2 [(0, v2)] none) fun v3 H3 =>
  outP CC H3 (some (.enter 42 [x0, v3])) fun _v4 H4 =>
  K (.tup []) H4)
  (outP CC H (w_int .eql H x5 (.int .i64 3)) fun v5 H5 =>
  condP v5
  (outP CC H5 (w_fieldAddr 3 H5 x3) fun v6 H6 =>
  outP CC H6 (w_load none H6 v6) fun v7 H7 =>
  outP CC H7 (w_buildSlice PP 2 1 H7 [(0, v7)] none) fun v8 H8 =>
  outP CC H8 (some (.enter 42 [x0, v8])) fun _v9 H9 =>
  outP CC H9 (w_fieldAddr 7 H9 x3) fun v10 H10 =>
  outP CC H10 (w_load none H10 v10) fun v11 H11 =>
  outP CC H11 (some (.enter 105 [x0, v11])) fun _v12 H12 =>
  outP CC H12 (w_fieldAddr 8 H12 x3) fun v13 H13 =>
  outP CC H13 (w_load none H13 v13) fun v14 H14 =>
  outP CC H14 (some (.enter 43 [x0, v14])) fun _v15 H15 =>
  outP CC H15 (w_fieldAddr 10 H15 x3) fun v16 H16 =>
  outP CC H16 (w_load none H16 v16) fun v17 H17 =>
  outP CC H17 (w_conv (.int .i64) H17 v17 none) fun v18 H18 =>
  outP CC H18 (w_buildSlice PP 2 1 H18 [(0, v18)] none) fun v19 H19 =>
  outP CC H19 (some (.enter 42 [x0, v19])) fun _v20 H20 =>
  K (.tup []) H20)
  (outP CC H5 (w_int .eql H5 x5 (.int .i64 13)) fun v21 H21 =>
  condP v21
  (outP CC H21 (w_fieldAddr 7 H21 x3) fun v22 H22 =>
  outP CC H22 (w_load none H22 v22) fun v23 H23 =>
  outP CC H23 (some (.enter 105 [x0, v23])) fun _v24 H24 =>
  outP CC H24 (w_fieldAddr 9 H24 x3) fun v25 H25 =>
  outP CC H25 (w_load none H25 v25) fun v26 H26 =>
  outP CC H26 (w_buildSlice PP 2 1 H26 [(0, v26)] none) fun v27 H27 =>
  outP CC H27 (some (.enter 42 [x0, v27])) fun _v28 H28 =>
  K (.tup []) H28)
  (K (.tup []) H21)))
theorem eQ44_ttbtntnt (K : KT) (a : TE) (H : AH) : bQ44 [1,1,0,1,1,1,1,1] (kQ44_tt K) a H = m_req_fieldsttbtntnt K (a 0) (a 3) (a 5) (a 24) H :=
  by kernel_rfl
def m_req_fieldsttbtntn (K : KT) (x0 x3 x5 : AV) (H : AH) : Prop :=
  outP CC H (w_int .eql H x5 (.int .i64 4)) fun v1 H1 =>
  condP v1
  (m_req_fieldsttbtntnt K x0 x3 x5 v1 H1)
  (outP CC H1 (w_int .eql H1 x5 (.int .i64 12)) fun v2 H2 =>
  m_req_fieldsttbtntnt K x0 x3 x5 v2 H2)
theorem eQ44_ttbtntn (K : KT) (a : TE) (H : AH) : bQ44 [1,1,0,1,1,1,1] (kQ44_tt K) a H = m_req_fieldsttbtntn K (a 0) (a 3) (a 5) H :=
  eSeq (ca := subC (bodyC PP 44) [1,1,0,1,1,1,1,0]) (by kernel_rfl) (eQ44_ttbtntnt K) (by kernel_rfl)
def m_req_fieldsttbtnt (K : KT) (x0 x3 x5 x17 : AV) (H : AH) : Prop :=
  condP x17 (m_req_fieldsttbtnty K x0 x3 H) (m_req_fieldsttbtntn K x0 x3 x5 H)
theorem eQ44_ttbtnt (K : KT) (a : TE) (H : AH) : bQ44 [1,1,0,1,1,1] (kQ44_tt K) a H = m_req_fieldsttbtnt K (a 0) (a 3) (a 5) (a 17) H :=
  eCond (o := .tmp 17) (by kernel_rfl) (eQ44_ttbtnty K a H) (eQ44_ttbtntn K a H)
def m_req_fieldsttbtn (K : KT) (x0 x3 x5 : AV) (H : AH) : Prop :=
  outP CC H (w_int .eql H x5 (.int .i64 6)) fun v1 H1 =>
  m_req_fieldsttbtnt K x0 x3 x5 v1 H1
theorem eQ44_ttbtn (K : KT) (a : TE) (H : AH) : bQ44 [1,1,0,1,1] (kQ44_tt K) a H = m_req_fieldsttbtn K (a 0) (a 3) (a 5) H :=
  eSeq (ca := subC (bodyC PP 44) [1,1,0,1,1,0]) (by kernel_rfl) (eQ44_ttbtnt K) (by kernel_rfl)
def m_req_fieldsttbt (K : KT) (x0 x3 x5 x6 : AV) (H : AH) : Prop :=
  condP x6 (m_req_fieldsttbty K x0 x3 H) (m_req_fieldsttbtn K x0 x3 x5 H)
theorem eQ44_ttbt (K : KT) (a : TE) (H : AH) : bQ44 [1,1,0,1] (kQ44_tt K) a H = m_req_fieldsttbt K (a 0) (a 3) (a 5) (a 6) H :=
  eCond (o := .tmp 6) (by kernel_rfl) (eQ44_ttbty K a H) (eQ44_ttbtn K a H)
def m_req_fieldsttb (K : KT) (x0 x3 x5 : AV) (H : AH) : Prop :=
  outP CC H (w_int .eql H x5 (.int .i64 1)) fun v1 H1 =>
  m_req_fieldsttbt K x0 x3 x5 v1 H1
theorem eQ44_ttb (K : KT) (a : TE) (H : AH) : bQ44 [1,1,0] (kQ44_tt K) a H = m_req_fieldsttb K (a 0) (a 3) (a 5) H :=
  eSeq (ca := subC (bodyC PP 44) [1,1,0,0]) (by kernel_rfl) (eQ44_ttbt K) (by kernel_rfl)
theorem eQ44_tt (K : KT) (a : TE) (H : AH) : bQ44 [1,1] (kQ44 K) a H = m_req_fieldsttb K (a 0) (a 3) (a 5) H :=
  eBlockK 0 (by kernel_rfl) (by kernel_rfl) (eQ44_ttb K a H)
def m_req_fieldst (K : KT) (x0 x3 : AV) (H : AH) : Prop :=
  outP CC H (w_fieldAddr 0 H x3) fun v1 H1 =>
  outP CC H1 (w_load none H1 v1) fun v2 H2 =>
  m_req_fieldsttb K x0 x3 v2 H2
theorem eQ44_t (K : KT) (a : TE) (H : AH) : bQ44 [1] (kQ44 K) a H = m_req_fieldst K (a 0) (a 3) H :=
  eSeq (ca := subC (bodyC PP 44) [1,0]) (by kernel_rfl) (eQ44_tt K) (by kernel_rfl)
def m_req_fields (K : KT) (x0 x1 : AV) (H : AH) : Prop :=
  outP CC H (w_box 26 H x1 none) fun v1 H1 =>
  m_req_fieldst K x0 v1 H1
theorem eQ44_ (K : KT) (a : TE) (H : AH) : bQ44 [] (kQ44 K) a H = m_req_fields K (a 0) (a 1) H :=
  eSeq (ca := subC (bodyC PP 44) [0]) (by kernel_rfl) (eQ44_t K) (by kernel_rfl)
theorem m_req_fields_ok (x0 x1 : AV) (H : AH) (K : KT) (h : m_req_fields K x0 x1 H) : CC.call 44 [x0, x1] H K :=
  have h1 : funP PP CC 44 [x0, x1] H K = bQ44 [] (kQ44 K) (argE [x0, x1]) H := by kernel_rfl
  have h2 : m_req_fields K (argE [x0, x1] 0) (argE [x0, x1] 1) H = m_req_fields K x0 x1 H := by kernel_rfl
  funP_ok (P := PP) (by kernel_rfl) (by kernel_rfl) ((h1.trans ((eQ44_ K (argE [x0, x1]) H).trans h2)).mpr h)

/-! 8: fieldfare/req.Put -/
abbrev bQ8 (p : List Nat) (k : KP) : KE := codeP PP CC (subC (bodyC PP 8) p) k
abbrev kQ8 (K : KT) : KP := finP PP (resC PP 8) K
def m_req_Putttttt (K : KT) (x4 : AV) (H : AH) : Prop :=
  outP CC H (some (.enter 45 [x4])) fun v1 H1 =>
  K (.tup [v1, .nilIface]) H1
theorem eQ8_ttttt (K : KT) (a : TE) (H : AH) : bQ8 [1,1,1,1,1] (kQ8 K) a H = m_req_Putttttt K (a 4) H :=
  by kernel_rfl
abbrev kQ8_tttt (K : KT) : KP := exP (fun (a : TE) (H : AH) => m_req_Putttttt K (a 4) H) (kQ8 K)
abbrev kQ8_ttttht (K : KT) : KP := blockP 0 (kQ8_tttt K)
def m_req_Puttttthtbty (K : KT) (x1 x4 : AV) (H : AH) : Prop :=
  outP CC H (w_fieldAddr 2 H x1) fun v1 H1 =>
  outP CC H1 (w_load none H1 v1) fun v2 H2 =>
  outP CC H2 (some (.enter 43 [x4, v2])) fun _v3 H3 =>
  outP CC H3 (w_fieldAddr 1 H3 x1) fun v4 H4 =>
  outP CC H4 (w_load none H4 v4) fun v5 H5 =>
  outP CC H5 (some (.enter 43 [x4, v5])) fun _v6 H6 =>
  m_req_Putttttt K x4 H6
theorem eQ8_tttthtbty (K : KT) (a : TE) (H : AH) : bQ8 [1,1,1,1,0,1,0,1,0] (kQ8_ttttht K) a H = m_req_Puttttthtbty K (a 1) (a 4) H :=
  by kernel_rfl
def m_req_Puttttthtbtnty (K : KT) (x1 x4 : AV) (H : AH) : Prop :=
  outP CC H (w_fieldAddr 10 H x1) fun v1 H1 =>
  outP CC H1 (w_load none H1 v1) fun v2 H2 =>
  outP CC H2 (w_conv (.int .i64) H2 v2 none) fun v3 H3 =>
  outP CC H3 (w_buildSlice PP 2 1 H3 [(0, v3)] none) fun v4 H4 =>
  outP CC H4 (some (.enter 42 [x4, v4])) fun _v5 H5 =>
  m_req_Putttttt K x4 H5
theorem eQ8_tttthtbtnty (K : KT) (a : TE) (H : AH) : bQ8 [1,1,1,1,0,1,0,1,1,1,0] (kQ8_ttttht K) a H = m_req_Puttttthtbtnty K (a 1) (a 4) H :=
  by kernel_rfl
def m_req_Puttttthtbtntnt (K : KT) (x1 x4 x30 : AV) (H : AH) : Prop :=
  condP x30
  (outP CC H (w_fieldAddr 1 H x1) fun v1 H1 =>
  outP CC H1 (w_load none H1 v1) fun v2 H2 =>
  outP CC H2 (some (.enter 43 [x4, v2])) fun _v3 H3 =>
  outP CC H3 (w_load (some 11) H3 x1) fun v4 H4 =>
  outP CC H4 (some (.enter 44 [x4, v4])) fun _v5 H5 =>
  m_req_Putttttt K x4 H5)
  (m_req_Putttttt K x4 H)
theorem eQ8_tttthtbtntnt (K : KT) (a : TE) (H : AH) : bQ8 [1,1,1,1,0,1,0,1,1,1,1,1] (kQ8_ttttht K) a H = m_req_Puttttthtbtntnt K (a 1) (a 4) (a 30) H :=
  by kernel_rfl
def m_req_Puttttthtbtntn (K : KT) (x1 x4 x14 : AV) (H : AH) : Prop :=
  outP CC H (w_int .eql H x14 (.int .i64 1)) fun v1 H1 =>
  condP v1
  (m_req_Puttttthtbtntnt K x1 x4 v1 H1)
  (outP CC H1 (w_int .eql H1 x14 (.int .i64 2)) fun v2 H2 =>
  condP v2
  (m_req_Puttttthtbtntnt K x1 x4 v2 H2)
  (outP CC H2 (w_int .eql H2 x14 (.int .i64 15)) fun v3 H3 =>
  condP v3
  (m_req_Puttttthtbtntnt K x1 x4 v3 H3)
  (outP CC H3 (w_int .eql H3 x14 (.int .i64 3)) fun v4 H4 =>
  condP v4
  (m_req_Puttttthtbtntnt K x1 x4 v4 H4)
  (outP CC H4 (w_int .eql H4 x14 (.int .i64 4)) fun v5 H5 =>
  condP v5
  (m_req_Puttttthtbtntnt K x1 x4 v5 H5)
  (outP CC H5 (w_int .eql H5 x14 (.int .i64 12)) fun v6 H6 =>
  condP v6
  (m_req_Puttttthtbtntnt K x1 x4 v6 H6)
  (outP CC H6 (w_int .eql H6 x14 (.int .i64 6)) fun v7 H7 =>
  condP v7
  (m_req_Puttttthtbtntnt K x1 x4 v7 H7)
  (outP CC H7 (w_int .eql H7 x14 (.int .i64 13)) fun v8 H8 =>
  m_req_Puttttthtbtntnt K x1 x4 v8 H8)))))))
theorem eQ8_tttthtbtntn (K : KT) (a : TE) (H : AH) : bQ8 [1,1,1,1,0,1,0,1,1,1,1] (kQ8_ttttht K) a H = m_req_Puttttthtbtntn K (a 1) (a 4) (a 14) H :=
  eSeq (ca := subC (bodyC PP 8) [1,1,1,1,0,1,0,1,1,1,1,0]) (by kernel_rfl) (eQ8_tttthtbtntnt K) (by kernel_rfl)
def m_req_Puttttthtbtnt (K : KT) (x1 x4 x14 x23 : AV) (H : AH) : Prop :=
  condP x23 (m_req_Puttttthtbtnty K x1 x4 H) (m_req_Puttttthtbtntn K x1 x4 x14 H)
theorem eQ8_tttthtbtnt (K : KT) (a : TE) (H : AH) : bQ8 [1,1,1,1,0,1,0,1,1,1] (kQ8_ttttht K) a H = m_req_Puttttthtbtnt K (a 1) (a 4) (a 14) (a 23) H :=
  eCond (o := .tmp 23) (by kernel_rfl) (eQ8_tttthtbtnty K a H) (eQ8_tttthtbtntn K a H)
def m_req_Puttttthtbtn (K : KT) (x1 x4 x14 : AV) (H : AH) : Prop :=
  outP CC H (w_int .eql H x14 (.int .i64 10)) fun v1 H1 =>
  m_req_Puttttthtbtnt K x1 x4 x14 v1 H1
theorem eQ8_tttthtbtn (K : KT) (a : TE) (H : AH) : bQ8 [1,1,1,1,0,1,0,1,1] (kQ8_ttttht K) a H = m_req_Puttttthtbtn K (a 1) (a 4) (a 14) H :=
  eSeq (ca := subC (bodyC PP 8) [1,1,1,1,0,1,0,1,1,0]) (by kernel_rfl) (eQ8_tttthtbtnt K) (by kernel_rfl)
def m_req_Puttttthtbt (K : KT) (x1 x4 x14 x15 : AV) (H : AH) : Prop :=
  condP x15 (m_req_Puttttthtbty K x1 x4 H) (m_req_Puttttthtbtn K x1 x4 x14 H)
theorem eQ8_tttthtbt (K : KT) (a : TE) (H : AH) : bQ8 [1,1,1,1,0,1,0,1] (kQ8_ttttht K) a H = m_req_Puttttthtbt K (a 1) (a 4) (a 14) (a 15) H :=
  eCond (o := .tmp 15) (by kernel_rfl) (eQ8_tttthtbty K a H) (eQ8_tttthtbtn K a H)
def m_req_Puttttthtb (K : KT) (x1 x4 x14 : AV) (H : AH) : Prop :=
  outP CC H (w_int .eql H x14 (.int .i64 5)) fun v1 H1 =>
  m_req_Puttttthtbt K x1 x4 x14 v1 H1
theorem eQ8_tttthtb (K : KT) (a : TE) (H : AH) : bQ8 [1,1,1,1,0,1,0] (kQ8_ttttht K) a H = m_req_Puttttthtb K (a 1) (a 4) (a 14) H :=
  eSeq (ca := subC (bodyC PP 8) [1,1,1,1,0,1,0,0]) (by kernel_rfl) (eQ8_tttthtbt K) (by kernel_rfl)
theorem eQ8_ttttht (K : KT) (a : TE) (H : AH) : bQ8 [1,1,1,1,0,1] (kQ8_tttt K) a H = m_req_Puttttthtb K (a 1) (a 4) (a 14) H :=
  eBlockK 0 (by kernel_rfl) (by kernel_rfl) (eQ8_tttthtb K a H)
def m_req_Puttttth (K : KT) (x1 x4 : AV) (H : AH) : Prop :=
  outP CC H (w_fieldAddr 0 H x1) fun v1 H1 =>
  outP CC H1 (w_load none H1 v1) fun v2 H2 =>
  m_req_Puttttthtb K x1 x4 v2 H2
theorem eQ8_tttth (K : KT) (a : TE) (H : AH) : bQ8 [1,1,1,1,0] (kQ8_tttt K) a H = m_req_Puttttth K (a 1) (a 4) H :=
  eSeq (ca := subC (bodyC PP 8) [1,1,1,1,0,0]) (by kernel_rfl) (eQ8_ttttht K) (by kernel_rfl)
theorem eQ8_tttt (K : KT) (a : TE) (H : AH) : bQ8 [1,1,1,1] (kQ8 K) a H = m_req_Puttttth K (a 1) (a 4) H :=
  eSeqK (by kernel_rfl) (eQ8_ttttt K) (by kernel_rfl) (eQ8_tttth K a H)
def m_req_Putttt (K : KT) (x1 x4 : AV) (H : AH) : Prop :=
  outP CC H (w_fieldAddr 0 H x1) fun v1 H1 =>
  outP CC H1 (w_load none H1 v1) fun v2 H2 =>
  outP CC H2 (w_buildSlice PP 2 1 H2 [(0, v2)] none) fun v3 H3 =>
  outP CC H3 (some (.enter 42 [x4, v3])) fun _v4 H4 =>
  m_req_Puttttth K x1 x4 H4
theorem eQ8_ttt (K : KT) (a : TE) (H : AH) : bQ8 [1,1,1] (kQ8 K) a H = m_req_Putttt K (a 1) (a 4) H :=
  eSeq (ca := subC (bodyC PP 8) [1,1,1,0]) (by kernel_rfl) (eQ8_tttt K) (by kernel_rfl)
def m_req_Puttt (K : KT) (x1 : AV) (H : AH) : Prop :=
  outP CC H (w_alloc 83 [(.slice none 0 0 true)] H none) fun v1 H1 =>
  m_req_Putttt K x1 v1 H1
theorem eQ8_tt (K : KT) (a : TE) (H : AH) : bQ8 [1,1] (kQ8 K) a H = m_req_Puttt K (a 1) H :=
  eSeq (ca := subC (bodyC PP 8) [1,1,0]) (by kernel_rfl) (eQ8_ttt K) (by kernel_rfl)
def m_req_Putt (K : KT) (x1 : AV) (H : AH) : Prop :=
  outP CC H (w_load (some 11) H x1) fun v1 H1 =>
  outP CC H1 (some (.enter 10 [v1])) fun v2 H2 =>
  outP CC H2 (w_un .not H2 v2) fun v3 H3 =>
  condP v3
  (outP CC H3 (some (.enter 41 [(.int .i64 1)])) fun v4 H4 =>
  K (.tup [(.slice none 0 0 true), v4]) H4)
  (m_req_Puttt K x1 H3)
theorem eQ8_t (K : KT) (a : TE) (H : AH) : bQ8 [1] (kQ8 K) a H = m_req_Putt K (a 1) H :=
  eSeq (ca := subC (bodyC PP 8) [1,0]) (by kernel_rfl) (eQ8_tt K) (by kernel_rfl)
def m_req_Put (K : KT) (x0 : AV) (H : AH) : Prop :=
  outP CC H (w_box 26 H x0 none) fun v1 H1 =>
  m_req_Putt K v1 H1
theorem eQ8_ (K : KT) (a : TE) (H : AH) : bQ8 [] (kQ8 K) a H = m_req_Put K (a 0) H :=
  eSeq (ca := subC (bodyC PP 8) [0]) (by kernel_rfl) (eQ8_t K) (by kernel_rfl)
theorem m_req_Put_ok (x0 : AV) (H : AH) (K : KT) (h : m_req_Put K x0 H) : CC.call 8 [x0] H K :=
  have h1 : funP PP CC 8 [x0] H K = bQ8 [] (kQ8 K) (argE [x0]) H := by kernel_rfl
  have h2 : m_req_Put K (argE [x0] 0) H = m_req_Put K x0 H := by kernel_rfl
  funP_ok (P := PP) (by kernel_rfl) (by kernel_rfl) ((h1.trans ((eQ8_ K (argE [x0]) H).trans h2)).mpr h)

/-! 41: fieldfare/req.at -/
abbrev bQ41 (p : List Nat) (k : KP) : KE := codeP PP CC (subC (bodyC PP 41) p) k
abbrev kQ41 (K : KT) : KP := finP PP (resC PP 41) K
def m_req_at (K : KT) (x0 : AV) (H : AH) : Prop :=
  outP CC H (some (.val (.iface 34 x0) H)) fun v1 H1 =>
  outP CC H1 (some (.enter 85 [(.str [114, 101, 113]), v1])) fun v2 H2 =>
  K v2 H2
theorem eQ41_ (K : KT) (a : TE) (H : AH) : bQ41 [] (kQ41 K) a H = m_req_at K (a 0) H :=
  by kernel_rfl
theorem m_req_at_ok (x0 : AV) (H : AH) (K : KT) (h : m_req_at K x0 H) : CC.call 41 [x0] H K :=
  have h1 : funP PP CC 41 [x0] H K = bQ41 [] (kQ41 K) (argE [x0]) H := by kernel_rfl
  have h2 : m_req_at K (argE [x0] 0) H = m_req_at K x0 H := by kernel_rfl
  funP_ok (P := PP) (by kernel_rfl) (by kernel_rfl) ((h1.trans ((eQ41_ K (argE [x0]) H).trans h2)).mpr h)

/-! 85: fieldfare/fail.At -/
abbrev bQ85 (p : List Nat) (k : KP) : KE := codeP PP CC (subC (bodyC PP 85) p) k
abbrev kQ85 (K : KT) : KP := finP PP (resC PP 85) K
def m_fail_At (K : KT) (x0 x1 : AV) (H : AH) : Prop :=
  outP CC H (w_eq PP .eql 30 false true H x1 .nilIface) fun v1 H1 =>
  guardP (boolIs false v1) H1 (outP CC H1 (some (.val x1 H1))) fun v2 H2 =>
  guardP (boolIs false v1) H2 (outP CC H2 (some (.val (.iface 34 (.int .i64 0)) H2))) fun v3 H3 =>
  guardP (boolIs false v1) H3 (outP CC H3 (w_eq PP .eql 30 false false H3 v2 v3)) fun v4 H4 =>
  outP CC H4 (w_pick H4 v1 (.bool true) v4) fun v5 H5 =>
  condP v5
  (K .nilIface H5)
  (outP CC H5 (w_build PP 237 H5 [(0, x0), (1, x1)]) fun v6 H6 =>
  outP CC H6 (w_box 237 H6 v6 none) fun v7 H7 =>
  outP CC H7 (some (.val (.iface 235 v7) H7)) fun v8 H8 =>
  K v8 H8)
theorem eQ85_ (K : KT) (a : TE) (H : AH) : bQ85 [] (kQ85 K) a H = m_fail_At K (a 0) (a 1) H :=
  by kernel_rfl
theorem m_fail_At_ok (x0 x1 : AV) (H : AH) (K : KT) (h : m_fail_At K x0 x1 H) : CC.call 85 [x0, x1] H K :=
  have h1 : funP PP CC 85 [x0, x1] H K = bQ85 [] (kQ85 K) (argE [x0, x1]) H := by kernel_rfl
  have h2 : m_fail_At K (argE [x0, x1] 0) (argE [x0, x1] 1) H = m_fail_At K x0 x1 H := by kernel_rfl
  funP_ok (P := PP) (by kernel_rfl) (by kernel_rfl) ((h1.trans ((eQ85_ K (argE [x0, x1]) H).trans h2)).mpr h)

/-! 57: (*fieldfare/bin.Reader).Text -/
abbrev bQ57 (p : List Nat) (k : KP) : KE := codeP PP CC (subC (bodyC PP 57) p) k
abbrev kQ57 (K : KT) : KP := finP PP (resC PP 57) K
def m_bin_Reader_Text (K : KT) (x0 x1 : AV) (H : AH) : Prop :=
  outP CC H (some (.enter 55 [x0])) fun v1 H1 =>
  outP CC H1 (some (.enter 56 [x0])) fun v2 H2 =>
  outP CC H2 (w_int .neq H2 v2 (.int .i64 0)) fun v3 H3 =>
  condP v3
  (K (.str []) H3)
  (outP CC H3 (w_int .lss H3 v1 (.int .i64 0)) fun v4 H4 =>
  guardP (boolIs false v4) H4 (outP CC H4 (some (.val v1 H4))) fun v5 H5 =>
  guardP (boolIs false v4) H5 (outP CC H5 (some (.val x1 H5))) fun v6 H6 =>
  guardP (boolIs false v4) H6 (outP CC H6 (w_int .gtr H6 v5 v6)) fun v7 H7 =>
  outP CC H7 (w_pick H7 v4 (.bool true) v7) fun v8 H8 =>
  guardP (boolIs false v8) H8 (outP CC H8 (some (.val v1 H8))) fun v9 H9 =>
  guardP (boolIs false v8) H9 (outP CC H9 (some (.val x0 H9))) fun v10 H10 =>
  guardP (boolIs false v8) H10 (outP CC H10 (w_nil H10 v10)) fun v11 H11 =>
  guardP (boolIs false v8) H11 (outP CC H11 (w_fieldAddr 0 H11 v11)) fun v12 H12 =>
  guardP (boolIs false v8) H12 (outP CC H12 (w_load none H12 v12)) fun v13 H13 =>
  guardP (boolIs false v8) H13 (outP CC H13 (w_len PP 27 H13 v13)) fun v14 H14 =>
  guardP (boolIs false v8) H14 (outP CC H14 (w_int .gtr H14 v9 v14)) fun v15 H15 =>
  outP CC H15 (w_pick H15 v8 (.bool true) v15) fun v16 H16 =>
  condP v16
  (outP CC H16 (w_nil H16 x0) fun v17 H17 =>
  outP CC H17 (w_fieldAddr 1 H17 v17) fun v18 H18 =>
  outP CC H18 (w_store 1 H18 v18 (.bool true)) fun _v19 H19 =>
  K (.str []) H19)
  (outP CC H16 (w_nil H16 x0) fun v20 H20 =>
  outP CC H20 (w_fieldAddr 0 H20 v20) fun v21 H21 =>
  outP CC H21 (w_load none H21 v21) fun v22 H22 =>
  outP CC H22 (w_slice (.sl 1) true false H22 v22 none (some v1) none) fun v23 H23 =>
  outP CC H23 (w_conv .text H23 v23 none) fun v24 H24 =>
  outP CC H24 (w_nil H24 x0) fun v25 H25 =>
  outP CC H25 (w_fieldAddr 0 H25 v25) fun v26 H26 =>
  outP CC H26 (w_load none H26 v26) fun v27 H27 =>
  outP CC H27 (w_slice (.sl 1) false false H27 v27 (some v1) none none) fun v28 H28 =>
  outP CC H28 (w_nil H28 x0) fun v29 H29 =>
  outP CC H29 (w_fieldAddr 0 H29 v29) fun v30 H30 =>
  outP CC H30 (w_store 1 H30 v30 v28) fun _v31 H31 =>
  K v24 H31))
theorem eQ57_ (K : KT) (a : TE) (H : AH) : bQ57 [] (kQ57 K) a H = m_bin_Reader_Text K (a 0) (a 1) H :=
  by kernel_rfl
theorem m_bin_Reader_Text_ok (x0 x1 : AV) (H : AH) (K : KT) (h : m_bin_Reader_Text K x0 x1 H) : CC.call 57 [x0, x1] H K :=
  have h1 : funP PP CC 57 [x0, x1] H K = bQ57 [] (kQ57 K) (argE [x0, x1]) H := by kernel_rfl
  have h2 : m_bin_Reader_Text K (argE [x0, x1] 0) (argE [x0, x1] 1) H = m_bin_Reader_Text K x0 x1 H := by kernel_rfl
  funP_ok (P := PP) (by kernel_rfl) (by kernel_rfl) ((h1.trans ((eQ57_ K (argE [x0, x1]) H).trans h2)).mpr h)

/-! 58: (*fieldfare/req.reader).number -/
abbrev bQ58 (p : List Nat) (k : KP) : KE := codeP PP CC (subC (bodyC PP 58) p) k
abbrev kQ58 (K : KT) : KP := finP PP (resC PP 58) K
def m_req_reader_number (K : KT) (x0 x1 : AV) (H : AH) : Prop :=
  outP CC H (w_nil H x0) fun v1 H1 =>
  outP CC H1 (w_fieldAddr 0 H1 v1) fun v2 H2 =>
  outP CC H2 (w_load none H2 v2) fun v3 H3 =>
  outP CC H3 (some (.enter 55 [v3])) fun v4 H4 =>
  outP CC H4 (w_nil H4 x0) fun v5 H5 =>
  outP CC H5 (w_fieldAddr 1 H5 v5) fun v6 H6 =>
  outP CC H6 (w_load none H6 v6) fun v7 H7 =>
  guardP (boolIs false v7) H7 (outP CC H7 (some (.val v4 H7))) fun v8 H8 =>
  guardP (boolIs false v7) H8 (outP CC H8 (w_int .lss H8 v8 (.int .i64 0))) fun v9 H9 =>
  outP CC H9 (w_pick H9 v7 (.bool true) v9) fun v10 H10 =>
  guardP (boolIs false v10) H10 (outP CC H10 (some (.val v4 H10))) fun v11 H11 =>
  guardP (boolIs false v10) H11 (outP CC H11 (some (.val x1 H11))) fun v12 H12 =>
  guardP (boolIs false v10) H12 (outP CC H12 (w_int .gtr H12 v11 v12)) fun v13 H13 =>
  outP CC H13 (w_pick H13 v10 (.bool true) v13) fun v14 H14 =>
  outP CC H14 (w_nil H14 x0) fun v15 H15 =>
  outP CC H15 (w_fieldAddr 1 H15 v15) fun v16 H16 =>
  outP CC H16 (w_store 1 H16 v16 v14) fun _v17 H17 =>
  K v4 H17
theorem eQ58_ (K : KT) (a : TE) (H : AH) : bQ58 [] (kQ58 K) a H = m_req_reader_number K (a 0) (a 1) H :=
  by kernel_rfl
theorem m_req_reader_number_ok (x0 x1 : AV) (H : AH) (K : KT) (h : m_req_reader_number K x0 x1 H) : CC.call 58 [x0, x1] H K :=
  have h1 : funP PP CC 58 [x0, x1] H K = bQ58 [] (kQ58 K) (argE [x0, x1]) H := by kernel_rfl
  have h2 : m_req_reader_number K (argE [x0, x1] 0) (argE [x0, x1] 1) H = m_req_reader_number K x0 x1 H := by kernel_rfl
  funP_ok (P := PP) (by kernel_rfl) (by kernel_rfl) ((h1.trans ((eQ58_ K (argE [x0, x1]) H).trans h2)).mpr h)

/-! 111: (*fieldfare/req.reader).vec -/
abbrev bQ111 (p : List Nat) (k : KP) : KE := codeP PP CC (subC (bodyC PP 111) p) k
abbrev kQ111 (K : KT) : KP := finP PP (resC PP 111) K
def m_req_reader_vec (K : KT) (x0 : AV) (H : AH) : Prop :=
  outP CC H (w_nil H x0) fun v1 H1 =>
  outP CC H1 (w_fieldAddr 0 H1 v1) fun v2 H2 =>
  outP CC H2 (w_load none H2 v2) fun v3 H3 =>
  outP CC H3 (some (.enter 198 [v3])) fun v4 H4 =>
  outP CC H4 (w_nil H4 x0) fun v5 H5 =>
  outP CC H5 (w_fieldAddr 1 H5 v5) fun v6 H6 =>
  outP CC H6 (w_load none H6 v6) fun v7 H7 =>
  guardP (boolIs false v7) H7 (outP CC H7 (some (.val v4 H7))) fun v8 H8 =>
  guardP (boolIs false v7) H8 (outP CC H8 (w_eq PP .eql 23 false true H8 v8 (.slice none 0 0 true))) fun v9 H9 =>
  outP CC H9 (w_pick H9 v7 (.bool true) v9) fun v10 H10 =>
  outP CC H10 (w_nil H10 x0) fun v11 H11 =>
  outP CC H11 (w_fieldAddr 1 H11 v11) fun v12 H12 =>
  outP CC H12 (w_store 1 H12 v12 v10) fun _v13 H13 =>
  K v4 H13
theorem eQ111_ (K : KT) (a : TE) (H : AH) : bQ111 [] (kQ111 K) a H = m_req_reader_vec K (a 0) H :=
  by kernel_rfl
theorem m_req_reader_vec_ok (x0 : AV) (H : AH) (K : KT) (h : m_req_reader_vec K x0 H) : CC.call 111 [x0] H K :=
  have h1 : funP PP CC 111 [x0] H K = bQ111 [] (kQ111 K) (argE [x0]) H := by kernel_rfl
  have h2 : m_req_reader_vec K (argE [x0] 0) H = m_req_reader_vec K x0 H := by kernel_rfl
  funP_ok (P := PP) (by kernel_rfl) (by kernel_rfl) ((h1.trans ((eQ111_ K (argE [x0]) H).trans h2)).mpr h)

/-! 59: (*fieldfare/req.reader).behind -/
abbrev bQ59 (p : List Nat) (k : KP) : KE := codeP PP CC (subC (bodyC PP 59) p) k
abbrev kQ59 (K : KT) : KP := finP PP (resC PP 59) K
abbrev kQ59_t (K : KT) : KP := blockP 0 (kQ59 K)
def m_req_reader_behindtbt (K : KT) (x0 x1 : AV) (H : AH) : Prop :=
  outP CC H (some (.enter 111 [x0])) fun v1 H1 =>
  outP CC H1 (some (.enter 58 [x0, (.int .i64 1000000)])) fun v2 H2 =>
  outP CC H2 (w_nil H2 x1) fun v3 H3 =>
  outP CC H3 (w_fieldAddr 7 H3 v3) fun v4 H4 =>
  outP CC H4 (w_store 1 H4 v4 v1) fun _v5 H5 =>
  outP CC H5 (w_nil H5 x1) fun v6 H6 =>
  outP CC H6 (w_fieldAddr 9 H6 v6) fun v7 H7 =>
  outP CC H7 (w_store 1 H7 v7 v2) fun _v8 H8 =>
  K (.tup []) H8
theorem eQ59_tbt (K : KT) (a : TE) (H : AH) : bQ59 [1,0,1] (kQ59_t K) a H = m_req_reader_behindtbt K (a 0) (a 1) H :=
  by kernel_rfl
abbrev kQ59_tb (K : KT) : KP := exP (fun (a : TE) (H : AH) => m_req_reader_behindtbt K (a 0) (a 1) H) (kQ59_t K)
abbrev kQ59_tbh (K : KT) : KP := blockP 5 (kQ59_tb K)
def m_req_reader_behindtbhbt (K : KT) (x0 x1 : AV) (H : AH) : Prop :=
  outP CC H (w_nil H x0) fun v1 H1 =>
  outP CC H1 (w_fieldAddr 0 H1 v1) fun v2 H2 =>
  outP CC H2 (w_load none H2 v2) fun v3 H3 =>
  outP CC H3 (some (.enter 58 [x0, (.int .i64 1000000)])) fun v4 H4 =>
  ckP (reC true (w_load none H4 v2) v3) <|
  outP CC H4 (some (.enter 111 [x0])) fun v5 H5 =>
  ckP (reC true (w_load none H5 v2) v3) <|
  outP CC H5 (some (.enter 57 [v3, (.int .i64 40)])) fun v6 H6 =>
  outP CC H6 (w_nil H6 x1) fun v7 H7 =>
  outP CC H7 (w_fieldAddr 3 H7 v7) fun v8 H8 =>
  outP CC H8 (w_store 1 H8 v8 v4) fun _v9 H9 =>
  outP CC H9 (w_nil H9 x1) fun v10 H10 =>
  outP CC H10 (w_fieldAddr 7 H10 v10) fun v11 H11 =>
  outP CC H11 (w_store 1 H11 v11 v5) fun _v12 H12 =>
  outP CC H12 (w_nil H12 x1) fun v13 H13 =>
  outP CC H13 (w_fieldAddr 8 H13 v13) fun v14 H14 =>
  outP CC H14 (w_store 1 H14 v14 v6) fun _v15 H15 =>
  outP CC H15 (some (.enter 58 [x0, (.int .i64 4294967295)])) fun v16 H16 =>
  outP CC H16 (w_conv (.int .u32) H16 v16 none) fun v17 H17 =>
  outP CC H17 (w_nil H17 x1) fun v18 H18 =>
  outP CC H18 (w_fieldAddr 10 H18 v18) fun v19 H19 =>
  outP CC H19 (w_store 1 H19 v19 v17) fun _v20 H20 =>
  K (.tup []) H20
theorem eQ59_tbhbt (K : KT) (a : TE) (H : AH) : bQ59 [1,0,0,0,1] (kQ59_tbh K) a H = m_req_reader_behindtbhbt K (a 0) (a 1) H :=
  by kernel_rfl
abbrev kQ59_tbhb (K : KT) : KP := exP (fun (a : TE) (H : AH) => m_req_reader_behindtbhbt K (a 0) (a 1) H) (kQ59_tbh K)
abbrev kQ59_tbhbh (K : KT) : KP := blockP 4 (kQ59_tbhb K)
def m_req_reader_behindtbhbhbt (K : KT) (x0 x1 : AV) (H : AH) : Prop :=
  outP CC H (some (.enter 58 [x0, (.int .i64 1000000)])) fun v1 H1 =>
  outP CC H1 (w_nil H1 x1) fun v2 H2 =>
  outP CC H2 (w_fieldAddr 3 H2 v2) fun v3 H3 =>
  outP CC H3 (w_store 1 H3 v3 v1) fun _v4 H4 =>
  K (.tup []) H4
theorem eQ59_tbhbhbt (K : KT) (a : TE) (H : AH) : bQ59 [1,0,0,0,0,0,1] (kQ59_tbhbh K) a H = m_req_reader_behindtbhbhbt K (a 0) (a 1) H :=
  by kernel_rfl
abbrev kQ59_tbhbhb (K : KT) : KP := exP (fun (a : TE) (H : AH) => m_req_reader_behindtbhbhbt K (a 0) (a 1) H) (kQ59_tbhbh K)
abbrev kQ59_tbhbhbh (K : KT) : KP := blockP 3 (kQ59_tbhbhb K)
def m_req_reader_behindtbhbhbhbt (K : KT) (x0 x1 : AV) (H : AH) : Prop :=
  outP CC H (some (.enter 58 [x0, (.int .i64 1000000)])) fun v1 H1 =>
  outP CC H1 (w_nil H1 x1) fun v2 H2 =>
  outP CC H2 (w_fieldAddr 6 H2 v2) fun v3 H3 =>
  outP CC H3 (w_store 1 H3 v3 v1) fun _v4 H4 =>
  K (.tup []) H4
theorem eQ59_tbhbhbhbt (K : KT) (a : TE) (H : AH) : bQ59 [1,0,0,0,0,0,0,0,1] (kQ59_tbhbhbh K) a H = m_req_reader_behindtbhbhbhbt K (a 0) (a 1) H :=
  by kernel_rfl
abbrev kQ59_tbhbhbhb (K : KT) : KP := exP (fun (a : TE) (H : AH) => m_req_reader_behindtbhbhbhbt K (a 0) (a 1) H) (kQ59_tbhbhbh K)
abbrev kQ59_tbhbhbhbh (K : KT) : KP := blockP 2 (kQ59_tbhbhbhb K)
abbrev kQ59_tbhbhbhbhb (K : KT) : KP := exP (bQ59 [1,0,0,0,0,0,0,0,0,0,1] (kQ59_tbhbhbhbh K)) (kQ59_tbhbhbhbh K)
abbrev kQ59_tbhbhbhbhbh (K : KT) : KP := blockP 1 (kQ59_tbhbhbhbhb K)
abbrev kQ59_tbhbhbhbhbhb (K : KT) : KP := exP (bQ59 [1,0,0,0,0,0,0,0,0,0,0,0,1] (kQ59_tbhbhbhbhbh K)) (kQ59_tbhbhbhbhbh K)
def m_req_reader_behindtbhbhbhbhbhbhttt (K : KT) (x0 x1 x7 : AV) (H : AH) : Prop :=
  outP CC H (w_int .eql H x7 (.int .i64 3)) fun v1 H1 =>
  condP v1
  (m_req_reader_behindtbhbt K x0 x1 H1)
  (outP CC H1 (w_int .eql H1 x7 (.int .i64 13)) fun v2 H2 =>
  condP v2
  (m_req_reader_behindtbt K x0 x1 H2)
  (K (.tup []) H2))
theorem eQ59_tbhbhbhbhbhbhttt (K : KT) (a : TE) (H : AH) : bQ59 [1,0,0,0,0,0,0,0,0,0,0,0,0,1,1,1] (kQ59_tbhbhbhbhbhb K) a H = m_req_reader_behindtbhbhbhbhbhbhttt K (a 0) (a 1) (a 7) H :=
  by kernel_rfl
abbrev kQ59_tbhbhbhbhbhbhtt (K : KT) : KP := exP (fun (a : TE) (H : AH) => m_req_reader_behindtbhbhbhbhbhbhttt K (a 0) (a 1) (a 7) H) (kQ59_tbhbhbhbhbhb K)
def m_req_reader_behindtbhbhbhbhbhbhttht (K : KT) (x0 x1 x7 x12 : AV) (H : AH) : Prop :=
  condP x12
  (m_req_reader_behindtbhbhbt K x0 x1 H)
  (m_req_reader_behindtbhbhbhbhbhbhttt K x0 x1 x7 H)
theorem eQ59_tbhbhbhbhbhbhttht (K : KT) (a : TE) (H : AH) : bQ59 [1,0,0,0,0,0,0,0,0,0,0,0,0,1,1,0,1] (kQ59_tbhbhbhbhbhbhtt K) a H = m_req_reader_behindtbhbhbhbhbhbhttht K (a 0) (a 1) (a 7) (a 12) H :=
  by kernel_rfl
def m_req_reader_behindtbhbhbhbhbhbhtth (K : KT) (x0 x1 x7 : AV) (H : AH) : Prop :=
  outP CC H (w_int .eql H x7 (.int .i64 4)) fun v1 H1 =>
  condP v1
  (m_req_reader_behindtbhbhbhbhbhbhttht K x0 x1 x7 v1 H1)
  (outP CC H1 (w_int .eql H1 x7 (.int .i64 12)) fun v2 H2 =>
  m_req_reader_behindtbhbhbhbhbhbhttht K x0 x1 x7 v2 H2)
theorem eQ59_tbhbhbhbhbhbhtth (K : KT) (a : TE) (H : AH) : bQ59 [1,0,0,0,0,0,0,0,0,0,0,0,0,1,1,0] (kQ59_tbhbhbhbhbhbhtt K) a H = m_req_reader_behindtbhbhbhbhbhbhtth K (a 0) (a 1) (a 7) H :=
  eSeq (ca := subC (bodyC PP 59) [1,0,0,0,0,0,0,0,0,0,0,0,0,1,1,0,0]) (by kernel_rfl) (eQ59_tbhbhbhbhbhbhttht K) (by kernel_rfl)
theorem eQ59_tbhbhbhbhbhbhtt (K : KT) (a : TE) (H : AH) : bQ59 [1,0,0,0,0,0,0,0,0,0,0,0,0,1,1] (kQ59_tbhbhbhbhbhb K) a H = m_req_reader_behindtbhbhbhbhbhbhtth K (a 0) (a 1) (a 7) H :=
  eSeqK (by kernel_rfl) (eQ59_tbhbhbhbhbhbhttt K) (by kernel_rfl) (eQ59_tbhbhbhbhbhbhtth K a H)
def m_req_reader_behindtbhbhbhbhbhbht (K : KT) (x0 x1 x7 : AV) (H : AH) : Prop :=
  outP CC H (w_int .eql H x7 (.int .i64 6)) fun v1 H1 =>
  condP v1
  (m_req_reader_behindtbhbhbhbt K x0 x1 H1)
  (m_req_reader_behindtbhbhbhbhbhbhtth K x0 x1 x7 H1)
theorem eQ59_tbhbhbhbhbhbht (K : KT) (a : TE) (H : AH) : bQ59 [1,0,0,0,0,0,0,0,0,0,0,0,0,1] (kQ59_tbhbhbhbhbhb K) a H = m_req_reader_behindtbhbhbhbhbhbht K (a 0) (a 1) (a 7) H :=
  eSeq (ca := subC (bodyC PP 59) [1,0,0,0,0,0,0,0,0,0,0,0,0,1,0]) (by kernel_rfl) (eQ59_tbhbhbhbhbhbhtt K) (by kernel_rfl)
def m_req_reader_behindtbhbhbhbhbhbh (K : KT) (x0 x1 x7 : AV) (H : AH) : Prop :=
  outP CC H (w_int .eql H x7 (.int .i64 1)) fun v1 H1 =>
  condP v1
  (outP CC H1 (some (.enter 58 [x0, (.int .i64 1000000)])) fun v2 H2 =>
  outP CC H2 (some (.enter 58 [x0, (.int .i64 1000000)])) fun v3 H3 =>
  outP CC H3 (w_nil H3 x1) fun v4 H4 =>
  outP CC H4 (w_fieldAddr 4 H4 v4) fun v5 H5 =>
  outP CC H5 (w_store 1 H5 v5 v2) fun _v6 H6 =>
  outP CC H6 (w_nil H6 x1) fun v7 H7 =>
  outP CC H7 (w_fieldAddr 5 H7 v7) fun v8 H8 =>
  outP CC H8 (w_store 1 H8 v8 v3) fun _v9 H9 =>
  m_req_reader_behindtbhbhbhbt K x0 x1 H9)
  (m_req_reader_behindtbhbhbhbhbhbht K x0 x1 x7 H1)
theorem eQ59_tbhbhbhbhbhbh (K : KT) (a : TE) (H : AH) : bQ59 [1,0,0,0,0,0,0,0,0,0,0,0,0] (kQ59_tbhbhbhbhbhb K) a H = m_req_reader_behindtbhbhbhbhbhbh K (a 0) (a 1) (a 7) H :=
  eSeq (ca := subC (bodyC PP 59) [1,0,0,0,0,0,0,0,0,0,0,0,0,0]) (by kernel_rfl) (eQ59_tbhbhbhbhbhbht K) (by kernel_rfl)
theorem eQ59_tbhbhbhbhbhb (K : KT) (a : TE) (H : AH) : bQ59 [1,0,0,0,0,0,0,0,0,0,0,0] (kQ59_tbhbhbhbhbh K) a H = m_req_reader_behindtbhbhbhbhbhbh K (a 0) (a 1) (a 7) H :=
  eSeqJ (subC (bodyC PP 59) [1,0,0,0,0,0,0,0,0,0,0,0,1]) (by kernel_rfl) (by kernel_rfl) (eQ59_tbhbhbhbhbhbh K a H)
theorem eQ59_tbhbhbhbhbh (K : KT) (a : TE) (H : AH) : bQ59 [1,0,0,0,0,0,0,0,0,0,0] (kQ59_tbhbhbhbhb K) a H = m_req_reader_behindtbhbhbhbhbhbh K (a 0) (a 1) (a 7) H :=
  eBlockK 1 (by kernel_rfl) (by kernel_rfl) (eQ59_tbhbhbhbhbhb K a H)
theorem eQ59_tbhbhbhbhb (K : KT) (a : TE) (H : AH) : bQ59 [1,0,0,0,0,0,0,0,0,0] (kQ59_tbhbhbhbh K) a H = m_req_reader_behindtbhbhbhbhbhbh K (a 0) (a 1) (a 7) H :=
  eSeqJ (subC (bodyC PP 59) [1,0,0,0,0,0,0,0,0,0,1]) (by kernel_rfl) (by kernel_rfl) (eQ59_tbhbhbhbhbh K a H)
theorem eQ59_tbhbhbhbh (K : KT) (a : TE) (H : AH) : bQ59 [1,0,0,0,0,0,0,0,0] (kQ59_tbhbhbhb K) a H = m_req_reader_behindtbhbhbhbhbhbh K (a 0) (a 1) (a 7) H :=
  eBlockK 2 (by kernel_rfl) (by kernel_rfl) (eQ59_tbhbhbhbhb K a H)
theorem eQ59_tbhbhbhb (K : KT) (a : TE) (H : AH) : bQ59 [1,0,0,0,0,0,0,0] (kQ59_tbhbhbh K) a H = m_req_reader_behindtbhbhbhbhbhbh K (a 0) (a 1) (a 7) H :=
  eSeqK (by kernel_rfl) (eQ59_tbhbhbhbt K) (by kernel_rfl) (eQ59_tbhbhbhbh K a H)
theorem eQ59_tbhbhbh (K : KT) (a : TE) (H : AH) : bQ59 [1,0,0,0,0,0,0] (kQ59_tbhbhb K) a H = m_req_reader_behindtbhbhbhbhbhbh K (a 0) (a 1) (a 7) H :=
  eBlockK 3 (by kernel_rfl) (by kernel_rfl) (eQ59_tbhbhbhb K a H)
theorem eQ59_tbhbhb (K : KT) (a : TE) (H : AH) : bQ59 [1,0,0,0,0,0] (kQ59_tbhbh K) a H = m_req_reader_behindtbhbhbhbhbhbh K (a 0) (a 1) (a 7) H :=
  eSeqK (by kernel_rfl) (eQ59_tbhbhbt K) (by kernel_rfl) (eQ59_tbhbhbh K a H)
theorem eQ59_tbhbh (K : KT) (a : TE) (H : AH) : bQ59 [1,0,0,0,0] (kQ59_tbhb K) a H = m_req_reader_behindtbhbhbhbhbhbh K (a 0) (a 1) (a 7) H :=
  eBlockK 4 (by kernel_rfl) (by kernel_rfl) (eQ59_tbhbhb K a H)
theorem eQ59_tbhb (K : KT) (a : TE) (H : AH) : bQ59 [1,0,0,0] (kQ59_tbh K) a H = m_req_reader_behindtbhbhbhbhbhbh K (a 0) (a 1) (a 7) H :=
  eSeqK (by kernel_rfl) (eQ59_tbhbt K) (by kernel_rfl) (eQ59_tbhbh K a H)
theorem eQ59_tbh (K : KT) (a : TE) (H : AH) : bQ59 [1,0,0] (kQ59_tb K) a H = m_req_reader_behindtbhbhbhbhbhbh K (a 0) (a 1) (a 7) H :=
  eBlockK 5 (by kernel_rfl) (by kernel_rfl) (eQ59_tbhb K a H)
theorem eQ59_tb (K : KT) (a : TE) (H : AH) : bQ59 [1,0] (kQ59_t K) a H = m_req_reader_behindtbhbhbhbhbhbh K (a 0) (a 1) (a 7) H :=
  eSeqK (by kernel_rfl) (eQ59_tbt K) (by kernel_rfl) (eQ59_tbh K a H)
theorem eQ59_t (K : KT) (a : TE) (H : AH) : bQ59 [1] (kQ59 K) a H = m_req_reader_behindtbhbhbhbhbhbh K (a 0) (a 1) (a 7) H :=
  eBlockK 0 (by kernel_rfl) (by kernel_rfl) (eQ59_tb K a H)
def m_req_reader_behind (K : KT) (x0 x1 : AV) (H : AH) : Prop :=
  outP CC H (w_nil H x1) fun v1 H1 =>
  outP CC H1 (w_fieldAddr 0 H1 v1) fun v2 H2 =>
  outP CC H2 (w_load none H2 v2) fun v3 H3 =>
  m_req_reader_behindtbhbhbhbhbhbh K x0 x1 v3 H3
theorem eQ59_ (K : KT) (a : TE) (H : AH) : bQ59 [] (kQ59 K) a H = m_req_reader_behind K (a 0) (a 1) H :=
  eSeq (ca := subC (bodyC PP 59) [0]) (by kernel_rfl) (eQ59_t K) (by kernel_rfl)
theorem m_req_reader_behind_ok (x0 x1 : AV) (H : AH) (K : KT) (h : m_req_reader_behind K x0 x1 H) : CC.call 59 [x0, x1] H K :=
  have h1 : funP PP CC 59 [x0, x1] H K = bQ59 [] (kQ59 K) (argE [x0, x1]) H := by kernel_rfl
  have h2 : m_req_reader_behind K (argE [x0, x1] 0) (argE [x0, x1] 1) H = m_req_reader_behind K x0 x1 H := by kernel_rfl
  funP_ok (P := PP) (by kernel_rfl) (by kernel_rfl) ((h1.trans ((eQ59_ K (argE [x0, x1]) H).trans h2)).mpr h)

/-! 13: fieldfare/req.Get -/
abbrev bQ13 (p : List Nat) (k : KP) : KE := codeP PP CC (subC (bodyC PP 13) p) k
abbrev kQ13 (K : KT) : KP := finP PP (resC PP 13) K
def m_req_Getttttttt (K : KT) (x2 x4 x6 : AV) (H : AH) : Prop :=
  outP CC H (w_nil H x4) fun v1 H1 =>
  outP CC H1 (w_fieldAddr 1 H1 v1) fun v2 H2 =>
  outP CC H2 (w_load none H2 v2) fun v3 H3 =>
  guardP (boolIs false v3) H3 (outP CC H3 (some (.val x4 H3))) fun v4 H4 =>
  guardP (boolIs false v3) H4 (outP CC H4 (w_nil H4 v4)) fun v5 H5 =>
  guardP (boolIs false v3) H5 (outP CC H5 (w_fieldAddr 0 H5 v5)) fun v6 H6 =>
  guardP (boolIs false v3) H6 (outP CC H6 (w_load none H6 v6)) fun v7 H7 =>
  guardP (boolIs false v3) H7 (outP CC H7 (some (.enter 60 [v7]))) fun v8 H8 =>
  guardP (boolIs false v3) H8 (outP CC H8 (w_int .neq H8 v8 (.int .i64 0))) fun v9 H9 =>
  outP CC H9 (w_pick H9 v3 (.bool true) v9) fun v10 H10 =>
  condP v10
  (outP CC H10 (w_build PP 26 H10 []) fun v11 H11 =>
  outP CC H11 (some (.enter 41 [(.int .i64 1)])) fun v12 H12 =>
  outP CC H12 (w_store 11 H12 x2 v11) fun _v13 H13 =>
  endP (resR (partF (some (some 11))) H13 x2 (resT v12 (some []))) K H13)
  (outP CC H10 (w_load (some 11) H10 x6) fun v14 H14 =>
  outP CC H14 (w_store 11 H14 x2 v14) fun _v15 H15 =>
  endP (resR (partF (some (some 11))) H15 x2 (resT .nilIface (some []))) K H15)
theorem eQ13_ttttttt (K : KT) (a : TE) (H : AH) : bQ13 [1,1,1,1,1,1,1] (kQ13 K) a H = m_req_Getttttttt K (a 2) (a 4) (a 6) H :=
  by kernel_rfl
abbrev kQ13_tttttt (K : KT) : KP := exP (fun (a : TE) (H : AH) => m_req_Getttttttt K (a 2) (a 4) (a 6) H) (kQ13 K)
abbrev kQ13_ttttttht (K : KT) : KP := blockP 1 (kQ13_tttttt K)
def m_req_Gettttttthtbty (K : KT) (x2 x4 x6 : AV) (H : AH) : Prop :=
  outP CC H (w_nil H x4) fun v1 H1 =>
  outP CC H1 (w_fieldAddr 0 H1 v1) fun v2 H2 =>
  outP CC H2 (w_load none H2 v2) fun v3 H3 =>
  outP CC H3 (w_nil H3 x4) fun v4 H4 =>
  outP CC H4 (w_fieldAddr 0 H4 v4) fun v5 H5 =>
  outP CC H5 (w_load none H5 v5) fun v6 H6 =>
  outP CC H6 (some (.enter 57 [v3, (.int .i64 12)])) fun v7 H7 =>
  ckP (reC true (w_load none H7 v5) v6) <|
  outP CC H7 (some (.enter 57 [v6, (.int .i64 12)])) fun v8 H8 =>
  outP CC H8 (w_fieldAddr 2 H8 x6) fun v9 H9 =>
  outP CC H9 (w_store 1 H9 v9 v7) fun _v10 H10 =>
  outP CC H10 (w_fieldAddr 1 H10 x6) fun v11 H11 =>
  outP CC H11 (w_store 1 H11 v11 v8) fun _v12 H12 =>
  m_req_Getttttttt K x2 x4 x6 H12
theorem eQ13_tttttthtbty (K : KT) (a : TE) (H : AH) : bQ13 [1,1,1,1,1,1,0,1,0,1,0] (kQ13_ttttttht K) a H = m_req_Gettttttthtbty K (a 2) (a 4) (a 6) H :=
  by kernel_rfl
def m_req_Gettttttthtbtnty (K : KT) (x2 x4 x6 : AV) (H : AH) : Prop :=
  outP CC H (some (.enter 58 [x4, (.int .i64 4294967295)])) fun v1 H1 =>
  outP CC H1 (w_conv (.int .u32) H1 v1 none) fun v2 H2 =>
  outP CC H2 (w_fieldAddr 10 H2 x6) fun v3 H3 =>
  outP CC H3 (w_store 1 H3 v3 v2) fun _v4 H4 =>
  m_req_Getttttttt K x2 x4 x6 H4
theorem eQ13_tttttthtbtnty (K : KT) (a : TE) (H : AH) : bQ13 [1,1,1,1,1,1,0,1,0,1,1,1,0] (kQ13_ttttttht K) a H = m_req_Gettttttthtbtnty K (a 2) (a 4) (a 6) H :=
  by kernel_rfl
def m_req_Gettttttthtbtntnt (K : KT) (x2 x4 x6 x71 : AV) (H : AH) : Prop :=
  condP x71
  (m_req_Getttttttt K x2 x4 x6 H)
  (outP CC H (w_nil H x4) fun v1 H1 =>
  outP CC H1 (w_fieldAddr 0 H1 v1) fun v2 H2 =>
  outP CC H2 (w_load none H2 v2) fun v3 H3 =>
  outP CC H3 (some (.enter 57 [v3, (.int .i64 12)])) fun v4 H4 =>
  outP CC H4 (w_fieldAddr 1 H4 x6) fun v5 H5 =>
  outP CC H5 (w_store 1 H5 v5 v4) fun _v6 H6 =>
  outP CC H6 (some (.enter 59 [x4, x6])) fun _v7 H7 =>
  m_req_Getttttttt K x2 x4 x6 H7)
theorem eQ13_tttttthtbtntnt (K : KT) (a : TE) (H : AH) : bQ13 [1,1,1,1,1,1,0,1,0,1,1,1,1,1] (kQ13_ttttttht K) a H = m_req_Gettttttthtbtntnt K (a 2) (a 4) (a 6) (a 71) H :=
  by kernel_rfl
def m_req_Gettttttthtbtntn (K : KT) (x2 x4 x6 x42 : AV) (H : AH) : Prop :=
  outP CC H (w_int .eql H x42 (.int .i64 7)) fun v1 H1 =>
  condP v1
  (m_req_Gettttttthtbtntnt K x2 x4 x6 v1 H1)
  (outP CC H1 (w_int .eql H1 x42 (.int .i64 8)) fun v2 H2 =>
  condP v2
  (m_req_Gettttttthtbtntnt K x2 x4 x6 v2 H2)
  (outP CC H2 (w_int .eql H2 x42 (.int .i64 9)) fun v3 H3 =>
  condP v3
  (m_req_Gettttttthtbtntnt K x2 x4 x6 v3 H3)
  (outP CC H3 (w_int .eql H3 x42 (.int .i64 11)) fun v4 H4 =>
  condP v4
  (m_req_Gettttttthtbtntnt K x2 x4 x6 v4 H4)
  (outP CC H4 (w_int .eql H4 x42 (.int .i64 14)) fun v5 H5 =>
  m_req_Gettttttthtbtntnt K x2 x4 x6 v5 H5))))
theorem eQ13_tttttthtbtntn (K : KT) (a : TE) (H : AH) : bQ13 [1,1,1,1,1,1,0,1,0,1,1,1,1] (kQ13_ttttttht K) a H = m_req_Gettttttthtbtntn K (a 2) (a 4) (a 6) (a 42) H :=
  eSeq (ca := subC (bodyC PP 13) [1,1,1,1,1,1,0,1,0,1,1,1,1,0]) (by kernel_rfl) (eQ13_tttttthtbtntnt K) (by kernel_rfl)
def m_req_Gettttttthtbtnt (K : KT) (x2 x4 x6 x42 x65 : AV) (H : AH) : Prop :=
  condP x65 (m_req_Gettttttthtbtnty K x2 x4 x6 H) (m_req_Gettttttthtbtntn K x2 x4 x6 x42 H)
theorem eQ13_tttttthtbtnt (K : KT) (a : TE) (H : AH) : bQ13 [1,1,1,1,1,1,0,1,0,1,1,1] (kQ13_ttttttht K) a H = m_req_Gettttttthtbtnt K (a 2) (a 4) (a 6) (a 42) (a 65) H :=
  eCond (o := .tmp 65) (by kernel_rfl) (eQ13_tttttthtbtnty K a H) (eQ13_tttttthtbtntn K a H)
def m_req_Gettttttthtbtn (K : KT) (x2 x4 x6 x42 : AV) (H : AH) : Prop :=
  outP CC H (w_int .eql H x42 (.int .i64 10)) fun v1 H1 =>
  m_req_Gettttttthtbtnt K x2 x4 x6 x42 v1 H1
theorem eQ13_tttttthtbtn (K : KT) (a : TE) (H : AH) : bQ13 [1,1,1,1,1,1,0,1,0,1,1] (kQ13_ttttttht K) a H = m_req_Gettttttthtbtn K (a 2) (a 4) (a 6) (a 42) H :=
  eSeq (ca := subC (bodyC PP 13) [1,1,1,1,1,1,0,1,0,1,1,0]) (by kernel_rfl) (eQ13_tttttthtbtnt K) (by kernel_rfl)
def m_req_Gettttttthtbt (K : KT) (x2 x4 x6 x42 x51 : AV) (H : AH) : Prop :=
  condP x51 (m_req_Gettttttthtbty K x2 x4 x6 H) (m_req_Gettttttthtbtn K x2 x4 x6 x42 H)
theorem eQ13_tttttthtbt (K : KT) (a : TE) (H : AH) : bQ13 [1,1,1,1,1,1,0,1,0,1] (kQ13_ttttttht K) a H = m_req_Gettttttthtbt K (a 2) (a 4) (a 6) (a 42) (a 51) H :=
  eCond (o := .tmp 51) (by kernel_rfl) (eQ13_tttttthtbty K a H) (eQ13_tttttthtbtn K a H)
def m_req_Gettttttthtb (K : KT) (x2 x4 x6 x42 : AV) (H : AH) : Prop :=
  outP CC H (w_int .eql H x42 (.int .i64 5)) fun v1 H1 =>
  m_req_Gettttttthtbt K x2 x4 x6 x42 v1 H1
theorem eQ13_tttttthtb (K : KT) (a : TE) (H : AH) : bQ13 [1,1,1,1,1,1,0,1,0] (kQ13_ttttttht K) a H = m_req_Gettttttthtb K (a 2) (a 4) (a 6) (a 42) H :=
  eSeq (ca := subC (bodyC PP 13) [1,1,1,1,1,1,0,1,0,0]) (by kernel_rfl) (eQ13_tttttthtbt K) (by kernel_rfl)
theorem eQ13_ttttttht (K : KT) (a : TE) (H : AH) : bQ13 [1,1,1,1,1,1,0,1] (kQ13_tttttt K) a H = m_req_Gettttttthtb K (a 2) (a 4) (a 6) (a 42) H :=
  eBlockK 1 (by kernel_rfl) (by kernel_rfl) (eQ13_tttttthtb K a H)
def m_req_Gettttttth (K : KT) (x2 x4 x6 : AV) (H : AH) : Prop :=
  outP CC H (w_fieldAddr 0 H x6) fun v1 H1 =>
  outP CC H1 (w_load none H1 v1) fun v2 H2 =>
  m_req_Gettttttthtb K x2 x4 x6 v2 H2
theorem eQ13_tttttth (K : KT) (a : TE) (H : AH) : bQ13 [1,1,1,1,1,1,0] (kQ13_tttttt K) a H = m_req_Gettttttth K (a 2) (a 4) (a 6) H :=
  eSeq (ca := subC (bodyC PP 13) [1,1,1,1,1,1,0,0]) (by kernel_rfl) (eQ13_ttttttht K) (by kernel_rfl)
theorem eQ13_tttttt (K : KT) (a : TE) (H : AH) : bQ13 [1,1,1,1,1,1] (kQ13 K) a H = m_req_Gettttttth K (a 2) (a 4) (a 6) H :=
  eSeqK (by kernel_rfl) (eQ13_ttttttt K) (by kernel_rfl) (eQ13_tttttth K a H)
def m_req_Getttttt (K : KT) (x2 x4 x5 : AV) (H : AH) : Prop :=
  outP CC H (w_build PP 26 H [(0, x5)]) fun v1 H1 =>
  outP CC H1 (w_alloc 26 [(.int .i64 0), (.str []), (.str []), (.int .i64 0), (.int .i64 0), (.int .i64 0), (.int .i64 0), (.slice none 0 0 true), (.str []), (.int .i64 0), (.int .u32 0)] H1 none) fun v2 H2 =>
  outP CC H2 (w_store 11 H2 v2 v1) fun _v3 H3 =>
  m_req_Gettttttth K x2 x4 v2 H3
theorem eQ13_ttttt (K : KT) (a : TE) (H : AH) : bQ13 [1,1,1,1,1] (kQ13 K) a H = m_req_Getttttt K (a 2) (a 4) (a 5) H :=
  eSeq (ca := subC (bodyC PP 13) [1,1,1,1,1,0]) (by kernel_rfl) (eQ13_tttttt K) (by kernel_rfl)
def m_req_Gettttt (K : KT) (x2 x4 x5 : AV) (H : AH) : Prop :=
  outP CC H (w_nil H x4) fun v1 H1 =>
  outP CC H1 (w_fieldAddr 0 H1 v1) fun v2 H2 =>
  outP CC H2 (w_load none H2 v2) fun v3 H3 =>
  outP CC H3 (some (.enter 56 [v3])) fun v4 H4 =>
  outP CC H4 (w_int .neq H4 v4 (.int .i64 0)) fun v5 H5 =>
  condP v5
  (outP CC H5 (w_build PP 26 H5 []) fun v6 H6 =>
  outP CC H6 (some (.enter 41 [(.int .i64 1)])) fun v7 H7 =>
  outP CC H7 (w_store 11 H7 x2 v6) fun _v8 H8 =>
  endP (resR (partF (some (some 11))) H8 x2 (resT v7 (some []))) K H8)
  (outP CC H5 (w_int .lss H5 x5 (.int .i64 1)) fun v9 H9 =>
  guardP (boolIs false v9) H9 (outP CC H9 (some (.val x5 H9))) fun v10 H10 =>
  guardP (boolIs false v9) H10 (outP CC H10 (w_int .gtr H10 v10 (.int .i64 15))) fun v11 H11 =>
  outP CC H11 (w_pick H11 v9 (.bool true) v11) fun v12 H12 =>
  condP v12
  (outP CC H12 (w_build PP 26 H12 []) fun v13 H13 =>
  outP CC H13 (some (.enter 41 [(.int .i64 12)])) fun v14 H14 =>
  outP CC H14 (w_store 11 H14 x2 v13) fun _v15 H15 =>
  endP (resR (partF (some (some 11))) H15 x2 (resT v14 (some []))) K H15)
  (m_req_Getttttt K x2 x4 x5 H12))
theorem eQ13_tttt (K : KT) (a : TE) (H : AH) : bQ13 [1,1,1,1] (kQ13 K) a H = m_req_Gettttt K (a 2) (a 4) (a 5) H :=
  eSeq (ca := subC (bodyC PP 13) [1,1,1,1,0]) (by kernel_rfl) (eQ13_ttttt K) (by kernel_rfl)
def m_req_Getttt (K : KT) (x2 x4 : AV) (H : AH) : Prop :=
  outP CC H (w_nil H x4) fun v1 H1 =>
  outP CC H1 (w_fieldAddr 0 H1 v1) fun v2 H2 =>
  outP CC H2 (w_load none H2 v2) fun v3 H3 =>
  outP CC H3 (some (.enter 55 [v3])) fun v4 H4 =>
  m_req_Gettttt K x2 x4 v4 H4
theorem eQ13_ttt (K : KT) (a : TE) (H : AH) : bQ13 [1,1,1] (kQ13 K) a H = m_req_Getttt K (a 2) (a 4) H :=
  eSeq (ca := subC (bodyC PP 13) [1,1,1,0]) (by kernel_rfl) (eQ13_tttt K) (by kernel_rfl)
def m_req_Gettt (K : KT) (x0 x2 : AV) (H : AH) : Prop :=
  outP CC H (some (.enter 54 [x0])) fun v1 H1 =>
  outP CC H1 (w_build PP 100 H1 [(0, v1)]) fun v2 H2 =>
  outP CC H2 (w_box 100 H2 v2 none) fun v3 H3 =>
  m_req_Getttt K x2 v3 H3
theorem eQ13_tt (K : KT) (a : TE) (H : AH) : bQ13 [1,1] (kQ13 K) a H = m_req_Gettt K (a 0) (a 2) H :=
  eSeq (ca := subC (bodyC PP 13) [1,1,0]) (by kernel_rfl) (eQ13_ttt K) (by kernel_rfl)
def m_req_Gett (K : KT) (x0 x2 : AV) (H : AH) : Prop :=
  outP CC H (w_len PP 27 H x0) fun v1 H1 =>
  outP CC H1 (w_int .gtr H1 v1 (.int .i64 400)) fun v2 H2 =>
  condP v2
  (outP CC H2 (w_build PP 26 H2 []) fun v3 H3 =>
  outP CC H3 (some (.enter 41 [(.int .i64 11)])) fun v4 H4 =>
  outP CC H4 (w_store 11 H4 x2 v3) fun _v5 H5 =>
  endP (resR (partF (some (some 11))) H5 x2 (resT v4 (some []))) K H5)
  (m_req_Gettt K x0 x2 H2)
theorem eQ13_t (K : KT) (a : TE) (H : AH) : bQ13 [1] (kQ13 K) a H = m_req_Gett K (a 0) (a 2) H :=
  eSeq (ca := subC (bodyC PP 13) [1,0]) (by kernel_rfl) (eQ13_tt K) (by kernel_rfl)
def m_req_Get (K : KT) (x0 : AV) (H : AH) : Prop :=
  outP CC H (w_alloc 26 [(.int .i64 0), (.str []), (.str []), (.int .i64 0), (.int .i64 0), (.int .i64 0), (.int .i64 0), (.slice none 0 0 true), (.str []), (.int .i64 0), (.int .u32 0)] H none) fun v1 H1 =>
  m_req_Gett K x0 v1 H1
theorem eQ13_ (K : KT) (a : TE) (H : AH) : bQ13 [] (kQ13 K) a H = m_req_Get K (a 0) H :=
  eSeq (ca := subC (bodyC PP 13) [0]) (by kernel_rfl) (eQ13_t K) (by kernel_rfl)
theorem m_req_Get_ok (x0 : AV) (H : AH) (K : KT) (h : m_req_Get K x0 H) : CC.call 13 [x0] H K :=
  have h1 : funP PP CC 13 [x0] H K = bQ13 [] (kQ13 K) (argE [x0]) H := by kernel_rfl
  have h2 : m_req_Get K (argE [x0] 0) H = m_req_Get K x0 H := by kernel_rfl
  funP_ok (P := PP) (by kernel_rfl) (by kernel_rfl) ((h1.trans ((eQ13_ K (argE [x0]) H).trans h2)).mpr h)

/-! 9: fieldfare/fieldfareref18.MayOp -/
abbrev bQ9 (p : List Nat) (k : KP) : KE := codeP PP CC (subC (bodyC PP 9) p) k
abbrev kQ9 (K : KT) : KP := finP PP (resC PP 9) K
def m_fieldfareref18_MayOptttttttt (K : KT) (x1 x5 x6 : AV) (H : AH) : Prop :=
  guardP (boolIs false x6) H (outP CC H (w_fieldAddr 7 H x1)) fun v1 H1 =>
  guardP (boolIs false x6) H1 (outP CC H1 (w_load none H1 v1)) fun v2 H2 =>
  guardP (boolIs false x6) H2 (outP CC H2 (w_len PP 23 H2 v2)) fun v3 H3 =>
  guardP (boolIs false x6) H3 (outP CC H3 (w_int .eql H3 v3 (.int .i64 0))) fun v4 H4 =>
  outP CC H4 (w_pick H4 x6 (.bool true) v4) fun v5 H5 =>
  guardP (boolIs true v5) H5 (outP CC H5 (w_fieldAddr 1 H5 x5)) fun v6 H6 =>
  guardP (boolIs true v5) H6 (outP CC H6 (w_load none H6 v6)) fun v7 H7 =>
  guardP (boolIs true v5) H7 (outP CC H7 (w_str .eql H7 v7 (.str []))) fun v8 H8 =>
  outP CC H8 (w_pick H8 v5 v8 (.bool false)) fun v9 H9 =>
  guardP (boolIs true v9) H9 (outP CC H9 (w_fieldAddr 2 H9 x5)) fun v10 H10 =>
  guardP (boolIs true v9) H10 (outP CC H10 (w_load none H10 v10)) fun v11 H11 =>
  guardP (boolIs true v9) H11 (outP CC H11 (w_str .eql H11 v11 (.str []))) fun v12 H12 =>
  outP CC H12 (w_pick H12 v9 v12 (.bool false)) fun v13 H13 =>
  guardP (boolIs true v13) H13 (outP CC H13 (w_fieldAddr 8 H13 x5)) fun v14 H14 =>
  guardP (boolIs true v13) H14 (outP CC H14 (w_load none H14 v14)) fun v15 H15 =>
  guardP (boolIs true v13) H15 (outP CC H15 (w_str .eql H15 v15 (.str []))) fun v16 H16 =>
  outP CC H16 (w_pick H16 v13 v16 (.bool false)) fun v17 H17 =>
  guardP (boolIs true v17) H17 (outP CC H17 (w_fieldAddr 3 H17 x5)) fun v18 H18 =>
  guardP (boolIs true v17) H18 (outP CC H18 (w_load none H18 v18)) fun v19 H19 =>
  guardP (boolIs true v17) H19 (outP CC H19 (w_int .eql H19 v19 (.int .i64 0))) fun v20 H20 =>
  outP CC H20 (w_pick H20 v17 v20 (.bool false)) fun v21 H21 =>
  guardP (boolIs true v21) H21 (outP CC H21 (w_fieldAddr 4 H21 x5)) fun v22 H22 =>
  guardP (boolIs true v21) H22 (outP CC H22 (w_load none H22 v22)) fun v23 H23 =>
  guardP (boolIs true v21) H23 (outP CC H23 (w_int .eql H23 v23 (.int .i64 0))) fun v24 H24 =>
  outP CC H24 (w_pick H24 v21 v24 (.bool false)) fun v25 H25 =>
  guardP (boolIs true v25) H25 (outP CC H25 (w_fieldAddr 5 H25 x5)) fun v26 H26 =>
  guardP (boolIs true v25) H26 (outP CC H26 (w_load none H26 v26)) fun v27 H27 =>
  guardP (boolIs true v25) H27 (outP CC H27 (w_int .eql H27 v27 (.int .i64 0))) fun v28 H28 =>
  outP CC H28 (w_pick H28 v25 v28 (.bool false)) fun v29 H29 =>
  guardP (boolIs true v29) H29 (outP CC H29 (w_fieldAddr 6 H29 x5)) fun v30 H30 =>
  guardP (boolIs true v29) H30 (outP CC H30 (w_load none H30 v30)) fun v31 H31 =>
  guardP (boolIs true v29) H31 (outP CC H31 (w_int .eql H31 v31 (.int .i64 0))) fun v32 H32 =>
  outP CC H32 (w_pick H32 v29 v32 (.bool false)) fun v33 H33 =>
  guardP (boolIs true v33) H33 (outP CC H33 (w_fieldAddr 9 H33 x5)) fun v34 H34 =>
  guardP (boolIs true v33) H34 (outP CC H34 (w_load none H34 v34)) fun v35 H35 =>
  guardP (boolIs true v33) H35 (outP CC H35 (w_int .eql H35 v35 (.int .i64 0))) fun v36 H36 =>
  outP CC H36 (w_pick H36 v33 v36 (.bool false)) fun v37 H37 =>
  guardP (boolIs true v37) H37 (outP CC H37 (w_fieldAddr 10 H37 x5)) fun v38 H38 =>
  guardP (boolIs true v37) H38 (outP CC H38 (w_load none H38 v38)) fun v39 H39 =>
  guardP (boolIs true v37) H39 (outP CC H39 (w_int .eql H39 v39 (.int .u32 0))) fun v40 H40 =>
  outP CC H40 (w_pick H40 v37 v40 (.bool false)) fun v41 H41 =>
  K v41 H41
theorem eQ9_tttttttt (K : KT) (a : TE) (H : AH) : bQ9 [1,1,1,1,1,1,1,1] (kQ9 K) a H = m_fieldfareref18_MayOptttttttt K (a 1) (a 5) (a 6) H :=
  by kernel_rfl
abbrev kQ9_ttttttt (K : KT) : KP := exP (fun (a : TE) (H : AH) => m_fieldfareref18_MayOptttttttt K (a 1) (a 5) (a 6) H) (kQ9 K)
abbrev kQ9_tttttttht (K : KT) : KP := blockP 2 (kQ9_ttttttt K)
def m_fieldfareref18_MayOpttttttthtbty (K : KT) (x1 x5 x6 : AV) (H : AH) : Prop :=
  outP CC H (w_fieldAddr 4 H x5) fun v1 H1 =>
  outP CC H1 (w_store 1 H1 v1 (.int .i64 0)) fun _v2 H2 =>
  outP CC H2 (w_fieldAddr 5 H2 x5) fun v3 H3 =>
  outP CC H3 (w_store 1 H3 v3 (.int .i64 0)) fun _v4 H4 =>
  outP CC H4 (w_fieldAddr 6 H4 x5) fun v5 H5 =>
  outP CC H5 (w_store 1 H5 v5 (.int .i64 0)) fun _v6 H6 =>
  m_fieldfareref18_MayOptttttttt K x1 x5 x6 H6
theorem eQ9_ttttttthtbty (K : KT) (a : TE) (H : AH) : bQ9 [1,1,1,1,1,1,1,0,1,0,1,0] (kQ9_tttttttht K) a H = m_fieldfareref18_MayOpttttttthtbty K (a 1) (a 5) (a 6) H :=
  by kernel_rfl
def m_fieldfareref18_MayOpttttttthtbtnty (K : KT) (x1 x5 : AV) (H : AH) : Prop :=
  outP CC H (w_fieldAddr 3 H x5) fun v1 H1 =>
  outP CC H1 (w_store 1 H1 v1 (.int .i64 0)) fun _v2 H2 =>
  outP CC H2 (w_fieldAddr 8 H2 x5) fun v3 H3 =>
  outP CC H3 (w_store 1 H3 v3 (.str [])) fun _v4 H4 =>
  outP CC H4 (w_fieldAddr 10 H4 x5) fun v5 H5 =>
  outP CC H5 (w_store 1 H5 v5 (.int .u32 0)) fun _v6 H6 =>
  m_fieldfareref18_MayOptttttttt K x1 x5 (.bool true) H6
theorem eQ9_ttttttthtbtnty (K : KT) (a : TE) (H : AH) : bQ9 [1,1,1,1,1,1,1,0,1,0,1,1,1,0] (kQ9_tttttttht K) a H = m_fieldfareref18_MayOpttttttthtbtnty K (a 1) (a 5) H :=
  by kernel_rfl
def m_fieldfareref18_MayOpttttttthtbtntnt (K : KT) (x1 x5 x6 x85 x96 : AV) (H : AH) : Prop :=
  condP x96
  (outP CC H (w_fieldAddr 3 H x5) fun v1 H1 =>
  outP CC H1 (w_store 1 H1 v1 (.int .i64 0)) fun _v2 H2 =>
  m_fieldfareref18_MayOptttttttt K x1 x5 x6 H2)
  (outP CC H (w_int .eql H x85 (.int .i64 5)) fun v3 H3 =>
  condP v3
  (outP CC H3 (w_fieldAddr 2 H3 x5) fun v4 H4 =>
  outP CC H4 (w_store 1 H4 v4 (.str [])) fun _v5 H5 =>
  m_fieldfareref18_MayOptttttttt K x1 x5 x6 H5)
  (outP CC H3 (w_int .eql H3 x85 (.int .i64 6)) fun v6 H6 =>
  condP v6
  (outP CC H6 (w_fieldAddr 6 H6 x5) fun v7 H7 =>
  outP CC H7 (w_store 1 H7 v7 (.int .i64 0)) fun _v8 H8 =>
  m_fieldfareref18_MayOptttttttt K x1 x5 x6 H8)
  (outP CC H6 (w_int .eql H6 x85 (.int .i64 10)) fun v9 H9 =>
  condP v9
  (outP CC H9 (w_fieldAddr 10 H9 x5) fun v10 H10 =>
  outP CC H10 (w_store 1 H10 v10 (.int .u32 0)) fun _v11 H11 =>
  m_fieldfareref18_MayOptttttttt K x1 x5 x6 H11)
  (outP CC H9 (w_int .eql H9 x85 (.int .i64 13)) fun v12 H12 =>
  condP v12
  (outP CC H12 (w_fieldAddr 9 H12 x5) fun v13 H13 =>
  outP CC H13 (w_store 1 H13 v13 (.int .i64 0)) fun _v14 H14 =>
  m_fieldfareref18_MayOptttttttt K x1 x5 (.bool true) H14)
  (m_fieldfareref18_MayOptttttttt K x1 x5 x6 H12)))))
theorem eQ9_ttttttthtbtntnt (K : KT) (a : TE) (H : AH) : bQ9 [1,1,1,1,1,1,1,0,1,0,1,1,1,1,1] (kQ9_tttttttht K) a H = m_fieldfareref18_MayOpttttttthtbtntnt K (a 1) (a 5) (a 6) (a 85) (a 96) H :=
  by kernel_rfl
def m_fieldfareref18_MayOpttttttthtbtntn (K : KT) (x1 x5 x6 x85 : AV) (H : AH) : Prop :=
  outP CC H (w_int .eql H x85 (.int .i64 4)) fun v1 H1 =>
  condP v1
  (m_fieldfareref18_MayOpttttttthtbtntnt K x1 x5 x6 x85 v1 H1)
  (outP CC H1 (w_int .eql H1 x85 (.int .i64 12)) fun v2 H2 =>
  m_fieldfareref18_MayOpttttttthtbtntnt K x1 x5 x6 x85 v2 H2)
theorem eQ9_ttttttthtbtntn (K : KT) (a : TE) (H : AH) : bQ9 [1,1,1,1,1,1,1,0,1,0,1,1,1,1] (kQ9_tttttttht K) a H = m_fieldfareref18_MayOpttttttthtbtntn K (a 1) (a 5) (a 6) (a 85) H :=
  eSeq (ca := subC (bodyC PP 9) [1,1,1,1,1,1,1,0,1,0,1,1,1,1,0]) (by kernel_rfl) (eQ9_ttttttthtbtntnt K) (by kernel_rfl)
def m_fieldfareref18_MayOpttttttthtbtnt (K : KT) (x1 x5 x6 x85 x91 : AV) (H : AH) : Prop :=
  condP x91 (m_fieldfareref18_MayOpttttttthtbtnty K x1 x5 H) (m_fieldfareref18_MayOpttttttthtbtntn K x1 x5 x6 x85 H)
theorem eQ9_ttttttthtbtnt (K : KT) (a : TE) (H : AH) : bQ9 [1,1,1,1,1,1,1,0,1,0,1,1,1] (kQ9_tttttttht K) a H = m_fieldfareref18_MayOpttttttthtbtnt K (a 1) (a 5) (a 6) (a 85) (a 91) H :=
  eCond (o := .tmp 91) (by kernel_rfl) (eQ9_ttttttthtbtnty K a H) (eQ9_ttttttthtbtntn K a H)
def m_fieldfareref18_MayOpttttttthtbtn (K : KT) (x1 x5 x6 x85 : AV) (H : AH) : Prop :=
  outP CC H (w_int .eql H x85 (.int .i64 3)) fun v1 H1 =>
  m_fieldfareref18_MayOpttttttthtbtnt K x1 x5 x6 x85 v1 H1
theorem eQ9_ttttttthtbtn (K : KT) (a : TE) (H : AH) : bQ9 [1,1,1,1,1,1,1,0,1,0,1,1] (kQ9_tttttttht K) a H = m_fieldfareref18_MayOpttttttthtbtn K (a 1) (a 5) (a 6) (a 85) H :=
  eSeq (ca := subC (bodyC PP 9) [1,1,1,1,1,1,1,0,1,0,1,1,0]) (by kernel_rfl) (eQ9_ttttttthtbtnt K) (by kernel_rfl)
def m_fieldfareref18_MayOpttttttthtbt (K : KT) (x1 x5 x6 x85 x86 : AV) (H : AH) : Prop :=
  condP x86 (m_fieldfareref18_MayOpttttttthtbty K x1 x5 x6 H) (m_fieldfareref18_MayOpttttttthtbtn K x1 x5 x6 x85 H)
theorem eQ9_ttttttthtbt (K : KT) (a : TE) (H : AH) : bQ9 [1,1,1,1,1,1,1,0,1,0,1] (kQ9_tttttttht K) a H = m_fieldfareref18_MayOpttttttthtbt K (a 1) (a 5) (a 6) (a 85) (a 86) H :=
  eCond (o := .tmp 86) (by kernel_rfl) (eQ9_ttttttthtbty K a H) (eQ9_ttttttthtbtn K a H)
def m_fieldfareref18_MayOpttttttthtb (K : KT) (x1 x5 x6 x85 : AV) (H : AH) : Prop :=
  outP CC H (w_int .eql H x85 (.int .i64 1)) fun v1 H1 =>
  m_fieldfareref18_MayOpttttttthtbt K x1 x5 x6 x85 v1 H1
theorem eQ9_ttttttthtb (K : KT) (a : TE) (H : AH) : bQ9 [1,1,1,1,1,1,1,0,1,0] (kQ9_tttttttht K) a H = m_fieldfareref18_MayOpttttttthtb K (a 1) (a 5) (a 6) (a 85) H :=
  eSeq (ca := subC (bodyC PP 9) [1,1,1,1,1,1,1,0,1,0,0]) (by kernel_rfl) (eQ9_ttttttthtbt K) (by kernel_rfl)
theorem eQ9_tttttttht (K : KT) (a : TE) (H : AH) : bQ9 [1,1,1,1,1,1,1,0,1] (kQ9_ttttttt K) a H = m_fieldfareref18_MayOpttttttthtb K (a 1) (a 5) (a 6) (a 85) H :=
  eBlockK 2 (by kernel_rfl) (by kernel_rfl) (eQ9_ttttttthtb K a H)
def m_fieldfareref18_MayOpttttttth (K : KT) (x1 x5 x6 : AV) (H : AH) : Prop :=
  outP CC H (w_fieldAddr 0 H x1) fun v1 H1 =>
  outP CC H1 (w_load none H1 v1) fun v2 H2 =>
  m_fieldfareref18_MayOpttttttthtb K x1 x5 x6 v2 H2
theorem eQ9_ttttttth (K : KT) (a : TE) (H : AH) : bQ9 [1,1,1,1,1,1,1,0] (kQ9_ttttttt K) a H = m_fieldfareref18_MayOpttttttth K (a 1) (a 5) (a 6) H :=
  eSeq (ca := subC (bodyC PP 9) [1,1,1,1,1,1,1,0,0]) (by kernel_rfl) (eQ9_tttttttht K) (by kernel_rfl)
theorem eQ9_ttttttt (K : KT) (a : TE) (H : AH) : bQ9 [1,1,1,1,1,1,1] (kQ9 K) a H = m_fieldfareref18_MayOpttttttth K (a 1) (a 5) (a 6) H :=
  eSeqK (by kernel_rfl) (eQ9_tttttttt K) (by kernel_rfl) (eQ9_ttttttth K a H)
def m_fieldfareref18_MayOptttttt (K : KT) (x1 x5 x6 : AV) (H : AH) : Prop :=
  outP CC H (w_fieldAddr 0 H x1) fun v1 H1 =>
  outP CC H1 (w_load none H1 v1) fun v2 H2 =>
  outP CC H2 (w_int .leq H2 v2 (.int .i64 6)) fun v3 H3 =>
  guardP (boolIs false v3) H3 (outP CC H3 (w_fieldAddr 0 H3 x1)) fun v4 H4 =>
  guardP (boolIs false v3) H4 (outP CC H4 (w_load none H4 v4)) fun v5 H5 =>
  guardP (boolIs false v3) H5 (outP CC H5 (w_int .eql H5 v5 (.int .i64 12))) fun v6 H6 =>
  outP CC H6 (w_pick H6 v3 (.bool true) v6) fun v7 H7 =>
  guardP (boolIs false v7) H7 (outP CC H7 (w_fieldAddr 0 H7 x1)) fun v8 H8 =>
  guardP (boolIs false v7) H8 (outP CC H8 (w_load none H8 v8)) fun v9 H9 =>
  guardP (boolIs false v7) H9 (outP CC H9 (w_int .eql H9 v9 (.int .i64 13))) fun v10 H10 =>
  outP CC H10 (w_pick H10 v7 (.bool true) v10) fun v11 H11 =>
  guardP (boolIs false v11) H11 (outP CC H11 (w_fieldAddr 0 H11 x1)) fun v12 H12 =>
  guardP (boolIs false v11) H12 (outP CC H12 (w_load none H12 v12)) fun v13 H13 =>
  guardP (boolIs false v11) H13 (outP CC H13 (w_int .eql H13 v13 (.int .i64 15))) fun v14 H14 =>
  outP CC H14 (w_pick H14 v11 (.bool true) v14) fun v15 H15 =>
  condP v15
  (outP CC H15 (w_fieldAddr 1 H15 x5) fun v16 H16 =>
  outP CC H16 (w_store 1 H16 v16 (.str [])) fun _v17 H17 =>
  m_fieldfareref18_MayOpttttttth K x1 x5 x6 H17)
  (m_fieldfareref18_MayOpttttttth K x1 x5 x6 H15)
theorem eQ9_tttttt (K : KT) (a : TE) (H : AH) : bQ9 [1,1,1,1,1,1] (kQ9 K) a H = m_fieldfareref18_MayOptttttt K (a 1) (a 5) (a 6) H :=
  eSeq (ca := subC (bodyC PP 9) [1,1,1,1,1,1,0]) (by kernel_rfl) (eQ9_ttttttt K) (by kernel_rfl)
def m_fieldfareref18_MayOpttttt (K : KT) (x1 x5 : AV) (H : AH) : Prop :=
  m_fieldfareref18_MayOptttttt K x1 x5 (.bool false) H
theorem eQ9_ttttt (K : KT) (a : TE) (H : AH) : bQ9 [1,1,1,1,1] (kQ9 K) a H = m_fieldfareref18_MayOpttttt K (a 1) (a 5) H :=
  eSeq (ca := subC (bodyC PP 9) [1,1,1,1,1,0]) (by kernel_rfl) (eQ9_tttttt K) (by kernel_rfl)
def m_fieldfareref18_MayOptttt (K : KT) (x1 x5 : AV) (H : AH) : Prop :=
  outP CC H (w_fieldAddr 0 H x5) fun v1 H1 =>
  outP CC H1 (w_store 1 H1 v1 (.int .i64 0)) fun _v2 H2 =>
  outP CC H2 (w_fieldAddr 7 H2 x5) fun v3 H3 =>
  outP CC H3 (w_store 1 H3 v3 (.slice none 0 0 true)) fun _v4 H4 =>
  m_fieldfareref18_MayOpttttt K x1 x5 H4
theorem eQ9_tttt (K : KT) (a : TE) (H : AH) : bQ9 [1,1,1,1] (kQ9 K) a H = m_fieldfareref18_MayOptttt K (a 1) (a 5) H :=
  eSeq (ca := subC (bodyC PP 9) [1,1,1,1,0]) (by kernel_rfl) (eQ9_ttttt K) (by kernel_rfl)
def m_fieldfareref18_MayOpttt (K : KT) (x1 : AV) (H : AH) : Prop :=
  outP CC H (w_load (some 11) H x1) fun v1 H1 =>
  outP CC H1 (w_alloc 26 [(.int .i64 0), (.str []), (.str []), (.int .i64 0), (.int .i64 0), (.int .i64 0), (.int .i64 0), (.slice none 0 0 true), (.str []), (.int .i64 0), (.int .u32 0)] H1 none) fun v2 H2 =>
  outP CC H2 (w_store 11 H2 v2 v1) fun _v3 H3 =>
  m_fieldfareref18_MayOptttt K x1 v2 H3
theorem eQ9_ttt (K : KT) (a : TE) (H : AH) : bQ9 [1,1,1] (kQ9 K) a H = m_fieldfareref18_MayOpttt K (a 1) H :=
  eSeq (ca := subC (bodyC PP 9) [1,1,1,0]) (by kernel_rfl) (eQ9_tttt K) (by kernel_rfl)
abbrev kQ9_tt (K : KT) : KP := exP (fun (a : TE) (H : AH) => m_fieldfareref18_MayOpttt K (a 1) H) (kQ9 K)
abbrev kQ9_ttht (K : KT) : KP := blockP 0 (kQ9_tt K)
abbrev kQ9_tthtb (K : KT) (r0 : (AV × AV × AV × AV) → AH → Prop) : KP := exP (fun (a : TE) (H : AH) => r0 (a 1, a 49, a 50, a 51) H) (kQ9_ttht K)
def m_fieldfareref18_MayOptthtbl (K : KT) (r0 : (AV × AV × AV × AV) → AH → Prop) (x1 x49 x50 x51 : AV) (H : AH) : Prop :=
  outP CC H (w_int .lss H x51 x50) fun v1 H1 =>
  condP v1
  (outP CC H1 (w_indexAddr (.sl 1) H1 x49 x51) fun v2 H2 =>
  outP CC H2 (w_load none H2 v2) fun v3 H3 =>
  outP CC H3 (w_int .lss H3 v3 (.int .i64 0)) fun v4 H4 =>
  guardP (boolIs false v4) H4 (outP CC H4 (some (.val v3 H4))) fun v5 H5 =>
  guardP (boolIs false v4) H5 (outP CC H5 (w_int .gtr H5 v5 (.int .i64 1000000))) fun v6 H6 =>
  outP CC H6 (w_pick H6 v4 (.bool true) v6) fun v7 H7 =>
  condP v7
  (K (.bool false) H7)
  (outP CC H7 (w_int .add H7 x51 (.int .i64 1)) fun v8 H8 =>
  r0 (x1, x49, x50, v8) H8))
  (m_fieldfareref18_MayOpttt K x1 H1)
theorem eQ9_tthtbl (K : KT) (r0 : (AV × AV × AV × AV) → AH → Prop) (a : TE) (H : AH) : bQ9 [1,1,0,1,0,0] (kQ9_tthtb K r0) a H = m_fieldfareref18_MayOptthtbl K r0 (a 1) (a 49) (a 50) (a 51) H :=
  by kernel_rfl
def m_fieldfareref18_MayOptthtb (K : KT) (x1 x49 x50 x51 : AV) (H : AH) : Prop :=
  loopP (fun (r0 : (AV × AV × AV × AV) → AH → Prop) (s : (AV × AV × AV × AV)) (H : AH) => m_fieldfareref18_MayOptthtbl K r0 s.1 s.2.1 s.2.2.1 s.2.2.2 H) (x1, x49, x50, x51) H
theorem eQ9_tthtb (K : KT) (a : TE) (H : AH) : bQ9 [1,1,0,1,0] (kQ9_ttht K) a H = m_fieldfareref18_MayOptthtb K (a 1) (a 49) (a 50) (a 51) H :=
  eLoopK (S := (AV × AV × AV × AV)) (fun a => (a 1, a 49, a 50, a 51)) (fun r0 s H => m_fieldfareref18_MayOptthtbl K r0 s.1 s.2.1 s.2.2.1 s.2.2.2 H) (by kernel_rfl) (fun r => by kernel_rfl) (eQ9_tthtbl K)
theorem eQ9_ttht (K : KT) (a : TE) (H : AH) : bQ9 [1,1,0,1] (kQ9_tt K) a H = m_fieldfareref18_MayOptthtb K (a 1) (a 49) (a 50) (a 51) H :=
  eBlockK 0 (by kernel_rfl) (by kernel_rfl) (eQ9_tthtb K a H)
def m_fieldfareref18_MayOptth (K : KT) (x1 : AV) (H : AH) : Prop :=
  outP CC H (w_fieldAddr 3 H x1) fun v1 H1 =>
  outP CC H1 (w_load none H1 v1) fun v2 H2 =>
  outP CC H2 (w_fieldAddr 4 H2 x1) fun v3 H3 =>
  outP CC H3 (w_load none H3 v3) fun v4 H4 =>
  outP CC H4 (w_fieldAddr 5 H4 x1) fun v5 H5 =>
  outP CC H5 (w_load none H5 v5) fun v6 H6 =>
  outP CC H6 (w_fieldAddr 6 H6 x1) fun v7 H7 =>
  outP CC H7 (w_load none H7 v7) fun v8 H8 =>
  outP CC H8 (w_fieldAddr 9 H8 x1) fun v9 H9 =>
  outP CC H9 (w_load none H9 v9) fun v10 H10 =>
  outP CC H10 (w_buildSlice PP 3 5 H10 [(0, v2), (1, v4), (2, v6), (3, v8), (4, v10)] none) fun v11 H11 =>
  outP CC H11 (w_len PP 69 H11 v11) fun v12 H12 =>
  m_fieldfareref18_MayOptthtb K x1 v11 v12 (.int .i64 0) H12
theorem eQ9_tth (K : KT) (a : TE) (H : AH) : bQ9 [1,1,0] (kQ9_tt K) a H = m_fieldfareref18_MayOptth K (a 1) H :=
  eSeq (ca := subC (bodyC PP 9) [1,1,0,0]) (by kernel_rfl) (eQ9_ttht K) (by kernel_rfl)
theorem eQ9_tt (K : KT) (a : TE) (H : AH) : bQ9 [1,1] (kQ9 K) a H = m_fieldfareref18_MayOptth K (a 1) H :=
  eSeqK (by kernel_rfl) (eQ9_ttt K) (by kernel_rfl) (eQ9_tth K a H)
def m_fieldfareref18_MayOpt (K : KT) (x1 : AV) (H : AH) : Prop :=
  outP CC H (w_fieldAddr 0 H x1) fun v1 H1 =>
  outP CC H1 (w_load none H1 v1) fun v2 H2 =>
  outP CC H2 (w_int .lss H2 v2 (.int .i64 1)) fun v3 H3 =>
  guardP (boolIs false v3) H3 (outP CC H3 (w_fieldAddr 0 H3 x1)) fun v4 H4 =>
  guardP (boolIs false v3) H4 (outP CC H4 (w_load none H4 v4)) fun v5 H5 =>
  guardP (boolIs false v3) H5 (outP CC H5 (w_int .gtr H5 v5 (.int .i64 15))) fun v6 H6 =>
  outP CC H6 (w_pick H6 v3 (.bool true) v6) fun v7 H7 =>
  guardP (boolIs false v7) H7 (outP CC H7 (w_fieldAddr 1 H7 x1)) fun v8 H8 =>
  guardP (boolIs false v7) H8 (outP CC H8 (w_load none H8 v8)) fun v9 H9 =>
  guardP (boolIs false v7) H9 (outP CC H9 (w_len PP 9 H9 v9)) fun v10 H10 =>
  guardP (boolIs false v7) H10 (outP CC H10 (w_int .gtr H10 v10 (.int .i64 12))) fun v11 H11 =>
  outP CC H11 (w_pick H11 v7 (.bool true) v11) fun v12 H12 =>
  guardP (boolIs false v12) H12 (outP CC H12 (w_fieldAddr 2 H12 x1)) fun v13 H13 =>
  guardP (boolIs false v12) H13 (outP CC H13 (w_load none H13 v13)) fun v14 H14 =>
  guardP (boolIs false v12) H14 (outP CC H14 (w_len PP 9 H14 v14)) fun v15 H15 =>
  guardP (boolIs false v12) H15 (outP CC H15 (w_int .gtr H15 v15 (.int .i64 12))) fun v16 H16 =>
  outP CC H16 (w_pick H16 v12 (.bool true) v16) fun v17 H17 =>
  guardP (boolIs false v17) H17 (outP CC H17 (w_fieldAddr 7 H17 x1)) fun v18 H18 =>
  guardP (boolIs false v17) H18 (outP CC H18 (w_load none H18 v18)) fun v19 H19 =>
  guardP (boolIs false v17) H19 (outP CC H19 (w_len PP 23 H19 v19)) fun v20 H20 =>
  guardP (boolIs false v17) H20 (outP CC H20 (w_int .gtr H20 v20 (.int .i64 8))) fun v21 H21 =>
  outP CC H21 (w_pick H21 v17 (.bool true) v21) fun v22 H22 =>
  guardP (boolIs false v22) H22 (outP CC H22 (w_fieldAddr 8 H22 x1)) fun v23 H23 =>
  guardP (boolIs false v22) H23 (outP CC H23 (w_load none H23 v23)) fun v24 H24 =>
  guardP (boolIs false v22) H24 (outP CC H24 (w_len PP 9 H24 v24)) fun v25 H25 =>
  guardP (boolIs false v22) H25 (outP CC H25 (w_int .gtr H25 v25 (.int .i64 40))) fun v26 H26 =>
  outP CC H26 (w_pick H26 v22 (.bool true) v26) fun v27 H27 =>
  condP v27
  (K (.bool false) H27)
  (m_fieldfareref18_MayOptth K x1 H27)
theorem eQ9_t (K : KT) (a : TE) (H : AH) : bQ9 [1] (kQ9 K) a H = m_fieldfareref18_MayOpt K (a 1) H :=
  eSeq (ca := subC (bodyC PP 9) [1,0]) (by kernel_rfl) (eQ9_tt K) (by kernel_rfl)
def m_fieldfareref18_MayOp (K : KT) (x0 : AV) (H : AH) : Prop :=
  outP CC H (w_box 26 H x0 none) fun v1 H1 =>
  m_fieldfareref18_MayOpt K v1 H1
theorem eQ9_ (K : KT) (a : TE) (H : AH) : bQ9 [] (kQ9 K) a H = m_fieldfareref18_MayOp K (a 0) H :=
  eSeq (ca := subC (bodyC PP 9) [0]) (by kernel_rfl) (eQ9_t K) (by kernel_rfl)
theorem m_fieldfareref18_MayOp_ok (x0 : AV) (H : AH) (K : KT) (h : m_fieldfareref18_MayOp K x0 H) : CC.call 9 [x0] H K :=
  have h1 : funP PP CC 9 [x0] H K = bQ9 [] (kQ9 K) (argE [x0]) H := by kernel_rfl
  have h2 : m_fieldfareref18_MayOp K (argE [x0] 0) H = m_fieldfareref18_MayOp K x0 H := by kernel_rfl
  funP_ok (P := PP) (by kernel_rfl) (by kernel_rfl) ((h1.trans ((eQ9_ K (argE [x0]) H).trans h2)).mpr h)

/-! 14: fieldfare/fieldfarelaw23.sameOp -/
abbrev bQ14 (p : List Nat) (k : KP) : KE := codeP PP CC (subC (bodyC PP 14) p) k
abbrev kQ14 (K : KT) : KP := finP PP (resC PP 14) K
def m_fieldfarelaw23_sameOp (K : KT) (x0 x1 : AV) (H : AH) : Prop :=
  outP CC H (w_box 26 H x0 none) fun v1 H1 =>
  outP CC H1 (w_box 26 H1 x1 none) fun v2 H2 =>
  outP CC H2 (w_fieldAddr 7 H2 v1) fun v3 H3 =>
  outP CC H3 (w_load none H3 v3) fun v4 H4 =>
  outP CC H4 (w_fieldAddr 7 H4 v2) fun v5 H5 =>
  outP CC H5 (w_load none H5 v5) fun v6 H6 =>
  outP CC H6 (some (.enter 61 [v4, v6])) fun v7 H7 =>
  outP CC H7 (w_un .not H7 v7) fun v8 H8 =>
  condP v8
  (K (.bool false) H8)
  (outP CC H8 (w_fieldAddr 0 H8 v1) fun v9 H9 =>
  outP CC H9 (w_load none H9 v9) fun v10 H10 =>
  outP CC H10 (w_fieldAddr 0 H10 v2) fun v11 H11 =>
  outP CC H11 (w_load none H11 v11) fun v12 H12 =>
  outP CC H12 (w_int .eql H12 v10 v12) fun v13 H13 =>
  guardP (boolIs true v13) H13 (outP CC H13 (w_fieldAddr 1 H13 v1)) fun v14 H14 =>
  guardP (boolIs true v13) H14 (outP CC H14 (w_load none H14 v14)) fun v15 H15 =>
  guardP (boolIs true v13) H15 (outP CC H15 (w_fieldAddr 1 H15 v2)) fun v16 H16 =>
  guardP (boolIs true v13) H16 (outP CC H16 (w_load none H16 v16)) fun v17 H17 =>
  guardP (boolIs true v13) H17 (outP CC H17 (w_str .eql H17 v15 v17)) fun v18 H18 =>
  outP CC H18 (w_pick H18 v13 v18 (.bool false)) fun v19 H19 =>
  guardP (boolIs true v19) H19 (outP CC H19 (w_fieldAddr 2 H19 v1)) fun v20 H20 =>
  guardP (boolIs true v19) H20 (outP CC H20 (w_load none H20 v20)) fun v21 H21 =>
  guardP (boolIs true v19) H21 (outP CC H21 (w_fieldAddr 2 H21 v2)) fun v22 H22 =>
  guardP (boolIs true v19) H22 (outP CC H22 (w_load none H22 v22)) fun v23 H23 =>
  guardP (boolIs true v19) H23 (outP CC H23 (w_str .eql H23 v21 v23)) fun v24 H24 =>
  outP CC H24 (w_pick H24 v19 v24 (.bool false)) fun v25 H25 =>
  guardP (boolIs true v25) H25 (outP CC H25 (w_fieldAddr 3 H25 v1)) fun v26 H26 =>
  guardP (boolIs true v25) H26 (outP CC H26 (w_load none H26 v26)) fun v27 H27 =>
  guardP (boolIs true v25) H27 (outP CC H27 (w_fieldAddr 3 H27 v2)) fun v28 H28 =>
  guardP (boolIs true v25) H28 (outP CC H28 (w_load none H28 v28)) fun v29 H29 =>
  guardP (boolIs true v25) H29 (outP CC H29 (w_int .eql H29 v27 v29)) fun v30 H30 =>
  outP CC H30 (w_pick H30 v25 v30 (.bool false)) fun v31 H31 =>
  guardP (boolIs true v31) H31 (outP CC H31 (w_fieldAddr 4 H31 v1)) fun v32 H32 =>
  guardP (boolIs true v31) H32 (outP CC H32 (w_load none H32 v32)) fun v33 H33 =>
  guardP (boolIs true v31) H33 (outP CC H33 (w_fieldAddr 4 H33 v2)) fun v34 H34 =>
  guardP (boolIs true v31) H34 (outP CC H34 (w_load none H34 v34)) fun v35 H35 =>
  guardP (boolIs true v31) H35 (outP CC H35 (w_int .eql H35 v33 v35)) fun v36 H36 =>
  outP CC H36 (w_pick H36 v31 v36 (.bool false)) fun v37 H37 =>
  guardP (boolIs true v37) H37 (outP CC H37 (w_fieldAddr 5 H37 v1)) fun v38 H38 =>
  guardP (boolIs true v37) H38 (outP CC H38 (w_load none H38 v38)) fun v39 H39 =>
  guardP (boolIs true v37) H39 (outP CC H39 (w_fieldAddr 5 H39 v2)) fun v40 H40 =>
  guardP (boolIs true v37) H40 (outP CC H40 (w_load none H40 v40)) fun v41 H41 =>
  guardP (boolIs true v37) H41 (outP CC H41 (w_int .eql H41 v39 v41)) fun v42 H42 =>
  outP CC H42 (w_pick H42 v37 v42 (.bool false)) fun v43 H43 =>
  guardP (boolIs true v43) H43 (outP CC H43 (w_fieldAddr 6 H43 v1)) fun v44 H44 =>
  guardP (boolIs true v43) H44 (outP CC H44 (w_load none H44 v44)) fun v45 H45 =>
  guardP (boolIs true v43) H45 (outP CC H45 (w_fieldAddr 6 H45 v2)) fun v46 H46 =>
  guardP (boolIs true v43) H46 (outP CC H46 (w_load none H46 v46)) fun v47 H47 =>
  guardP (boolIs true v43) H47 (outP CC H47 (w_int .eql H47 v45 v47)) fun v48 H48 =>
  outP CC H48 (w_pick H48 v43 v48 (.bool false)) fun v49 H49 =>
  guardP (boolIs true v49) H49 (outP CC H49 (w_fieldAddr 8 H49 v1)) fun v50 H50 =>
  guardP (boolIs true v49) H50 (outP CC H50 (w_load none H50 v50)) fun v51 H51 =>
  guardP (boolIs true v49) H51 (outP CC H51 (w_fieldAddr 8 H51 v2)) fun v52 H52 =>
  guardP (boolIs true v49) H52 (outP CC H52 (w_load none H52 v52)) fun v53 H53 =>
  guardP (boolIs true v49) H53 (outP CC H53 (w_str .eql H53 v51 v53)) fun v54 H54 =>
  outP CC H54 (w_pick H54 v49 v54 (.bool false)) fun v55 H55 =>
  guardP (boolIs true v55) H55 (outP CC H55 (w_fieldAddr 9 H55 v1)) fun v56 H56 =>
  guardP (boolIs true v55) H56 (outP CC H56 (w_load none H56 v56)) fun v57 H57 =>
  guardP (boolIs true v55) H57 (outP CC H57 (w_fieldAddr 9 H57 v2)) fun v58 H58 =>
  guardP (boolIs true v55) H58 (outP CC H58 (w_load none H58 v58)) fun v59 H59 =>
  guardP (boolIs true v55) H59 (outP CC H59 (w_int .eql H59 v57 v59)) fun v60 H60 =>
  outP CC H60 (w_pick H60 v55 v60 (.bool false)) fun v61 H61 =>
  guardP (boolIs true v61) H61 (outP CC H61 (w_fieldAddr 10 H61 v1)) fun v62 H62 =>
  guardP (boolIs true v61) H62 (outP CC H62 (w_load none H62 v62)) fun v63 H63 =>
  guardP (boolIs true v61) H63 (outP CC H63 (w_fieldAddr 10 H63 v2)) fun v64 H64 =>
  guardP (boolIs true v61) H64 (outP CC H64 (w_load none H64 v64)) fun v65 H65 =>
  guardP (boolIs true v61) H65 (outP CC H65 (w_int .eql H65 v63 v65)) fun v66 H66 =>
  outP CC H66 (w_pick H66 v61 v66 (.bool false)) fun v67 H67 =>
  K v67 H67)
theorem eQ14_ (K : KT) (a : TE) (H : AH) : bQ14 [] (kQ14 K) a H = m_fieldfarelaw23_sameOp K (a 0) (a 1) H :=
  by kernel_rfl
theorem m_fieldfarelaw23_sameOp_ok (x0 x1 : AV) (H : AH) (K : KT) (h : m_fieldfarelaw23_sameOp K x0 x1 H) : CC.call 14 [x0, x1] H K :=
  have h1 : funP PP CC 14 [x0, x1] H K = bQ14 [] (kQ14 K) (argE [x0, x1]) H := by kernel_rfl
  have h2 : m_fieldfarelaw23_sameOp K (argE [x0, x1] 0) (argE [x0, x1] 1) H = m_fieldfarelaw23_sameOp K x0 x1 H := by kernel_rfl
  funP_ok (P := PP) (by kernel_rfl) (by kernel_rfl) ((h1.trans ((eQ14_ K (argE [x0, x1]) H).trans h2)).mpr h)

/-! 12: fieldfare/fieldfareref18.PutOp -/
abbrev bQ12 (p : List Nat) (k : KP) : KE := codeP PP CC (subC (bodyC PP 12) p) k
abbrev kQ12 (K : KT) : KP := finP PP (resC PP 12) K
abbrev kQ12_tttt (K : KT) : KP := exP (bQ12 [1,1,1,1,1] (kQ12 K)) (kQ12 K)
abbrev kQ12_ttttht (K : KT) : KP := blockP 1 (kQ12_tttt K)
def m_fieldfareref18_PutOptttthtbty (K : KT) (x1 x3 : AV) (H : AH) : Prop :=
  outP CC H (w_fieldAddr 4 H x1) fun v1 H1 =>
  outP CC H1 (w_load none H1 v1) fun v2 H2 =>
  outP CC H2 (w_fieldAddr 5 H2 x1) fun v3 H3 =>
  outP CC H3 (w_load none H3 v3) fun v4 H4 =>
  outP CC H4 (w_fieldAddr 6 H4 x1) fun v5 H5 =>
  outP CC H5 (w_load none H5 v5) fun v6 H6 =>
  outP CC H6 (w_buildSlice PP 3 3 H6 [(0, v2), (1, v4), (2, v6)] none) fun v7 H7 =>
  outP CC H7 (some (.enter 51 [x3, v7])) fun v8 H8 =>
  K v8 H8
theorem eQ12_tttthtbty (K : KT) (a : TE) (H : AH) : bQ12 [1,1,1,1,0,1,0,1,0] (kQ12_ttttht K) a H = m_fieldfareref18_PutOptttthtbty K (a 1) (a 3) H :=
  by kernel_rfl
def m_fieldfareref18_PutOptttthtbtnty (K : KT) (x1 x3 : AV) (H : AH) : Prop :=
  outP CC H (w_fieldAddr 3 H x1) fun v1 H1 =>
  outP CC H1 (w_load none H1 v1) fun v2 H2 =>
  outP CC H2 (w_buildSlice PP 3 1 H2 [(0, v2)] none) fun v3 H3 =>
  outP CC H3 (some (.enter 51 [x3, v3])) fun v4 H4 =>
  outP CC H4 (w_fieldAddr 7 H4 x1) fun v5 H5 =>
  outP CC H5 (w_load none H5 v5) fun v6 H6 =>
  outP CC H6 (w_fieldAddr 8 H6 x1) fun v7 H7 =>
  outP CC H7 (w_load none H7 v7) fun v8 H8 =>
  outP CC H8 (some (.enter 53 [v6])) fun v9 H9 =>
  ckP (reC true (w_load none H9 v7) v8) <|
  outP CC H9 (w_append 5 1 1 H9 v4 v9 none) fun v10 H10 =>
  ckP (reC true (w_load none H10 v7) v8) <|
  outP CC H10 (some (.enter 52 [v8])) fun v11 H11 =>
  outP CC H11 (w_append 5 1 1 H11 v10 v11 none) fun v12 H12 =>
  outP CC H12 (w_fieldAddr 10 H12 x1) fun v13 H13 =>
  outP CC H13 (w_load none H13 v13) fun v14 H14 =>
  outP CC H14 (w_conv (.int .i64) H14 v14 none) fun v15 H15 =>
  outP CC H15 (w_buildSlice PP 3 1 H15 [(0, v15)] none) fun v16 H16 =>
  outP CC H16 (some (.enter 51 [v12, v16])) fun v17 H17 =>
  K v17 H17
theorem eQ12_tttthtbtnty (K : KT) (a : TE) (H : AH) : bQ12 [1,1,1,1,0,1,0,1,1,1,0] (kQ12_ttttht K) a H = m_fieldfareref18_PutOptttthtbtnty K (a 1) (a 3) H :=
  by kernel_rfl
def m_fieldfareref18_PutOptttthtbtntnt (K : KT) (x1 x3 x38 x72 : AV) (H : AH) : Prop :=
  condP x72
  (outP CC H (w_fieldAddr 3 H x1) fun v1 H1 =>
  outP CC H1 (w_load none H1 v1) fun v2 H2 =>
  outP CC H2 (w_buildSlice PP 3 1 H2 [(0, v2)] none) fun v3 H3 =>
  outP CC H3 (some (.enter 51 [x3, v3])) fun v4 H4 =>
  K v4 H4)
  (outP CC H (w_int .eql H x38 (.int .i64 6)) fun v5 H5 =>
  condP v5
  (outP CC H5 (w_fieldAddr 6 H5 x1) fun v6 H6 =>
  outP CC H6 (w_load none H6 v6) fun v7 H7 =>
  outP CC H7 (w_buildSlice PP 3 1 H7 [(0, v7)] none) fun v8 H8 =>
  outP CC H8 (some (.enter 51 [x3, v8])) fun v9 H9 =>
  K v9 H9)
  (outP CC H5 (w_int .eql H5 x38 (.int .i64 13)) fun v10 H10 =>
  condP v10
  (outP CC H10 (w_fieldAddr 7 H10 x1) fun v11 H11 =>
  outP CC H11 (w_load none H11 v11) fun v12 H12 =>
  outP CC H12 (some (.enter 53 [v12])) fun v13 H13 =>
  outP CC H13 (w_append 5 1 1 H13 x3 v13 none) fun v14 H14 =>
  outP CC H14 (w_fieldAddr 9 H14 x1) fun v15 H15 =>
  outP CC H15 (w_load none H15 v15) fun v16 H16 =>
  outP CC H16 (w_buildSlice PP 3 1 H16 [(0, v16)] none) fun v17 H17 =>
  outP CC H17 (some (.enter 51 [v14, v17])) fun v18 H18 =>
  K v18 H18)
  (K x3 H10)))
theorem eQ12_tttthtbtntnt (K : KT) (a : TE) (H : AH) : bQ12 [1,1,1,1,0,1,0,1,1,1,1,1] (kQ12_ttttht K) a H = m_fieldfareref18_PutOptttthtbtntnt K (a 1) (a 3) (a 38) (a 72) H :=
  by kernel_rfl
def m_fieldfareref18_PutOptttthtbtntn (K : KT) (x1 x3 x38 : AV) (H : AH) : Prop :=
  outP CC H (w_int .eql H x38 (.int .i64 4)) fun v1 H1 =>
  condP v1
  (m_fieldfareref18_PutOptttthtbtntnt K x1 x3 x38 v1 H1)
  (outP CC H1 (w_int .eql H1 x38 (.int .i64 12)) fun v2 H2 =>
  m_fieldfareref18_PutOptttthtbtntnt K x1 x3 x38 v2 H2)
theorem eQ12_tttthtbtntn (K : KT) (a : TE) (H : AH) : bQ12 [1,1,1,1,0,1,0,1,1,1,1] (kQ12_ttttht K) a H = m_fieldfareref18_PutOptttthtbtntn K (a 1) (a 3) (a 38) H :=
  eSeq (ca := subC (bodyC PP 12) [1,1,1,1,0,1,0,1,1,1,1,0]) (by kernel_rfl) (eQ12_tttthtbtntnt K) (by kernel_rfl)
def m_fieldfareref18_PutOptttthtbtnt (K : KT) (x1 x3 x38 x50 : AV) (H : AH) : Prop :=
  condP x50 (m_fieldfareref18_PutOptttthtbtnty K x1 x3 H) (m_fieldfareref18_PutOptttthtbtntn K x1 x3 x38 H)
theorem eQ12_tttthtbtnt (K : KT) (a : TE) (H : AH) : bQ12 [1,1,1,1,0,1,0,1,1,1] (kQ12_ttttht K) a H = m_fieldfareref18_PutOptttthtbtnt K (a 1) (a 3) (a 38) (a 50) H :=
  eCond (o := .tmp 50) (by kernel_rfl) (eQ12_tttthtbtnty K a H) (eQ12_tttthtbtntn K a H)
def m_fieldfareref18_PutOptttthtbtn (K : KT) (x1 x3 x38 : AV) (H : AH) : Prop :=
  outP CC H (w_int .eql H x38 (.int .i64 3)) fun v1 H1 =>
  m_fieldfareref18_PutOptttthtbtnt K x1 x3 x38 v1 H1
theorem eQ12_tttthtbtn (K : KT) (a : TE) (H : AH) : bQ12 [1,1,1,1,0,1,0,1,1] (kQ12_ttttht K) a H = m_fieldfareref18_PutOptttthtbtn K (a 1) (a 3) (a 38) H :=
  eSeq (ca := subC (bodyC PP 12) [1,1,1,1,0,1,0,1,1,0]) (by kernel_rfl) (eQ12_tttthtbtnt K) (by kernel_rfl)
def m_fieldfareref18_PutOptttthtbt (K : KT) (x1 x3 x38 x39 : AV) (H : AH) : Prop :=
  condP x39 (m_fieldfareref18_PutOptttthtbty K x1 x3 H) (m_fieldfareref18_PutOptttthtbtn K x1 x3 x38 H)
theorem eQ12_tttthtbt (K : KT) (a : TE) (H : AH) : bQ12 [1,1,1,1,0,1,0,1] (kQ12_ttttht K) a H = m_fieldfareref18_PutOptttthtbt K (a 1) (a 3) (a 38) (a 39) H :=
  eCond (o := .tmp 39) (by kernel_rfl) (eQ12_tttthtbty K a H) (eQ12_tttthtbtn K a H)
def m_fieldfareref18_PutOptttthtb (K : KT) (x1 x3 x38 : AV) (H : AH) : Prop :=
  outP CC H (w_int .eql H x38 (.int .i64 1)) fun v1 H1 =>
  m_fieldfareref18_PutOptttthtbt K x1 x3 x38 v1 H1
theorem eQ12_tttthtb (K : KT) (a : TE) (H : AH) : bQ12 [1,1,1,1,0,1,0] (kQ12_ttttht K) a H = m_fieldfareref18_PutOptttthtb K (a 1) (a 3) (a 38) H :=
  eSeq (ca := subC (bodyC PP 12) [1,1,1,1,0,1,0,0]) (by kernel_rfl) (eQ12_tttthtbt K) (by kernel_rfl)
theorem eQ12_ttttht (K : KT) (a : TE) (H : AH) : bQ12 [1,1,1,1,0,1] (kQ12_tttt K) a H = m_fieldfareref18_PutOptttthtb K (a 1) (a 3) (a 38) H :=
  eBlockK 1 (by kernel_rfl) (by kernel_rfl) (eQ12_tttthtb K a H)
def m_fieldfareref18_PutOptttth (K : KT) (x1 x3 : AV) (H : AH) : Prop :=
  outP CC H (w_fieldAddr 0 H x1) fun v1 H1 =>
  outP CC H1 (w_load none H1 v1) fun v2 H2 =>
  m_fieldfareref18_PutOptttthtb K x1 x3 v2 H2
theorem eQ12_tttth (K : KT) (a : TE) (H : AH) : bQ12 [1,1,1,1,0] (kQ12_tttt K) a H = m_fieldfareref18_PutOptttth K (a 1) (a 3) H :=
  eSeq (ca := subC (bodyC PP 12) [1,1,1,1,0,0]) (by kernel_rfl) (eQ12_ttttht K) (by kernel_rfl)
theorem eQ12_tttt (K : KT) (a : TE) (H : AH) : bQ12 [1,1,1,1] (kQ12 K) a H = m_fieldfareref18_PutOptttth K (a 1) (a 3) H :=
  eSeqJ (subC (bodyC PP 12) [1,1,1,1,1]) (by kernel_rfl) (by kernel_rfl) (eQ12_tttth K a H)
def m_fieldfareref18_PutOpttt (K : KT) (x1 x3 : AV) (H : AH) : Prop :=
  outP CC H (w_fieldAddr 1 H x1) fun v1 H1 =>
  outP CC H1 (w_load none H1 v1) fun v2 H2 =>
  outP CC H2 (some (.enter 52 [v2])) fun v3 H3 =>
  outP CC H3 (w_append 5 1 1 H3 x3 v3 none) fun v4 H4 =>
  m_fieldfareref18_PutOptttth K x1 v4 H4
theorem eQ12_ttt (K : KT) (a : TE) (H : AH) : bQ12 [1,1,1] (kQ12 K) a H = m_fieldfareref18_PutOpttt K (a 1) (a 3) H :=
  eSeq (ca := subC (bodyC PP 12) [1,1,1,0]) (by kernel_rfl) (eQ12_tttt K) (by kernel_rfl)
abbrev kQ12_tt (K : KT) : KP := exP (fun (a : TE) (H : AH) => m_fieldfareref18_PutOpttt K (a 1) (a 3) H) (kQ12 K)
abbrev kQ12_ttht (K : KT) : KP := blockP 0 (kQ12_tt K)
def m_fieldfareref18_PutOptthtbt (K : KT) (x1 x3 x8 x9 : AV) (H : AH) : Prop :=
  condP x9
  (K x3 H)
  (outP CC H (w_int .eql H x8 (.int .i64 10)) fun v1 H1 =>
  condP v1
  (outP CC H1 (w_fieldAddr 10 H1 x1) fun v2 H2 =>
  outP CC H2 (w_load none H2 v2) fun v3 H3 =>
  outP CC H3 (w_conv (.int .i64) H3 v3 none) fun v4 H4 =>
  outP CC H4 (w_buildSlice PP 3 1 H4 [(0, v4)] none) fun v5 H5 =>
  outP CC H5 (some (.enter 51 [x3, v5])) fun v6 H6 =>
  K v6 H6)
  (outP CC H1 (w_int .eql H1 x8 (.int .i64 5)) fun v7 H7 =>
  condP v7
  (outP CC H7 (w_fieldAddr 2 H7 x1) fun v8 H8 =>
  outP CC H8 (w_load none H8 v8) fun v9 H9 =>
  outP CC H9 (some (.enter 52 [v9])) fun v10 H10 =>
  outP CC H10 (w_append 5 1 1 H10 x3 v10 none) fun v11 H11 =>
  m_fieldfareref18_PutOpttt K x1 v11 H11)
  (m_fieldfareref18_PutOpttt K x1 x3 H7)))
theorem eQ12_tthtbt (K : KT) (a : TE) (H : AH) : bQ12 [1,1,0,1,0,1] (kQ12_ttht K) a H = m_fieldfareref18_PutOptthtbt K (a 1) (a 3) (a 8) (a 9) H :=
  by kernel_rfl
def m_fieldfareref18_PutOptthtb (K : KT) (x1 x3 x8 : AV) (H : AH) : Prop :=
  outP CC H (w_int .eql H x8 (.int .i64 7)) fun v1 H1 =>
  condP v1
  (m_fieldfareref18_PutOptthtbt K x1 x3 x8 v1 H1)
  (outP CC H1 (w_int .eql H1 x8 (.int .i64 8)) fun v2 H2 =>
  condP v2
  (m_fieldfareref18_PutOptthtbt K x1 x3 x8 v2 H2)
  (outP CC H2 (w_int .eql H2 x8 (.int .i64 9)) fun v3 H3 =>
  condP v3
  (m_fieldfareref18_PutOptthtbt K x1 x3 x8 v3 H3)
  (outP CC H3 (w_int .eql H3 x8 (.int .i64 11)) fun v4 H4 =>
  condP v4
  (m_fieldfareref18_PutOptthtbt K x1 x3 x8 v4 H4)
  (outP CC H4 (w_int .eql H4 x8 (.int .i64 14)) fun v5 H5 =>
  m_fieldfareref18_PutOptthtbt K x1 x3 x8 v5 H5))))
theorem eQ12_tthtb (K : KT) (a : TE) (H : AH) : bQ12 [1,1,0,1,0] (kQ12_ttht K) a H = m_fieldfareref18_PutOptthtb K (a 1) (a 3) (a 8) H :=
  eSeq (ca := subC (bodyC PP 12) [1,1,0,1,0,0]) (by kernel_rfl) (eQ12_tthtbt K) (by kernel_rfl)
theorem eQ12_ttht (K : KT) (a : TE) (H : AH) : bQ12 [1,1,0,1] (kQ12_tt K) a H = m_fieldfareref18_PutOptthtb K (a 1) (a 3) (a 8) H :=
  eBlockK 0 (by kernel_rfl) (by kernel_rfl) (eQ12_tthtb K a H)
def m_fieldfareref18_PutOptth (K : KT) (x1 x3 : AV) (H : AH) : Prop :=
  outP CC H (w_fieldAddr 0 H x1) fun v1 H1 =>
  outP CC H1 (w_load none H1 v1) fun v2 H2 =>
  m_fieldfareref18_PutOptthtb K x1 x3 v2 H2
theorem eQ12_tth (K : KT) (a : TE) (H : AH) : bQ12 [1,1,0] (kQ12_tt K) a H = m_fieldfareref18_PutOptth K (a 1) (a 3) H :=
  eSeq (ca := subC (bodyC PP 12) [1,1,0,0]) (by kernel_rfl) (eQ12_ttht K) (by kernel_rfl)
theorem eQ12_tt (K : KT) (a : TE) (H : AH) : bQ12 [1,1] (kQ12 K) a H = m_fieldfareref18_PutOptth K (a 1) (a 3) H :=
  eSeqK (by kernel_rfl) (eQ12_ttt K) (by kernel_rfl) (eQ12_tth K a H)
def m_fieldfareref18_PutOpt (K : KT) (x1 : AV) (H : AH) : Prop :=
  outP CC H (w_fieldAddr 0 H x1) fun v1 H1 =>
  outP CC H1 (w_load none H1 v1) fun v2 H2 =>
  outP CC H2 (some (.enter 50 [v2])) fun v3 H3 =>
  m_fieldfareref18_PutOptth K x1 v3 H3
theorem eQ12_t (K : KT) (a : TE) (H : AH) : bQ12 [1] (kQ12 K) a H = m_fieldfareref18_PutOpt K (a 1) H :=
  eSeq (ca := subC (bodyC PP 12) [1,0]) (by kernel_rfl) (eQ12_tt K) (by kernel_rfl)
def m_fieldfareref18_PutOp (K : KT) (x0 : AV) (H : AH) : Prop :=
  outP CC H (w_box 26 H x0 none) fun v1 H1 =>
  m_fieldfareref18_PutOpt K v1 H1
theorem eQ12_ (K : KT) (a : TE) (H : AH) : bQ12 [] (kQ12 K) a H = m_fieldfareref18_PutOp K (a 0) H :=
  eSeq (ca := subC (bodyC PP 12) [0]) (by kernel_rfl) (eQ12_t K) (by kernel_rfl)
theorem m_fieldfareref18_PutOp_ok (x0 : AV) (H : AH) (K : KT) (h : m_fieldfareref18_PutOp K x0 H) : CC.call 12 [x0] H K :=
  have h1 : funP PP CC 12 [x0] H K = bQ12 [] (kQ12 K) (argE [x0]) H := by kernel_rfl
  have h2 : m_fieldfareref18_PutOp K (argE [x0] 0) H = m_fieldfareref18_PutOp K x0 H := by kernel_rfl
  funP_ok (P := PP) (by kernel_rfl) (by kernel_rfl) ((h1.trans ((eQ12_ K (argE [x0]) H).trans h2)).mpr h)

/-! 51: fieldfare/fieldfareref18.nums -/
abbrev bQ51 (p : List Nat) (k : KP) : KE := codeP PP CC (subC (bodyC PP 51) p) k
abbrev kQ51 (K : KT) : KP := finP PP (resC PP 51) K
abbrev kQ51_t (K : KT) : KP := exP (bQ51 [1,1] (kQ51 K)) (kQ51 K)
abbrev kQ51_tht (K : KT) : KP := blockP 0 (kQ51_t K)
abbrev kQ51_thtb (K : KT) (r0 : (AV × AV × AV × AV) → AH → Prop) : KP := exP (fun (a : TE) (H : AH) => r0 (a 0, a 1, a 7, a 8) H) (kQ51_tht K)
def m_fieldfareref18_numsthtbl (K : KT) (r0 : (AV × AV × AV × AV) → AH → Prop) (x0 x1 x7 x8 : AV) (H : AH) : Prop :=
  outP CC H (w_int .lss H x8 x7) fun v1 H1 =>
  condP v1
  (outP CC H1 (w_indexAddr (.sl 1) H1 x1 x8) fun v2 H2 =>
  outP CC H2 (w_load none H2 v2) fun v3 H3 =>
  outP CC H3 (some (.enter 50 [v3])) fun v4 H4 =>
  outP CC H4 (w_append 5 1 1 H4 x0 v4 none) fun v5 H5 =>
  outP CC H5 (w_int .add H5 x8 (.int .i64 1)) fun v6 H6 =>
  r0 (v5, x1, x7, v6) H6)
  (K x0 H1)
theorem eQ51_thtbl (K : KT) (r0 : (AV × AV × AV × AV) → AH → Prop) (a : TE) (H : AH) : bQ51 [1,0,1,0,0] (kQ51_thtb K r0) a H = m_fieldfareref18_numsthtbl K r0 (a 0) (a 1) (a 7) (a 8) H :=
  by kernel_rfl
def m_fieldfareref18_numsthtb (K : KT) (x0 x1 x7 x8 : AV) (H : AH) : Prop :=
  loopP (fun (r0 : (AV × AV × AV × AV) → AH → Prop) (s : (AV × AV × AV × AV)) (H : AH) => m_fieldfareref18_numsthtbl K r0 s.1 s.2.1 s.2.2.1 s.2.2.2 H) (x0, x1, x7, x8) H
theorem eQ51_thtb (K : KT) (a : TE) (H : AH) : bQ51 [1,0,1,0] (kQ51_tht K) a H = m_fieldfareref18_numsthtb K (a 0) (a 1) (a 7) (a 8) H :=
  eLoopK (S := (AV × AV × AV × AV)) (fun a => (a 0, a 1, a 7, a 8)) (fun r0 s H => m_fieldfareref18_numsthtbl K r0 s.1 s.2.1 s.2.2.1 s.2.2.2 H) (by kernel_rfl) (fun r => by kernel_rfl) (eQ51_thtbl K)
theorem eQ51_tht (K : KT) (a : TE) (H : AH) : bQ51 [1,0,1] (kQ51_t K) a H = m_fieldfareref18_numsthtb K (a 0) (a 1) (a 7) (a 8) H :=
  eBlockK 0 (by kernel_rfl) (by kernel_rfl) (eQ51_thtb K a H)
def m_fieldfareref18_numsth (K : KT) (x0 x1 : AV) (H : AH) : Prop :=
  outP CC H (w_len PP 69 H x1) fun v1 H1 =>
  m_fieldfareref18_numsthtb K x0 x1 v1 (.int .i64 0) H1
theorem eQ51_th (K : KT) (a : TE) (H : AH) : bQ51 [1,0] (kQ51_t K) a H = m_fieldfareref18_numsth K (a 0) (a 1) H :=
  eSeq (ca := subC (bodyC PP 51) [1,0,0]) (by kernel_rfl) (eQ51_tht K) (by kernel_rfl)
theorem eQ51_t (K : KT) (a : TE) (H : AH) : bQ51 [1] (kQ51 K) a H = m_fieldfareref18_numsth K (a 0) (a 1) H :=
  eSeqJ (subC (bodyC PP 51) [1,1]) (by kernel_rfl) (by kernel_rfl) (eQ51_th K a H)
def m_fieldfareref18_nums (K : KT) (x0 x1 : AV) (H : AH) : Prop :=
  m_fieldfareref18_numsth K x0 x1 H
theorem eQ51_ (K : KT) (a : TE) (H : AH) : bQ51 [] (kQ51 K) a H = m_fieldfareref18_nums K (a 0) (a 1) H :=
  eSeq (ca := subC (bodyC PP 51) [0]) (by kernel_rfl) (eQ51_t K) (by kernel_rfl)
theorem m_fieldfareref18_nums_ok (x0 x1 : AV) (H : AH) (K : KT) (h : m_fieldfareref18_nums K x0 x1 H) : CC.call 51 [x0, x1] H K :=
  have h1 : funP PP CC 51 [x0, x1] H K = bQ51 [] (kQ51 K) (argE [x0, x1]) H := by kernel_rfl
  have h2 : m_fieldfareref18_nums K (argE [x0, x1] 0) (argE [x0, x1] 1) H = m_fieldfareref18_nums K x0 x1 H := by kernel_rfl
  funP_ok (P := PP) (by kernel_rfl) (by kernel_rfl) ((h1.trans ((eQ51_ K (argE [x0, x1]) H).trans h2)).mpr h)

/-! 52: fieldfare/fieldfareref1.Text -/
abbrev bQ52 (p : List Nat) (k : KP) : KE := codeP PP CC (subC (bodyC PP 52) p) k
abbrev kQ52 (K : KT) : KP := finP PP (resC PP 52) K
def m_fieldfareref1_Text (K : KT) (x0 : AV) (H : AH) : Prop :=
  outP CC H (w_len PP 9 H x0) fun v1 H1 =>
  outP CC H1 (some (.enter 50 [v1])) fun v2 H2 =>
  outP CC H2 (w_append 5 1 1 H2 v2 x0 none) fun v3 H3 =>
  K v3 H3
theorem eQ52_ (K : KT) (a : TE) (H : AH) : bQ52 [] (kQ52 K) a H = m_fieldfareref1_Text K (a 0) H :=
  by kernel_rfl
theorem m_fieldfareref1_Text_ok (x0 : AV) (H : AH) (K : KT) (h : m_fieldfareref1_Text K x0 H) : CC.call 52 [x0] H K :=
  have h1 : funP PP CC 52 [x0] H K = bQ52 [] (kQ52 K) (argE [x0]) H := by kernel_rfl
  have h2 : m_fieldfareref1_Text K (argE [x0] 0) H = m_fieldfareref1_Text K x0 H := by kernel_rfl
  funP_ok (P := PP) (by kernel_rfl) (by kernel_rfl) ((h1.trans ((eQ52_ K (argE [x0]) H).trans h2)).mpr h)

/-! 15: fieldfare/fieldfareref1.GetInt -/
abbrev bQ15 (p : List Nat) (k : KP) : KE := codeP PP CC (subC (bodyC PP 15) p) k
abbrev kQ15 (K : KT) : KP := finP PP (resC PP 15) K
def m_fieldfareref1_GetInttttttt (K : KT) (x4 x5 : AV) (H : AH) : Prop :=
  outP CC H (some (.enter 50 [x5])) fun v1 H1 =>
  outP CC H1 (w_len PP 27 H1 v1) fun v2 H2 =>
  outP CC H2 (w_int .add H2 x4 (.int .i64 1)) fun v3 H3 =>
  outP CC H3 (w_int .neq H3 v2 v3) fun v4 H4 =>
  condP v4
  (K (.tup [(.int .i64 0), (.int .i64 0)]) H4)
  (outP CC H4 (w_int .add H4 x4 (.int .i64 1)) fun v5 H5 =>
  K (.tup [x5, v5]) H5)
theorem eQ15_tttttt (K : KT) (a : TE) (H : AH) : bQ15 [1,1,1,1,1,1] (kQ15 K) a H = m_fieldfareref1_GetInttttttt K (a 4) (a 5) H :=
  by kernel_rfl
def m_fieldfareref1_GetIntttttt (K : KT) (x0 x4 x5 : AV) (H : AH) : Prop :=
  outP CC H (w_int .gtr H x4 (.int .i64 0)) fun v1 H1 =>
  guardP (boolIs true v1) H1 (outP CC H1 (some (.val x4 H1))) fun v2 H2 =>
  guardP (boolIs true v1) H2 (outP CC H2 (w_int .lss H2 v2 (.int .i64 8))) fun v3 H3 =>
  outP CC H3 (w_pick H3 v1 v3 (.bool false)) fun v4 H4 =>
  guardP (boolIs true v4) H4 (outP CC H4 (some (.val x0 H4))) fun v5 H5 =>
  guardP (boolIs true v4) H5 (outP CC H5 (some (.val x4 H5))) fun v6 H6 =>
  guardP (boolIs true v4) H6 (outP CC H6 (w_indexAddr (.sl 1) H6 v5 v6)) fun v7 H7 =>
  guardP (boolIs true v4) H7 (outP CC H7 (w_load none H7 v7)) fun v8 H8 =>
  guardP (boolIs true v4) H8 (outP CC H8 (w_int .geq H8 v8 (.int .u8 128))) fun v9 H9 =>
  outP CC H9 (w_pick H9 v4 v9 (.bool false)) fun v10 H10 =>
  condP v10
  (outP CC H10 (w_int .mul H10 (.int .i64 8) x4) fun v11 H11 =>
  outP CC H11 (w_conv (.int .u64) H11 v11 none) fun v12 H12 =>
  outP CC H12 (w_sh .shl H12 (.int .i64 1) v12) fun v13 H13 =>
  outP CC H13 (w_int .sub H13 x5 v13) fun v14 H14 =>
  m_fieldfareref1_GetInttttttt K x4 v14 H14)
  (m_fieldfareref1_GetInttttttt K x4 x5 H10)
theorem eQ15_ttttt (K : KT) (a : TE) (H : AH) : bQ15 [1,1,1,1,1] (kQ15 K) a H = m_fieldfareref1_GetIntttttt K (a 0) (a 4) (a 5) H :=
  eSeq (ca := subC (bodyC PP 15) [1,1,1,1,1,0]) (by kernel_rfl) (eQ15_tttttt K) (by kernel_rfl)
abbrev kQ15_tttt (K : KT) : KP := exP (fun (a : TE) (H : AH) => m_fieldfareref1_GetIntttttt K (a 0) (a 4) (a 5) H) (kQ15 K)
abbrev kQ15_ttttht (K : KT) : KP := blockP 0 (kQ15_tttt K)
abbrev kQ15_tttthtb (K : KT) (r0 : (AV × AV × AV × AV) → AH → Prop) : KP := exP (fun (a : TE) (H : AH) => r0 (a 0, a 4, a 5, a 6) H) (kQ15_ttttht K)
def m_fieldfareref1_GetInttttthtbl (K : KT) (r0 : (AV × AV × AV × AV) → AH → Prop) (x0 x4 x5 x6 : AV) (H : AH) : Prop :=
  outP CC H (w_int .gtr H x6 (.int .i64 0)) fun v1 H1 =>
  condP v1
  (outP CC H1 (w_int .mul H1 x5 (.int .i64 256)) fun v2 H2 =>
  outP CC H2 (w_indexAddr (.sl 1) H2 x0 x6) fun v3 H3 =>
  outP CC H3 (w_load none H3 v3) fun v4 H4 =>
  outP CC H4 (w_conv (.int .i64) H4 v4 none) fun v5 H5 =>
  outP CC H5 (w_int .add H5 v2 v5) fun v6 H6 =>
  outP CC H6 (w_int .sub H6 x6 (.int .i64 1)) fun v7 H7 =>
  r0 (x0, x4, v6, v7) H7)
  (m_fieldfareref1_GetIntttttt K x0 x4 x5 H1)
theorem eQ15_tttthtbl (K : KT) (r0 : (AV × AV × AV × AV) → AH → Prop) (a : TE) (H : AH) : bQ15 [1,1,1,1,0,1,0,0] (kQ15_tttthtb K r0) a H = m_fieldfareref1_GetInttttthtbl K r0 (a 0) (a 4) (a 5) (a 6) H :=
  by kernel_rfl
def m_fieldfareref1_GetInttttthtb (K : KT) (x0 x4 x5 x6 : AV) (H : AH) : Prop :=
  loopP (fun (r0 : (AV × AV × AV × AV) → AH → Prop) (s : (AV × AV × AV × AV)) (H : AH) => m_fieldfareref1_GetInttttthtbl K r0 s.1 s.2.1 s.2.2.1 s.2.2.2 H) (x0, x4, x5, x6) H
theorem eQ15_tttthtb (K : KT) (a : TE) (H : AH) : bQ15 [1,1,1,1,0,1,0] (kQ15_ttttht K) a H = m_fieldfareref1_GetInttttthtb K (a 0) (a 4) (a 5) (a 6) H :=
  eLoopK (S := (AV × AV × AV × AV)) (fun a => (a 0, a 4, a 5, a 6)) (fun r0 s H => m_fieldfareref1_GetInttttthtbl K r0 s.1 s.2.1 s.2.2.1 s.2.2.2 H) (by kernel_rfl) (fun r => by kernel_rfl) (eQ15_tttthtbl K)
theorem eQ15_ttttht (K : KT) (a : TE) (H : AH) : bQ15 [1,1,1,1,0,1] (kQ15_tttt K) a H = m_fieldfareref1_GetInttttthtb K (a 0) (a 4) (a 5) (a 6) H :=
  eBlockK 0 (by kernel_rfl) (by kernel_rfl) (eQ15_tttthtb K a H)
def m_fieldfareref1_GetInttttth (K : KT) (x0 x4 x5 : AV) (H : AH) : Prop :=
  m_fieldfareref1_GetInttttthtb K x0 x4 x5 x4 H
theorem eQ15_tttth (K : KT) (a : TE) (H : AH) : bQ15 [1,1,1,1,0] (kQ15_tttt K) a H = m_fieldfareref1_GetInttttth K (a 0) (a 4) (a 5) H :=
  eSeq (ca := subC (bodyC PP 15) [1,1,1,1,0,0]) (by kernel_rfl) (eQ15_ttttht K) (by kernel_rfl)
theorem eQ15_tttt (K : KT) (a : TE) (H : AH) : bQ15 [1,1,1,1] (kQ15 K) a H = m_fieldfareref1_GetInttttth K (a 0) (a 4) (a 5) H :=
  eSeqK (by kernel_rfl) (eQ15_ttttt K) (by kernel_rfl) (eQ15_tttth K a H)
def m_fieldfareref1_GetIntttt (K : KT) (x0 x4 : AV) (H : AH) : Prop :=
  m_fieldfareref1_GetInttttth K x0 x4 (.int .i64 0) H
theorem eQ15_ttt (K : KT) (a : TE) (H : AH) : bQ15 [1,1,1] (kQ15 K) a H = m_fieldfareref1_GetIntttt K (a 0) (a 4) H :=
  eSeq (ca := subC (bodyC PP 15) [1,1,1,0]) (by kernel_rfl) (eQ15_tttt K) (by kernel_rfl)
def m_fieldfareref1_GetInttt (K : KT) (x0 : AV) (H : AH) : Prop :=
  outP CC H (w_indexAddr (.sl 1) H x0 (.int .i64 0)) fun v1 H1 =>
  outP CC H1 (w_load none H1 v1) fun v2 H2 =>
  outP CC H2 (w_conv (.int .i64) H2 v2 none) fun v3 H3 =>
  m_fieldfareref1_GetIntttt K x0 v3 H3
theorem eQ15_tt (K : KT) (a : TE) (H : AH) : bQ15 [1,1] (kQ15 K) a H = m_fieldfareref1_GetInttt K (a 0) H :=
  eSeq (ca := subC (bodyC PP 15) [1,1,0]) (by kernel_rfl) (eQ15_ttt K) (by kernel_rfl)
def m_fieldfareref1_GetIntt (K : KT) (x0 : AV) (H : AH) : Prop :=
  outP CC H (w_len PP 27 H x0) fun v1 H1 =>
  outP CC H1 (w_int .eql H1 v1 (.int .i64 0)) fun v2 H2 =>
  guardP (boolIs false v2) H2 (outP CC H2 (some (.val x0 H2))) fun v3 H3 =>
  guardP (boolIs false v2) H3 (outP CC H3 (w_indexAddr (.sl 1) H3 v3 (.int .i64 0))) fun v4 H4 =>
  guardP (boolIs false v2) H4 (outP CC H4 (w_load none H4 v4)) fun v5 H5 =>
  guardP (boolIs false v2) H5 (outP CC H5 (w_int .gtr H5 v5 (.int .u8 8))) fun v6 H6 =>
  outP CC H6 (w_pick H6 v2 (.bool true) v6) fun v7 H7 =>
  guardP (boolIs false v7) H7 (outP CC H7 (some (.val x0 H7))) fun v8 H8 =>
  guardP (boolIs false v7) H8 (outP CC H8 (w_indexAddr (.sl 1) H8 v8 (.int .i64 0))) fun v9 H9 =>
  guardP (boolIs false v7) H9 (outP CC H9 (w_load none H9 v9)) fun v10 H10 =>
  guardP (boolIs false v7) H10 (outP CC H10 (w_conv (.int .i64) H10 v10 none)) fun v11 H11 =>
  guardP (boolIs false v7) H11 (outP CC H11 (some (.val x0 H11))) fun v12 H12 =>
  guardP (boolIs false v7) H12 (outP CC H12 (w_len PP 27 H12 v12)) fun v13 H13 =>
  guardP (boolIs false v7) H13 (outP CC H13 (w_int .sub H13 v13 (.int .i64 1))) fun v14 H14 =>
  guardP (boolIs false v7) H14 (outP CC H14 (w_int .gtr H14 v11 v14)) fun v15 H15 =>
  outP CC H15 (w_pick H15 v7 (.bool true) v15) fun v16 H16 =>
  condP v16
  (K (.tup [(.int .i64 0), (.int .i64 0)]) H16)
  (m_fieldfareref1_GetInttt K x0 H16)
theorem eQ15_t (K : KT) (a : TE) (H : AH) : bQ15 [1] (kQ15 K) a H = m_fieldfareref1_GetIntt K (a 0) H :=
  eSeq (ca := subC (bodyC PP 15) [1,0]) (by kernel_rfl) (eQ15_tt K) (by kernel_rfl)
def m_fieldfareref1_GetInt (K : KT) (x0 : AV) (H : AH) : Prop :=
  m_fieldfareref1_GetIntt K x0 H
theorem eQ15_ (K : KT) (a : TE) (H : AH) : bQ15 [] (kQ15 K) a H = m_fieldfareref1_GetInt K (a 0) H :=
  eSeq (ca := subC (bodyC PP 15) [0]) (by kernel_rfl) (eQ15_t K) (by kernel_rfl)
theorem m_fieldfareref1_GetInt_ok (x0 : AV) (H : AH) (K : KT) (h : m_fieldfareref1_GetInt K x0 H) : CC.call 15 [x0] H K :=
  have h1 : funP PP CC 15 [x0] H K = bQ15 [] (kQ15 K) (argE [x0]) H := by kernel_rfl
  have h2 : m_fieldfareref1_GetInt K (argE [x0] 0) H = m_fieldfareref1_GetInt K x0 H := by kernel_rfl
  funP_ok (P := PP) (by kernel_rfl) (by kernel_rfl) ((h1.trans ((eQ15_ K (argE [x0]) H).trans h2)).mpr h)

end
end Go.Ab
