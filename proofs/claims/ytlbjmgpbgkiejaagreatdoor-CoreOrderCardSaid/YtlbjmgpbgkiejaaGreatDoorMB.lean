/- What functions do, said as what the evaluator does. Printed by a program. -/
import Derived.Test.YtlbjmgpbgkiejaaGreatDoorBeg
import Derived.Test.YtlbjmgpbgkiejaaGreatDoorMir2
namespace Go.Ab
noncomputable section
open Go.Proofs
set_option maxRecDepth 100000



/-! 207: fieldfare/vect.Eq -/
abbrev bQ207 (p : List Nat) (k : KP) : KE := codeP PP CC (subC (bodyC PP 207) p) k
abbrev kQ207 (K : KT) : KP := finP PP (resC PP 207) K
def m_vect_Eq (K : KT) (x0 x1 : AV) (H : AH) : Prop :=
  outP CC H (some (.enter 270 [x0, x1])) fun v1 H1 =>
  K v1 H1
theorem eQ207_ (K : KT) (a : TE) (H : AH) : bQ207 [] (kQ207 K) a H = m_vect_Eq K (a 0) (a 1) H :=
  by kernel_rfl
theorem m_vect_Eq_ok (x0 x1 : AV) (H : AH) (K : KT) (h : m_vect_Eq K x0 x1 H) : CC.call 207 [x0, x1] H K :=
  have h1 : funP PP CC 207 [x0, x1] H K = bQ207 [] (kQ207 K) (argE [x0, x1]) H := by kernel_rfl
  have h2 : m_vect_Eq K (argE [x0, x1] 0) (argE [x0, x1] 1) H = m_vect_Eq K x0 x1 H := by kernel_rfl
  funP_ok (P := PP) (by kernel_rfl) (by kernel_rfl) ((h1.trans ((eQ207_ K (argE [x0, x1]) H).trans h2)).mpr h)

/-! 270: slices.Equal[fieldfare/api.Vec,int32] -/
abbrev bQ270 (p : List Nat) (k : KP) : KE := codeP PP CC (subC (bodyC PP 270) p) k
abbrev kQ270 (K : KT) : KP := finP PP (resC PP 270) K
abbrev kQ270_tt (K : KT) : KP := exP (bQ270 [1,1,1] (kQ270 K)) (kQ270 K)
abbrev kQ270_ttht (K : KT) : KP := blockP 0 (kQ270_tt K)
abbrev kQ270_tthtb (K : KT) (r0 : (AV × AV × AV × AV) → AH → Prop) : KP := exP (fun (a : TE) (H : AH) => r0 (a 0, a 1, a 12, a 13) H) (kQ270_ttht K)
def m_slices_Equal_api_Vec_int32tthtbl (K : KT) (r0 : (AV × AV × AV × AV) → AH → Prop) (x0 x1 x12 x13 : AV) (H : AH) : Prop :=
  outP CC H (w_int .lss H x13 x12) fun v1 H1 =>
  condP v1
  (outP CC H1 (w_indexAddr (.sl 1) H1 x0 x13) fun v2 H2 =>
  outP CC H2 (w_load none H2 v2) fun v3 H3 =>
  outP CC H3 (w_indexAddr (.sl 1) H3 x1 x13) fun v4 H4 =>
  outP CC H4 (w_load none H4 v4) fun v5 H5 =>
  outP CC H5 (w_int .neq H5 v3 v5) fun v6 H6 =>
  condP v6
  (K (.bool false) H6)
  (outP CC H6 (w_int .add H6 x13 (.int .i64 1)) fun v7 H7 =>
  r0 (x0, x1, x12, v7) H7))
  (K (.bool true) H1)
theorem eQ270_tthtbl (K : KT) (r0 : (AV × AV × AV × AV) → AH → Prop) (a : TE) (H : AH) : bQ270 [1,1,0,1,0,0] (kQ270_tthtb K r0) a H = m_slices_Equal_api_Vec_int32tthtbl K r0 (a 0) (a 1) (a 12) (a 13) H :=
  by kernel_rfl
def m_slices_Equal_api_Vec_int32tthtb (K : KT) (x0 x1 x12 x13 : AV) (H : AH) : Prop :=
  loopP (fun (r0 : (AV × AV × AV × AV) → AH → Prop) (s : (AV × AV × AV × AV)) (H : AH) => m_slices_Equal_api_Vec_int32tthtbl K r0 s.1 s.2.1 s.2.2.1 s.2.2.2 H) (x0, x1, x12, x13) H
theorem eQ270_tthtb (K : KT) (a : TE) (H : AH) : bQ270 [1,1,0,1,0] (kQ270_ttht K) a H = m_slices_Equal_api_Vec_int32tthtb K (a 0) (a 1) (a 12) (a 13) H :=
  eLoopK (S := (AV × AV × AV × AV)) (fun a => (a 0, a 1, a 12, a 13)) (fun r0 s H => m_slices_Equal_api_Vec_int32tthtbl K r0 s.1 s.2.1 s.2.2.1 s.2.2.2 H) (by kernel_rfl) (fun r => by kernel_rfl) (eQ270_tthtbl K)
theorem eQ270_ttht (K : KT) (a : TE) (H : AH) : bQ270 [1,1,0,1] (kQ270_tt K) a H = m_slices_Equal_api_Vec_int32tthtb K (a 0) (a 1) (a 12) (a 13) H :=
  eBlockK 0 (by kernel_rfl) (by kernel_rfl) (eQ270_tthtb K a H)
def m_slices_Equal_api_Vec_int32tth (K : KT) (x0 x1 : AV) (H : AH) : Prop :=
  outP CC H (w_len PP 27 H x0) fun v1 H1 =>
  m_slices_Equal_api_Vec_int32tthtb K x0 x1 v1 (.int .i64 0) H1
theorem eQ270_tth (K : KT) (a : TE) (H : AH) : bQ270 [1,1,0] (kQ270_tt K) a H = m_slices_Equal_api_Vec_int32tth K (a 0) (a 1) H :=
  eSeq (ca := subC (bodyC PP 270) [1,1,0,0]) (by kernel_rfl) (eQ270_ttht K) (by kernel_rfl)
theorem eQ270_tt (K : KT) (a : TE) (H : AH) : bQ270 [1,1] (kQ270 K) a H = m_slices_Equal_api_Vec_int32tth K (a 0) (a 1) H :=
  eSeqJ (subC (bodyC PP 270) [1,1,1]) (by kernel_rfl) (by kernel_rfl) (eQ270_tth K a H)
def m_slices_Equal_api_Vec_int32t (K : KT) (x0 x1 : AV) (H : AH) : Prop :=
  outP CC H (w_len PP 27 H x0) fun v1 H1 =>
  outP CC H1 (w_len PP 27 H1 x1) fun v2 H2 =>
  outP CC H2 (w_int .neq H2 v1 v2) fun v3 H3 =>
  condP v3
  (K (.bool false) H3)
  (m_slices_Equal_api_Vec_int32tth K x0 x1 H3)
theorem eQ270_t (K : KT) (a : TE) (H : AH) : bQ270 [1] (kQ270 K) a H = m_slices_Equal_api_Vec_int32t K (a 0) (a 1) H :=
  eSeq (ca := subC (bodyC PP 270) [1,0]) (by kernel_rfl) (eQ270_tt K) (by kernel_rfl)
def m_slices_Equal_api_Vec_int32 (K : KT) (x0 x1 : AV) (H : AH) : Prop :=
  m_slices_Equal_api_Vec_int32t K x0 x1 H
theorem eQ270_ (K : KT) (a : TE) (H : AH) : bQ270 [] (kQ270 K) a H = m_slices_Equal_api_Vec_int32 K (a 0) (a 1) H :=
  eSeq (ca := subC (bodyC PP 270) [0]) (by kernel_rfl) (eQ270_t K) (by kernel_rfl)
theorem m_slices_Equal_api_Vec_int32_ok (x0 x1 : AV) (H : AH) (K : KT) (h : m_slices_Equal_api_Vec_int32 K x0 x1 H) : CC.call 270 [x0, x1] H K :=
  have h1 : funP PP CC 270 [x0, x1] H K = bQ270 [] (kQ270 K) (argE [x0, x1]) H := by kernel_rfl
  have h2 : m_slices_Equal_api_Vec_int32 K (argE [x0, x1] 0) (argE [x0, x1] 1) H = m_slices_Equal_api_Vec_int32 K x0 x1 H := by kernel_rfl
  funP_ok (P := PP) (by kernel_rfl) (by kernel_rfl) ((h1.trans ((eQ270_ K (argE [x0, x1]) H).trans h2)).mpr h)

/-! 205: slices.Concat[[]int,int] -/
abbrev bQ205 (p : List Nat) (k : KP) : KE := codeP PP CC (subC (bodyC PP 205) p) k
abbrev kQ205 (K : KT) : KP := finP PP (resC PP 205) K
abbrev kQ205_tttt (K : KT) : KP := exP (bQ205 [1,1,1,1,1] (kQ205 K)) (kQ205 K)
abbrev kQ205_ttttht (K : KT) : KP := blockP 2 (kQ205_tttt K)
abbrev kQ205_tttthtb (K : KT) (r0 : (AV × AV × AV × AV) → AH → Prop) : KP := exP (fun (a : TE) (H : AH) => r0 (a 6, a 25, a 26, a 27) H) (kQ205_ttttht K)
def m_slices_Concat_int_inttttthtbl (K : KT) (r0 : (AV × AV × AV × AV) → AH → Prop) (x6 x25 x26 x27 : AV) (H : AH) : Prop :=
  outP CC H (w_int .lss H x27 x26) fun v1 H1 =>
  condP v1
  (outP CC H1 (w_indexAddr (.sl 1) H1 x25 x27) fun v2 H2 =>
  outP CC H2 (w_load none H2 v2) fun v3 H3 =>
  outP CC H3 (w_append 3 1 8 H3 x6 v3 none) fun v4 H4 =>
  outP CC H4 (w_int .add H4 x27 (.int .i64 1)) fun v5 H5 =>
  r0 (v4, x25, x26, v5) H5)
  (K x6 H1)
theorem eQ205_tttthtbl (K : KT) (r0 : (AV × AV × AV × AV) → AH → Prop) (a : TE) (H : AH) : bQ205 [1,1,1,1,0,1,0,0] (kQ205_tttthtb K r0) a H = m_slices_Concat_int_inttttthtbl K r0 (a 6) (a 25) (a 26) (a 27) H :=
  by kernel_rfl
def m_slices_Concat_int_inttttthtb (K : KT) (x6 x25 x26 x27 : AV) (H : AH) : Prop :=
  loopP (fun (r0 : (AV × AV × AV × AV) → AH → Prop) (s : (AV × AV × AV × AV)) (H : AH) => m_slices_Concat_int_inttttthtbl K r0 s.1 s.2.1 s.2.2.1 s.2.2.2 H) (x6, x25, x26, x27) H
theorem eQ205_tttthtb (K : KT) (a : TE) (H : AH) : bQ205 [1,1,1,1,0,1,0] (kQ205_ttttht K) a H = m_slices_Concat_int_inttttthtb K (a 6) (a 25) (a 26) (a 27) H :=
  eLoopK (S := (AV × AV × AV × AV)) (fun a => (a 6, a 25, a 26, a 27)) (fun r0 s H => m_slices_Concat_int_inttttthtbl K r0 s.1 s.2.1 s.2.2.1 s.2.2.2 H) (by kernel_rfl) (fun r => by kernel_rfl) (eQ205_tttthtbl K)
theorem eQ205_ttttht (K : KT) (a : TE) (H : AH) : bQ205 [1,1,1,1,0,1] (kQ205_tttt K) a H = m_slices_Concat_int_inttttthtb K (a 6) (a 25) (a 26) (a 27) H :=
  eBlockK 2 (by kernel_rfl) (by kernel_rfl) (eQ205_tttthtb K a H)
def m_slices_Concat_int_inttttth (K : KT) (x0 x6 : AV) (H : AH) : Prop :=
  outP CC H (w_len PP 379 H x0) fun v1 H1 =>
  m_slices_Concat_int_inttttthtb K x6 x0 v1 (.int .i64 0) H1
theorem eQ205_tttth (K : KT) (a : TE) (H : AH) : bQ205 [1,1,1,1,0] (kQ205_tttt K) a H = m_slices_Concat_int_inttttth K (a 0) (a 6) H :=
  eSeq (ca := subC (bodyC PP 205) [1,1,1,1,0,0]) (by kernel_rfl) (eQ205_ttttht K) (by kernel_rfl)
theorem eQ205_tttt (K : KT) (a : TE) (H : AH) : bQ205 [1,1,1,1] (kQ205 K) a H = m_slices_Concat_int_inttttth K (a 0) (a 6) H :=
  eSeqJ (subC (bodyC PP 205) [1,1,1,1,1]) (by kernel_rfl) (by kernel_rfl) (eQ205_tttth K a H)
def m_slices_Concat_int_intttt (K : KT) (x0 x3 : AV) (H : AH) : Prop :=
  outP CC H (some (.enter 268 [(.slice none 0 0 true), x3])) fun v1 H1 =>
  m_slices_Concat_int_inttttth K x0 v1 H1
theorem eQ205_ttt (K : KT) (a : TE) (H : AH) : bQ205 [1,1,1] (kQ205 K) a H = m_slices_Concat_int_intttt K (a 0) (a 3) H :=
  eSeq (ca := subC (bodyC PP 205) [1,1,1,0]) (by kernel_rfl) (eQ205_tttt K) (by kernel_rfl)
abbrev kQ205_tt (K : KT) : KP := exP (fun (a : TE) (H : AH) => m_slices_Concat_int_intttt K (a 0) (a 3) H) (kQ205 K)
abbrev kQ205_ttht (K : KT) : KP := blockP 0 (kQ205_tt K)
abbrev kQ205_tthtb (K : KT) (r0 : (AV × AV × AV × AV × AV) → AH → Prop) : KP := exP (fun (a : TE) (H : AH) => r0 (a 0, a 3, a 9, a 10, a 11) H) (kQ205_ttht K)
def m_slices_Concat_int_inttthtbl (K : KT) (r0 : (AV × AV × AV × AV × AV) → AH → Prop) (x0 x3 x9 x10 x11 : AV) (H : AH) : Prop :=
  outP CC H (w_int .lss H x11 x10) fun v1 H1 =>
  condP v1
  (outP CC H1 (w_indexAddr (.sl 1) H1 x9 x11) fun v2 H2 =>
  outP CC H2 (w_load none H2 v2) fun v3 H3 =>
  outP CC H3 (w_len PP 54 H3 v3) fun v4 H4 =>
  outP CC H4 (w_int .add H4 x3 v4) fun v5 H5 =>
  outP CC H5 (w_int .lss H5 v5 (.int .i64 0)) fun v6 H6 =>
  condP v6
  (outP CC H6 (some (.val (.iface 9 (.str [108, 101, 110, 32, 111, 117, 116, 32, 111, 102, 32, 114, 97, 110, 103, 101])) H6)) fun _v7 H7 =>
  outP CC H7 (none) fun _v8 H8 =>
  outP CC H8 (w_int .add H8 x11 (.int .i64 1)) fun v9 H9 =>
  r0 (x0, v5, x9, x10, v9) H9)
  (outP CC H6 (w_int .add H6 x11 (.int .i64 1)) fun v10 H10 =>
  r0 (x0, v5, x9, x10, v10) H10))
  (m_slices_Concat_int_intttt K x0 x3 H1)
theorem eQ205_tthtbl (K : KT) (r0 : (AV × AV × AV × AV × AV) → AH → Prop) (a : TE) (H : AH) : bQ205 [1,1,0,1,0,0] (kQ205_tthtb K r0) a H = m_slices_Concat_int_inttthtbl K r0 (a 0) (a 3) (a 9) (a 10) (a 11) H :=
  by kernel_rfl
def m_slices_Concat_int_inttthtb (K : KT) (x0 x3 x9 x10 x11 : AV) (H : AH) : Prop :=
  loopP (fun (r0 : (AV × AV × AV × AV × AV) → AH → Prop) (s : (AV × AV × AV × AV × AV)) (H : AH) => m_slices_Concat_int_inttthtbl K r0 s.1 s.2.1 s.2.2.1 s.2.2.2.1 s.2.2.2.2 H) (x0, x3, x9, x10, x11) H
theorem eQ205_tthtb (K : KT) (a : TE) (H : AH) : bQ205 [1,1,0,1,0] (kQ205_ttht K) a H = m_slices_Concat_int_inttthtb K (a 0) (a 3) (a 9) (a 10) (a 11) H :=
  eLoopK (S := (AV × AV × AV × AV × AV)) (fun a => (a 0, a 3, a 9, a 10, a 11)) (fun r0 s H => m_slices_Concat_int_inttthtbl K r0 s.1 s.2.1 s.2.2.1 s.2.2.2.1 s.2.2.2.2 H) (by kernel_rfl) (fun r => by kernel_rfl) (eQ205_tthtbl K)
theorem eQ205_ttht (K : KT) (a : TE) (H : AH) : bQ205 [1,1,0,1] (kQ205_tt K) a H = m_slices_Concat_int_inttthtb K (a 0) (a 3) (a 9) (a 10) (a 11) H :=
  eBlockK 0 (by kernel_rfl) (by kernel_rfl) (eQ205_tthtb K a H)
def m_slices_Concat_int_inttth (K : KT) (x0 x3 : AV) (H : AH) : Prop :=
  outP CC H (w_len PP 379 H x0) fun v1 H1 =>
  m_slices_Concat_int_inttthtb K x0 x3 x0 v1 (.int .i64 0) H1
theorem eQ205_tth (K : KT) (a : TE) (H : AH) : bQ205 [1,1,0] (kQ205_tt K) a H = m_slices_Concat_int_inttth K (a 0) (a 3) H :=
  eSeq (ca := subC (bodyC PP 205) [1,1,0,0]) (by kernel_rfl) (eQ205_ttht K) (by kernel_rfl)
theorem eQ205_tt (K : KT) (a : TE) (H : AH) : bQ205 [1,1] (kQ205 K) a H = m_slices_Concat_int_inttth K (a 0) (a 3) H :=
  eSeqK (by kernel_rfl) (eQ205_ttt K) (by kernel_rfl) (eQ205_tth K a H)
def m_slices_Concat_int_intt (K : KT) (x0 : AV) (H : AH) : Prop :=
  m_slices_Concat_int_inttth K x0 (.int .i64 0) H
theorem eQ205_t (K : KT) (a : TE) (H : AH) : bQ205 [1] (kQ205 K) a H = m_slices_Concat_int_intt K (a 0) H :=
  eSeq (ca := subC (bodyC PP 205) [1,0]) (by kernel_rfl) (eQ205_tt K) (by kernel_rfl)
def m_slices_Concat_int_int (K : KT) (x0 : AV) (H : AH) : Prop :=
  m_slices_Concat_int_intt K x0 H
theorem eQ205_ (K : KT) (a : TE) (H : AH) : bQ205 [] (kQ205 K) a H = m_slices_Concat_int_int K (a 0) H :=
  eSeq (ca := subC (bodyC PP 205) [0]) (by kernel_rfl) (eQ205_t K) (by kernel_rfl)
theorem m_slices_Concat_int_int_ok (x0 : AV) (H : AH) (K : KT) (h : m_slices_Concat_int_int K x0 H) : CC.call 205 [x0] H K :=
  have h1 : funP PP CC 205 [x0] H K = bQ205 [] (kQ205 K) (argE [x0]) H := by kernel_rfl
  have h2 : m_slices_Concat_int_int K (argE [x0] 0) H = m_slices_Concat_int_int K x0 H := by kernel_rfl
  funP_ok (P := PP) (by kernel_rfl) (by kernel_rfl) ((h1.trans ((eQ205_ K (argE [x0]) H).trans h2)).mpr h)

/-! 181: slices.Clone[[]int,int] -/
abbrev bQ181 (p : List Nat) (k : KP) : KE := codeP PP CC (subC (bodyC PP 181) p) k
abbrev kQ181 (K : KT) : KP := finP PP (resC PP 181) K
def m_slices_Clone_int_int (K : KT) (x0 : AV) (H : AH) : Prop :=
  outP CC H (w_eq PP .eql 54 false true H x0 (.slice none 0 0 true)) fun v1 H1 =>
  condP v1
  (K (.slice none 0 0 true) H1)
  (outP CC H1 (w_buildSlice PP 3 0 H1 [] none) fun v2 H2 =>
  outP CC H2 (w_append 3 1 8 H2 v2 x0 none) fun v3 H3 =>
  K v3 H3)
theorem eQ181_ (K : KT) (a : TE) (H : AH) : bQ181 [] (kQ181 K) a H = m_slices_Clone_int_int K (a 0) H :=
  by kernel_rfl
theorem m_slices_Clone_int_int_ok (x0 : AV) (H : AH) (K : KT) (h : m_slices_Clone_int_int K x0 H) : CC.call 181 [x0] H K :=
  have h1 : funP PP CC 181 [x0] H K = bQ181 [] (kQ181 K) (argE [x0]) H := by kernel_rfl
  have h2 : m_slices_Clone_int_int K (argE [x0] 0) H = m_slices_Clone_int_int K x0 H := by kernel_rfl
  funP_ok (P := PP) (by kernel_rfl) (by kernel_rfl) ((h1.trans ((eQ181_ K (argE [x0]) H).trans h2)).mpr h)

/-! 268: slices.Grow[[]int,int] -/
abbrev bQ268 (p : List Nat) (k : KP) : KE := codeP PP CC (subC (bodyC PP 268) p) k
abbrev kQ268 (K : KT) : KP := finP PP (resC PP 268) K
def m_slices_Grow_int_inttt (K : KT) (x0 x1 : AV) (H : AH) : Prop :=
  outP CC H (w_cap PP 54 H x0) fun v1 H1 =>
  outP CC H1 (w_len PP 54 H1 x0) fun v2 H2 =>
  outP CC H2 (w_int .sub H2 v1 v2) fun v3 H3 =>
  outP CC H3 (w_int .sub H3 x1 v3) fun v4 H4 =>
  outP CC H4 (w_int .gtr H4 v4 (.int .i64 0)) fun v5 H5 =>
  condP v5
  (outP CC H5 (w_cap PP 54 H5 x0) fun v6 H6 =>
  outP CC H6 (w_slice (.sl 1) true false H6 x0 none (some v6) none) fun v7 H7 =>
  outP CC H7 (w_appendZ 3 1 8 [(.int .i64 0)] H7 v7 v4 none) fun v8 H8 =>
  outP CC H8 (w_len PP 54 H8 x0) fun v9 H9 =>
  outP CC H9 (w_slice (.sl 1) true false H9 v8 none (some v9) none) fun v10 H10 =>
  K v10 H10)
  (K x0 H5)
theorem eQ268_tt (K : KT) (a : TE) (H : AH) : bQ268 [1,1] (kQ268 K) a H = m_slices_Grow_int_inttt K (a 0) (a 1) H :=
  by kernel_rfl
def m_slices_Grow_int_intt (K : KT) (x0 x1 : AV) (H : AH) : Prop :=
  outP CC H (w_int .lss H x1 (.int .i64 0)) fun v1 H1 =>
  condP v1
  (outP CC H1 (some (.val (.iface 9 (.str [99, 97, 110, 110, 111, 116, 32, 98, 101, 32, 110, 101, 103, 97, 116, 105, 118, 101])) H1)) fun _v2 H2 =>
  outP CC H2 (none) fun _v3 H3 =>
  m_slices_Grow_int_inttt K x0 x1 H3)
  (m_slices_Grow_int_inttt K x0 x1 H1)
theorem eQ268_t (K : KT) (a : TE) (H : AH) : bQ268 [1] (kQ268 K) a H = m_slices_Grow_int_intt K (a 0) (a 1) H :=
  eSeq (ca := subC (bodyC PP 268) [1,0]) (by kernel_rfl) (eQ268_tt K) (by kernel_rfl)
def m_slices_Grow_int_int (K : KT) (x0 x1 : AV) (H : AH) : Prop :=
  m_slices_Grow_int_intt K x0 x1 H
theorem eQ268_ (K : KT) (a : TE) (H : AH) : bQ268 [] (kQ268 K) a H = m_slices_Grow_int_int K (a 0) (a 1) H :=
  eSeq (ca := subC (bodyC PP 268) [0]) (by kernel_rfl) (eQ268_t K) (by kernel_rfl)
theorem m_slices_Grow_int_int_ok (x0 x1 : AV) (H : AH) (K : KT) (h : m_slices_Grow_int_int K x0 x1 H) : CC.call 268 [x0, x1] H K :=
  have h1 : funP PP CC 268 [x0, x1] H K = bQ268 [] (kQ268 K) (argE [x0, x1]) H := by kernel_rfl
  have h2 : m_slices_Grow_int_int K (argE [x0, x1] 0) (argE [x0, x1] 1) H = m_slices_Grow_int_int K x0 x1 H := by kernel_rfl
  funP_ok (P := PP) (by kernel_rfl) (by kernel_rfl) ((h1.trans ((eQ268_ K (argE [x0, x1]) H).trans h2)).mpr h)

/-! 121: fieldfare/pool.New -/
abbrev bQ121 (p : List Nat) (k : KP) : KE := codeP PP CC (subC (bodyC PP 121) p) k
abbrev kQ121 (K : KT) : KP := finP PP (resC PP 121) K
abbrev kQ121_tt (K : KT) : KP := exP (bQ121 [1,1,1] (kQ121 K)) (kQ121 K)
abbrev kQ121_ttht (K : KT) : KP := blockP 0 (kQ121_tt K)
abbrev kQ121_tthtb (K : KT) (r0 : (AV × AV × AV) → AH → Prop) : KP := exP (fun (a : TE) (H : AH) => r0 (a 3, a 10, a 11) H) (kQ121_ttht K)
def m_pool_Newtthtbl (K : KT) (r0 : (AV × AV × AV) → AH → Prop) (x3 x10 x11 : AV) (H : AH) : Prop :=
  outP CC H (w_int .lss H x11 x10) fun v1 H1 =>
  condP v1
  (outP CC H1 (w_nil H1 x3) fun v2 H2 =>
  outP CC H2 (w_fieldAddr 0 H2 v2) fun v3 H3 =>
  outP CC H3 (w_load none H3 v3) fun v4 H4 =>
  outP CC H4 (w_buildSlice PP 3 1 H4 [(0, x11)] none) fun v5 H5 =>
  outP CC H5 (w_append 3 1 8 H5 v4 v5 none) fun v6 H6 =>
  outP CC H6 (w_nil H6 x3) fun v7 H7 =>
  outP CC H7 (w_fieldAddr 0 H7 v7) fun v8 H8 =>
  outP CC H8 (w_store 1 H8 v8 v6) fun _v9 H9 =>
  outP CC H9 (w_int .add H9 x11 (.int .i64 1)) fun v10 H10 =>
  r0 (x3, x10, v10) H10)
  (K x3 H1)
theorem eQ121_tthtbl (K : KT) (r0 : (AV × AV × AV) → AH → Prop) (a : TE) (H : AH) : bQ121 [1,1,0,1,0,0] (kQ121_tthtb K r0) a H = m_pool_Newtthtbl K r0 (a 3) (a 10) (a 11) H :=
  by kernel_rfl
def m_pool_Newtthtb (K : KT) (x3 x10 x11 : AV) (H : AH) : Prop :=
  loopP (fun (r0 : (AV × AV × AV) → AH → Prop) (s : (AV × AV × AV)) (H : AH) => m_pool_Newtthtbl K r0 s.1 s.2.1 s.2.2 H) (x3, x10, x11) H
theorem eQ121_tthtb (K : KT) (a : TE) (H : AH) : bQ121 [1,1,0,1,0] (kQ121_ttht K) a H = m_pool_Newtthtb K (a 3) (a 10) (a 11) H :=
  eLoopK (S := (AV × AV × AV)) (fun a => (a 3, a 10, a 11)) (fun r0 s H => m_pool_Newtthtbl K r0 s.1 s.2.1 s.2.2 H) (by kernel_rfl) (fun r => by kernel_rfl) (eQ121_tthtbl K)
theorem eQ121_ttht (K : KT) (a : TE) (H : AH) : bQ121 [1,1,0,1] (kQ121_tt K) a H = m_pool_Newtthtb K (a 3) (a 10) (a 11) H :=
  eBlockK 0 (by kernel_rfl) (by kernel_rfl) (eQ121_tthtb K a H)
def m_pool_Newtth (K : KT) (x0 x3 : AV) (H : AH) : Prop :=
  outP CC H (w_max2 H x0 (.int .i64 0)) fun v1 H1 =>
  outP CC H1 (w_min2 H1 v1 (.int .i64 1000)) fun v2 H2 =>
  m_pool_Newtthtb K x3 v2 (.int .i64 0) H2
theorem eQ121_tth (K : KT) (a : TE) (H : AH) : bQ121 [1,1,0] (kQ121_tt K) a H = m_pool_Newtth K (a 0) (a 3) H :=
  eSeq (ca := subC (bodyC PP 121) [1,1,0,0]) (by kernel_rfl) (eQ121_ttht K) (by kernel_rfl)
theorem eQ121_tt (K : KT) (a : TE) (H : AH) : bQ121 [1,1] (kQ121 K) a H = m_pool_Newtth K (a 0) (a 3) H :=
  eSeqJ (subC (bodyC PP 121) [1,1,1]) (by kernel_rfl) (by kernel_rfl) (eQ121_tth K a H)
def m_pool_Newt (K : KT) (x0 : AV) (H : AH) : Prop :=
  outP CC H (w_makeMap H none) fun v1 H1 =>
  outP CC H1 (w_build PP 207 H1 [(1, v1)]) fun v2 H2 =>
  outP CC H2 (w_box 207 H2 v2 none) fun v3 H3 =>
  m_pool_Newtth K x0 v3 H3
theorem eQ121_t (K : KT) (a : TE) (H : AH) : bQ121 [1] (kQ121 K) a H = m_pool_Newt K (a 0) H :=
  eSeq (ca := subC (bodyC PP 121) [1,0]) (by kernel_rfl) (eQ121_tt K) (by kernel_rfl)
def m_pool_New (K : KT) (x0 : AV) (H : AH) : Prop :=
  m_pool_Newt K x0 H
theorem eQ121_ (K : KT) (a : TE) (H : AH) : bQ121 [] (kQ121 K) a H = m_pool_New K (a 0) H :=
  eSeq (ca := subC (bodyC PP 121) [0]) (by kernel_rfl) (eQ121_t K) (by kernel_rfl)
theorem m_pool_New_ok (x0 : AV) (H : AH) (K : KT) (h : m_pool_New K x0 H) : CC.call 121 [x0] H K :=
  have h1 : funP PP CC 121 [x0] H K = bQ121 [] (kQ121 K) (argE [x0]) H := by kernel_rfl
  have h2 : m_pool_New K (argE [x0] 0) H = m_pool_New K x0 H := by kernel_rfl
  funP_ok (P := PP) (by kernel_rfl) (by kernel_rfl) ((h1.trans ((eQ121_ K (argE [x0]) H).trans h2)).mpr h)

/-! 122: (*fieldfare/pool.Pool).Size -/
abbrev bQ122 (p : List Nat) (k : KP) : KE := codeP PP CC (subC (bodyC PP 122) p) k
abbrev kQ122 (K : KT) : KP := finP PP (resC PP 122) K
def m_pool_Pool_Sizetttt (K : KT) (x0 x1 x7 : AV) (H : AH) : Prop :=
  outP CC H (w_nil H x0) fun v1 H1 =>
  outP CC H1 (w_fieldAddr 0 H1 v1) fun v2 H2 =>
  outP CC H2 (w_load none H2 v2) fun v3 H3 =>
  outP CC H3 (some (.enter 206 [v3])) fun v4 H4 =>
  outP CC H4 (some (.enter 119 [v4])) fun v5 H5 =>
  outP CC H5 (w_nil H5 x0) fun v6 H6 =>
  outP CC H6 (w_fieldAddr 0 H6 v6) fun v7 H7 =>
  outP CC H7 (w_store 1 H7 v7 v5) fun _v8 H8 =>
  outP CC H8 (w_nil H8 x0) fun v9 H9 =>
  outP CC H9 (w_fieldAddr 1 H9 v9) fun v10 H10 =>
  outP CC H10 (w_load none H10 v10) fun v11 H11 =>
  outP CC H11 (some (.enter 206 [x7])) fun v12 H12 =>
  ckP (reC true (w_load none H12 v10) v11) <|
  outP CC H12 (some (.enter 119 [v12])) fun v13 H13 =>
  ckP (reC true (w_load none H13 v10) v11) <|
  outP CC H13 (w_mapUpdate PP 3 54 H13 v11 x1 v13) fun _v14 H14 =>
  K (.int .i64 0) H14
theorem eQ122_tttt (K : KT) (a : TE) (H : AH) : bQ122 [1,1,1,1] (kQ122 K) a H = m_pool_Pool_Sizetttt K (a 0) (a 1) (a 7) H :=
  by kernel_rfl
def m_pool_Pool_Sizettt (K : KT) (x0 x1 x2 x7 : AV) (H : AH) : Prop :=
  outP CC H (w_int .lss H x2 (.int .i64 0)) fun v1 H1 =>
  condP v1
  (K (.int .i64 2) H1)
  (outP CC H1 (w_len PP 54 H1 x7) fun v2 H2 =>
  outP CC H2 (w_int .sub H2 x2 v2) fun v3 H3 =>
  outP CC H3 (w_nil H3 x0) fun v4 H4 =>
  outP CC H4 (w_fieldAddr 0 H4 v4) fun v5 H5 =>
  outP CC H5 (w_load none H5 v5) fun v6 H6 =>
  outP CC H6 (w_len PP 54 H6 v6) fun v7 H7 =>
  outP CC H7 (w_int .gtr H7 v3 v7) fun v8 H8 =>
  condP v8
  (K (.int .i64 6) H8)
  (outP CC H8 (w_len PP 54 H8 x7) fun v9 H9 =>
  outP CC H9 (w_int .gtr H9 x2 v9) fun v10 H10 =>
  condP v10
  (outP CC H10 (w_len PP 54 H10 x7) fun v11 H11 =>
  outP CC H11 (w_int .sub H11 x2 v11) fun v12 H12 =>
  outP CC H12 (w_nil H12 x0) fun v13 H13 =>
  outP CC H13 (w_fieldAddr 0 H13 v13) fun v14 H14 =>
  outP CC H14 (w_load none H14 v14) fun v15 H15 =>
  outP CC H15 (w_slice (.sl 1) true false H15 v15 none (some v12) none) fun v16 H16 =>
  outP CC H16 (w_append 3 1 8 H16 x7 v16 none) fun v17 H17 =>
  outP CC H17 (w_nil H17 x0) fun v18 H18 =>
  outP CC H18 (w_fieldAddr 0 H18 v18) fun v19 H19 =>
  outP CC H19 (w_load none H19 v19) fun v20 H20 =>
  outP CC H20 (w_slice (.sl 1) false false H20 v20 (some v12) none none) fun v21 H21 =>
  outP CC H21 (w_nil H21 x0) fun v22 H22 =>
  outP CC H22 (w_fieldAddr 0 H22 v22) fun v23 H23 =>
  outP CC H23 (w_store 1 H23 v23 v21) fun _v24 H24 =>
  m_pool_Pool_Sizetttt K x0 x1 v17 H24)
  (outP CC (H10.more 1) (w_nil (H10.more 1) x0) fun v25 H25 =>
  outP CC H25 (w_fieldAddr 0 H25 v25) fun v26 H26 =>
  outP CC H26 (w_load none H26 v26) fun v27 H27 =>
  outP CC H27 (w_slice (.sl 1) false false H27 x7 (some x2) none none) fun v28 H28 =>
  outP CC H28 (w_buildSlice PP 54 2 H28 [(0, v27), (1, v28)] (some (Nat.add H10.next 0))) fun v29 H29 =>
  outP CC H29 (some (.enter 205 [v29])) fun v30 H30 =>
  outP CC H30 (w_nil H30 x0) fun v31 H31 =>
  outP CC H31 (w_fieldAddr 0 H31 v31) fun v32 H32 =>
  outP CC H32 (w_store 1 H32 v32 v30) fun _v33 H33 =>
  outP CC H33 (w_slice (.sl 1) true true H33 x7 none (some x2) (some x2)) fun v34 H34 =>
  m_pool_Pool_Sizetttt K x0 x1 v34 H34)))
theorem eQ122_ttt (K : KT) (a : TE) (H : AH) : bQ122 [1,1,1] (kQ122 K) a H = m_pool_Pool_Sizettt K (a 0) (a 1) (a 2) (a 7) H :=
  eSeq (ca := subC (bodyC PP 122) [1,1,1,0]) (by kernel_rfl) (eQ122_tttt K) (by kernel_rfl)
def m_pool_Pool_Sizett (K : KT) (x0 x1 x2 : AV) (H : AH) : Prop :=
  outP CC H (w_nil H x0) fun v1 H1 =>
  outP CC H1 (w_fieldAddr 1 H1 v1) fun v2 H2 =>
  outP CC H2 (w_load none H2 v2) fun v3 H3 =>
  outP CC H3 (w_lookup PP 3 54 false H3 v3 x1) fun v4 H4 =>
  m_pool_Pool_Sizettt K x0 x1 x2 v4 H4
theorem eQ122_tt (K : KT) (a : TE) (H : AH) : bQ122 [1,1] (kQ122 K) a H = m_pool_Pool_Sizett K (a 0) (a 1) (a 2) H :=
  eSeq (ca := subC (bodyC PP 122) [1,1,0]) (by kernel_rfl) (eQ122_ttt K) (by kernel_rfl)
def m_pool_Pool_Sizet (K : KT) (x0 x1 x2 : AV) (H : AH) : Prop :=
  outP CC H (w_eq PP .eql 110 false true H x0 (.ptr none)) fun v1 H1 =>
  condP v1
  (K (.int .i64 9) H1)
  (m_pool_Pool_Sizett K x0 x1 x2 H1)
theorem eQ122_t (K : KT) (a : TE) (H : AH) : bQ122 [1] (kQ122 K) a H = m_pool_Pool_Sizet K (a 0) (a 1) (a 2) H :=
  eSeq (ca := subC (bodyC PP 122) [1,0]) (by kernel_rfl) (eQ122_tt K) (by kernel_rfl)
def m_pool_Pool_Size (K : KT) (x0 x1 x2 : AV) (H : AH) : Prop :=
  m_pool_Pool_Sizet K x0 x1 x2 H
theorem eQ122_ (K : KT) (a : TE) (H : AH) : bQ122 [] (kQ122 K) a H = m_pool_Pool_Size K (a 0) (a 1) (a 2) H :=
  eSeq (ca := subC (bodyC PP 122) [0]) (by kernel_rfl) (eQ122_t K) (by kernel_rfl)
theorem m_pool_Pool_Size_ok (x0 x1 x2 : AV) (H : AH) (K : KT) (h : m_pool_Pool_Size K x0 x1 x2 H) : CC.call 122 [x0, x1, x2] H K :=
  have h1 : funP PP CC 122 [x0, x1, x2] H K = bQ122 [] (kQ122 K) (argE [x0, x1, x2]) H := by kernel_rfl
  have h2 : m_pool_Pool_Size K (argE [x0, x1, x2] 0) (argE [x0, x1, x2] 1) (argE [x0, x1, x2] 2) H = m_pool_Pool_Size K x0 x1 x2 H := by kernel_rfl
  funP_ok (P := PP) (by kernel_rfl) (by kernel_rfl) ((h1.trans ((eQ122_ K (argE [x0, x1, x2]) H).trans h2)).mpr h)

/-! 375: (*fieldfare/pool.Pool).Of -/
abbrev bQ375 (p : List Nat) (k : KP) : KE := codeP PP CC (subC (bodyC PP 375) p) k
abbrev kQ375 (K : KT) : KP := finP PP (resC PP 375) K
def m_pool_Pool_Of (K : KT) (x0 x1 : AV) (H : AH) : Prop :=
  outP CC H (w_eq PP .eql 110 false true H x0 (.ptr none)) fun v1 H1 =>
  condP v1
  (K (.slice none 0 0 true) H1)
  (outP CC H1 (w_nil H1 x0) fun v2 H2 =>
  outP CC H2 (w_fieldAddr 1 H2 v2) fun v3 H3 =>
  outP CC H3 (w_load none H3 v3) fun v4 H4 =>
  outP CC H4 (w_lookup PP 3 54 false H4 v4 x1) fun v5 H5 =>
  outP CC H5 (some (.enter 181 [v5])) fun v6 H6 =>
  K v6 H6)
theorem eQ375_ (K : KT) (a : TE) (H : AH) : bQ375 [] (kQ375 K) a H = m_pool_Pool_Of K (a 0) (a 1) H :=
  by kernel_rfl
theorem m_pool_Pool_Of_ok (x0 x1 : AV) (H : AH) (K : KT) (h : m_pool_Pool_Of K x0 x1 H) : CC.call 375 [x0, x1] H K :=
  have h1 : funP PP CC 375 [x0, x1] H K = bQ375 [] (kQ375 K) (argE [x0, x1]) H := by kernel_rfl
  have h2 : m_pool_Pool_Of K (argE [x0, x1] 0) (argE [x0, x1] 1) H = m_pool_Pool_Of K x0 x1 H := by kernel_rfl
  funP_ok (P := PP) (by kernel_rfl) (by kernel_rfl) ((h1.trans ((eQ375_ K (argE [x0, x1]) H).trans h2)).mpr h)

/-! 52: (*fieldfare/pool.Pool).Free -/
abbrev bQ52 (p : List Nat) (k : KP) : KE := codeP PP CC (subC (bodyC PP 52) p) k
abbrev kQ52 (K : KT) : KP := finP PP (resC PP 52) K
def m_pool_Pool_Free (K : KT) (x0 : AV) (H : AH) : Prop :=
  outP CC H (w_eq PP .eql 110 false true H x0 (.ptr none)) fun v1 H1 =>
  condP v1
  (K (.int .i64 0) H1)
  (outP CC H1 (w_nil H1 x0) fun v2 H2 =>
  outP CC H2 (w_fieldAddr 0 H2 v2) fun v3 H3 =>
  outP CC H3 (w_load none H3 v3) fun v4 H4 =>
  outP CC H4 (w_len PP 54 H4 v4) fun v5 H5 =>
  K v5 H5)
theorem eQ52_ (K : KT) (a : TE) (H : AH) : bQ52 [] (kQ52 K) a H = m_pool_Pool_Free K (a 0) H :=
  by kernel_rfl
theorem m_pool_Pool_Free_ok (x0 : AV) (H : AH) (K : KT) (h : m_pool_Pool_Free K x0 H) : CC.call 52 [x0] H K :=
  have h1 : funP PP CC 52 [x0] H K = bQ52 [] (kQ52 K) (argE [x0]) H := by kernel_rfl
  have h2 : m_pool_Pool_Free K (argE [x0] 0) H = m_pool_Pool_Free K x0 H := by kernel_rfl
  funP_ok (P := PP) (by kernel_rfl) (by kernel_rfl) ((h1.trans ((eQ52_ K (argE [x0]) H).trans h2)).mpr h)

/-! 87: fieldfare/vect.May -/
abbrev bQ87 (p : List Nat) (k : KP) : KE := codeP PP CC (subC (bodyC PP 87) p) k
abbrev kQ87 (K : KT) : KP := finP PP (resC PP 87) K
def m_vect_May (K : KT) (x0 x1 : AV) (H : AH) : Prop :=
  outP CC H (w_int .lss H x1 (.int .i64 1)) fun v1 H1 =>
  guardP (boolIs false v1) H1 (outP CC H1 (some (.val x1 H1))) fun v2 H2 =>
  guardP (boolIs false v1) H2 (outP CC H2 (w_int .gtr H2 v2 (.int .i64 8))) fun v3 H3 =>
  outP CC H3 (w_pick H3 v1 (.bool true) v3) fun v4 H4 =>
  guardP (boolIs false v4) H4 (outP CC H4 (some (.val x0 H4))) fun v5 H5 =>
  guardP (boolIs false v4) H5 (outP CC H5 (w_len PP 27 H5 v5)) fun v6 H6 =>
  guardP (boolIs false v4) H6 (outP CC H6 (some (.val x1 H6))) fun v7 H7 =>
  guardP (boolIs false v4) H7 (outP CC H7 (w_int .neq H7 v6 v7)) fun v8 H8 =>
  outP CC H8 (w_pick H8 v4 (.bool true) v8) fun v9 H9 =>
  condP v9
  (K (.bool false) H9)
  (outP CC H9 (some (.enter 171 [x0, (.fn (.func 172) [] [])])) fun v10 H10 =>
  outP CC H10 (w_un .not H10 v10) fun v11 H11 =>
  K v11 H11)
theorem eQ87_ (K : KT) (a : TE) (H : AH) : bQ87 [] (kQ87 K) a H = m_vect_May K (a 0) (a 1) H :=
  by kernel_rfl
theorem m_vect_May_ok (x0 x1 : AV) (H : AH) (K : KT) (h : m_vect_May K x0 x1 H) : CC.call 87 [x0, x1] H K :=
  have h1 : funP PP CC 87 [x0, x1] H K = bQ87 [] (kQ87 K) (argE [x0, x1]) H := by kernel_rfl
  have h2 : m_vect_May K (argE [x0, x1] 0) (argE [x0, x1] 1) H = m_vect_May K x0 x1 H := by kernel_rfl
  funP_ok (P := PP) (by kernel_rfl) (by kernel_rfl) ((h1.trans ((eQ87_ K (argE [x0, x1]) H).trans h2)).mpr h)

/-! 171: slices.ContainsFunc[fieldfare/api.Vec,int32] -/
abbrev bQ171 (p : List Nat) (k : KP) : KE := codeP PP CC (subC (bodyC PP 171) p) k
abbrev kQ171 (K : KT) : KP := finP PP (resC PP 171) K
def m_slices_ContainsFunc_api_Vec_int32 (K : KT) (x0 x1 : AV) (H : AH) : Prop :=
  outP CC H (some (.enter 240 [x0, x1])) fun v1 H1 =>
  outP CC H1 (w_int .geq H1 v1 (.int .i64 0)) fun v2 H2 =>
  K v2 H2
theorem eQ171_ (K : KT) (a : TE) (H : AH) : bQ171 [] (kQ171 K) a H = m_slices_ContainsFunc_api_Vec_int32 K (a 0) (a 1) H :=
  by kernel_rfl
theorem m_slices_ContainsFunc_api_Vec_int32_ok (x0 x1 : AV) (H : AH) (K : KT) (h : m_slices_ContainsFunc_api_Vec_int32 K x0 x1 H) : CC.call 171 [x0, x1] H K :=
  have h1 : funP PP CC 171 [x0, x1] H K = bQ171 [] (kQ171 K) (argE [x0, x1]) H := by kernel_rfl
  have h2 : m_slices_ContainsFunc_api_Vec_int32 K (argE [x0, x1] 0) (argE [x0, x1] 1) H = m_slices_ContainsFunc_api_Vec_int32 K x0 x1 H := by kernel_rfl
  funP_ok (P := PP) (by kernel_rfl) (by kernel_rfl) ((h1.trans ((eQ171_ K (argE [x0, x1]) H).trans h2)).mpr h)

/-! 172: fieldfare/vect.May$1 -/
abbrev bQ172 (p : List Nat) (k : KP) : KE := codeP PP CC (subC (bodyC PP 172) p) k
abbrev kQ172 (K : KT) : KP := finP PP (resC PP 172) K
def m_vect_May_1 (K : KT) (x0 : AV) (H : AH) : Prop :=
  outP CC H (w_int .lss H x0 (.int .i32 (-1048576))) fun v1 H1 =>
  guardP (boolIs false v1) H1 (outP CC H1 (some (.val x0 H1))) fun v2 H2 =>
  guardP (boolIs false v1) H2 (outP CC H2 (w_int .gtr H2 v2 (.int .i32 1048576))) fun v3 H3 =>
  outP CC H3 (w_pick H3 v1 (.bool true) v3) fun v4 H4 =>
  K v4 H4
theorem eQ172_ (K : KT) (a : TE) (H : AH) : bQ172 [] (kQ172 K) a H = m_vect_May_1 K (a 0) H :=
  by kernel_rfl
theorem m_vect_May_1_ok (x0 : AV) (H : AH) (K : KT) (h : m_vect_May_1 K x0 H) : CC.call 172 [x0] H K :=
  have h1 : funP PP CC 172 [x0] H K = bQ172 [] (kQ172 K) (argE [x0]) H := by kernel_rfl
  have h2 : m_vect_May_1 K (argE [x0] 0) H = m_vect_May_1 K x0 H := by kernel_rfl
  funP_ok (P := PP) (by kernel_rfl) (by kernel_rfl) ((h1.trans ((eQ172_ K (argE [x0]) H).trans h2)).mpr h)

/-! 240: slices.IndexFunc[fieldfare/api.Vec,int32] -/
abbrev bQ240 (p : List Nat) (k : KP) : KE := codeP PP CC (subC (bodyC PP 240) p) k
abbrev kQ240 (K : KT) : KP := finP PP (resC PP 240) K
abbrev kQ240_t (K : KT) : KP := exP (bQ240 [1,1] (kQ240 K)) (kQ240 K)
abbrev kQ240_tht (K : KT) : KP := blockP 0 (kQ240_t K)
abbrev kQ240_thtb (K : KT) (r0 : (AV × AV × AV × AV) → AH → Prop) : KP := exP (fun (a : TE) (H : AH) => r0 (a 0, a 1, a 7, a 8) H) (kQ240_tht K)
def m_slices_IndexFunc_api_Vec_int32thtbl (K : KT) (r0 : (AV × AV × AV × AV) → AH → Prop) (x0 x1 x7 x8 : AV) (H : AH) : Prop :=
  outP CC H (w_int .lss H x8 x7) fun v1 H1 =>
  condP v1
  (outP CC H1 (w_indexAddr (.sl 1) H1 x0 x8) fun v2 H2 =>
  outP CC H2 (w_load none H2 v2) fun v3 H3 =>
  outP CC H3 (callV [v3] x1) fun v4 H4 =>
  condP v4
  (K x8 H4)
  (outP CC H4 (w_int .add H4 x8 (.int .i64 1)) fun v5 H5 =>
  r0 (x0, x1, x7, v5) H5))
  (K (.int .i64 (-1)) H1)
theorem eQ240_thtbl (K : KT) (r0 : (AV × AV × AV × AV) → AH → Prop) (a : TE) (H : AH) : bQ240 [1,0,1,0,0] (kQ240_thtb K r0) a H = m_slices_IndexFunc_api_Vec_int32thtbl K r0 (a 0) (a 1) (a 7) (a 8) H :=
  by kernel_rfl
def m_slices_IndexFunc_api_Vec_int32thtb (K : KT) (x0 x1 x7 x8 : AV) (H : AH) : Prop :=
  loopP (fun (r0 : (AV × AV × AV × AV) → AH → Prop) (s : (AV × AV × AV × AV)) (H : AH) => m_slices_IndexFunc_api_Vec_int32thtbl K r0 s.1 s.2.1 s.2.2.1 s.2.2.2 H) (x0, x1, x7, x8) H
theorem eQ240_thtb (K : KT) (a : TE) (H : AH) : bQ240 [1,0,1,0] (kQ240_tht K) a H = m_slices_IndexFunc_api_Vec_int32thtb K (a 0) (a 1) (a 7) (a 8) H :=
  eLoopK (S := (AV × AV × AV × AV)) (fun a => (a 0, a 1, a 7, a 8)) (fun r0 s H => m_slices_IndexFunc_api_Vec_int32thtbl K r0 s.1 s.2.1 s.2.2.1 s.2.2.2 H) (by kernel_rfl) (fun r => by kernel_rfl) (eQ240_thtbl K)
theorem eQ240_tht (K : KT) (a : TE) (H : AH) : bQ240 [1,0,1] (kQ240_t K) a H = m_slices_IndexFunc_api_Vec_int32thtb K (a 0) (a 1) (a 7) (a 8) H :=
  eBlockK 0 (by kernel_rfl) (by kernel_rfl) (eQ240_thtb K a H)
def m_slices_IndexFunc_api_Vec_int32th (K : KT) (x0 x1 : AV) (H : AH) : Prop :=
  outP CC H (w_len PP 27 H x0) fun v1 H1 =>
  m_slices_IndexFunc_api_Vec_int32thtb K x0 x1 v1 (.int .i64 0) H1
theorem eQ240_th (K : KT) (a : TE) (H : AH) : bQ240 [1,0] (kQ240_t K) a H = m_slices_IndexFunc_api_Vec_int32th K (a 0) (a 1) H :=
  eSeq (ca := subC (bodyC PP 240) [1,0,0]) (by kernel_rfl) (eQ240_tht K) (by kernel_rfl)
theorem eQ240_t (K : KT) (a : TE) (H : AH) : bQ240 [1] (kQ240 K) a H = m_slices_IndexFunc_api_Vec_int32th K (a 0) (a 1) H :=
  eSeqJ (subC (bodyC PP 240) [1,1]) (by kernel_rfl) (by kernel_rfl) (eQ240_th K a H)
def m_slices_IndexFunc_api_Vec_int32 (K : KT) (x0 x1 : AV) (H : AH) : Prop :=
  m_slices_IndexFunc_api_Vec_int32th K x0 x1 H
theorem eQ240_ (K : KT) (a : TE) (H : AH) : bQ240 [] (kQ240 K) a H = m_slices_IndexFunc_api_Vec_int32 K (a 0) (a 1) H :=
  eSeq (ca := subC (bodyC PP 240) [0]) (by kernel_rfl) (eQ240_t K) (by kernel_rfl)
theorem m_slices_IndexFunc_api_Vec_int32_ok (x0 x1 : AV) (H : AH) (K : KT) (h : m_slices_IndexFunc_api_Vec_int32 K x0 x1 H) : CC.call 240 [x0, x1] H K :=
  have h1 : funP PP CC 240 [x0, x1] H K = bQ240 [] (kQ240 K) (argE [x0, x1]) H := by kernel_rfl
  have h2 : m_slices_IndexFunc_api_Vec_int32 K (argE [x0, x1] 0) (argE [x0, x1] 1) H = m_slices_IndexFunc_api_Vec_int32 K x0 x1 H := by kernel_rfl
  funP_ok (P := PP) (by kernel_rfl) (by kernel_rfl) ((h1.trans ((eQ240_ K (argE [x0, x1]) H).trans h2)).mpr h)

/-! 149: fieldfare/vect.Copy -/
abbrev bQ149 (p : List Nat) (k : KP) : KE := codeP PP CC (subC (bodyC PP 149) p) k
abbrev kQ149 (K : KT) : KP := finP PP (resC PP 149) K
def m_vect_Copy (K : KT) (x0 : AV) (H : AH) : Prop :=
  outP CC H (some (.enter 219 [x0])) fun v1 H1 =>
  K v1 H1
theorem eQ149_ (K : KT) (a : TE) (H : AH) : bQ149 [] (kQ149 K) a H = m_vect_Copy K (a 0) H :=
  by kernel_rfl
theorem m_vect_Copy_ok (x0 : AV) (H : AH) (K : KT) (h : m_vect_Copy K x0 H) : CC.call 149 [x0] H K :=
  have h1 : funP PP CC 149 [x0] H K = bQ149 [] (kQ149 K) (argE [x0]) H := by kernel_rfl
  have h2 : m_vect_Copy K (argE [x0] 0) H = m_vect_Copy K x0 H := by kernel_rfl
  funP_ok (P := PP) (by kernel_rfl) (by kernel_rfl) ((h1.trans ((eQ149_ K (argE [x0]) H).trans h2)).mpr h)

/-! 219: slices.Clone[fieldfare/api.Vec,int32] -/
abbrev bQ219 (p : List Nat) (k : KP) : KE := codeP PP CC (subC (bodyC PP 219) p) k
abbrev kQ219 (K : KT) : KP := finP PP (resC PP 219) K
def m_slices_Clone_api_Vec_int32 (K : KT) (x0 : AV) (H : AH) : Prop :=
  outP CC H (w_eq PP .eql 27 false true H x0 (.slice none 0 0 true)) fun v1 H1 =>
  condP v1
  (K (.slice none 0 0 true) H1)
  (outP CC H1 (w_buildSlice PP 21 0 H1 [] none) fun v2 H2 =>
  outP CC H2 (w_append 21 1 4 H2 v2 x0 none) fun v3 H3 =>
  K v3 H3)
theorem eQ219_ (K : KT) (a : TE) (H : AH) : bQ219 [] (kQ219 K) a H = m_slices_Clone_api_Vec_int32 K (a 0) H :=
  by kernel_rfl
theorem m_slices_Clone_api_Vec_int32_ok (x0 : AV) (H : AH) (K : KT) (h : m_slices_Clone_api_Vec_int32 K x0 H) : CC.call 219 [x0] H K :=
  have h1 : funP PP CC 219 [x0] H K = bQ219 [] (kQ219 K) (argE [x0]) H := by kernel_rfl
  have h2 : m_slices_Clone_api_Vec_int32 K (argE [x0] 0) H = m_slices_Clone_api_Vec_int32 K x0 H := by kernel_rfl
  funP_ok (P := PP) (by kernel_rfl) (by kernel_rfl) ((h1.trans ((eQ219_ K (argE [x0]) H).trans h2)).mpr h)

/-! 12: fieldfare/fail.Code -/
abbrev bQ12 (p : List Nat) (k : KP) : KE := codeP PP CC (subC (bodyC PP 12) p) k
abbrev kQ12 (K : KT) : KP := finP PP (resC PP 12) K
def m_fail_Code (K : KT) (x0 : AV) (H : AH) : Prop :=
  outP CC H (w_eq PP .eql 36 false true H x0 .nilIface) fun v1 H1 =>
  condP v1
  (K (.int .i64 0) H1)
  (outP CC H1 (w_alloc 44 [(.int .i64 0)] H1 none) fun v2 H2 =>
  outP CC H2 (some (.val (.iface 98 v2) H2)) fun v3 H3 =>
  outP CC H3 (some (.enter 41 [x0, v3])) fun v4 H4 =>
  outP CC H4 (w_un .not H4 v4) fun v5 H5 =>
  condP v5
  (K (.int .i64 1) H5)
  (outP CC H5 (w_load none H5 v2) fun v6 H6 =>
  K v6 H6))
theorem eQ12_ (K : KT) (a : TE) (H : AH) : bQ12 [] (kQ12 K) a H = m_fail_Code K (a 0) H :=
  by kernel_rfl
theorem m_fail_Code_ok (x0 : AV) (H : AH) (K : KT) (h : m_fail_Code K x0 H) : CC.call 12 [x0] H K :=
  have h1 : funP PP CC 12 [x0] H K = bQ12 [] (kQ12 K) (argE [x0]) H := by kernel_rfl
  have h2 : m_fail_Code K (argE [x0] 0) H = m_fail_Code K x0 H := by kernel_rfl
  funP_ok (P := PP) (by kernel_rfl) (by kernel_rfl) ((h1.trans ((eQ12_ K (argE [x0]) H).trans h2)).mpr h)

/-! 76: fieldfare/fail.At -/
abbrev bQ76 (p : List Nat) (k : KP) : KE := codeP PP CC (subC (bodyC PP 76) p) k
abbrev kQ76 (K : KT) : KP := finP PP (resC PP 76) K
def m_fail_At (K : KT) (x0 x1 : AV) (H : AH) : Prop :=
  outP CC H (w_eq PP .eql 36 false true H x1 .nilIface) fun v1 H1 =>
  guardP (boolIs false v1) H1 (outP CC H1 (some (.val x1 H1))) fun v2 H2 =>
  guardP (boolIs false v1) H2 (outP CC H2 (some (.val (.iface 44 (.int .i64 0)) H2))) fun v3 H3 =>
  guardP (boolIs false v1) H3 (outP CC H3 (w_eq PP .eql 36 false false H3 v2 v3)) fun v4 H4 =>
  outP CC H4 (w_pick H4 v1 (.bool true) v4) fun v5 H5 =>
  condP v5
  (K .nilIface H5)
  (outP CC H5 (w_build PP 233 H5 [(0, x0), (1, x1)]) fun v6 H6 =>
  outP CC H6 (w_box 233 H6 v6 none) fun v7 H7 =>
  outP CC H7 (some (.val (.iface 231 v7) H7)) fun v8 H8 =>
  K v8 H8)
theorem eQ76_ (K : KT) (a : TE) (H : AH) : bQ76 [] (kQ76 K) a H = m_fail_At K (a 0) (a 1) H :=
  by kernel_rfl
theorem m_fail_At_ok (x0 x1 : AV) (H : AH) (K : KT) (h : m_fail_At K x0 x1 H) : CC.call 76 [x0, x1] H K :=
  have h1 : funP PP CC 76 [x0, x1] H K = bQ76 [] (kQ76 K) (argE [x0, x1]) H := by kernel_rfl
  have h2 : m_fail_At K (argE [x0, x1] 0) (argE [x0, x1] 1) H = m_fail_At K x0 x1 H := by kernel_rfl
  funP_ok (P := PP) (by kernel_rfl) (by kernel_rfl) ((h1.trans ((eQ76_ K (argE [x0, x1]) H).trans h2)).mpr h)

end
end Go.Ab
