/- What functions do, said as what the evaluator does. Printed by a program. -/
import Derived.Test.YtcehnjmpllhieaaGreatDoorBeg
import Derived.Test.YtcehnjmpllhieaaGreatDoorMir
namespace Go.Ab
noncomputable section
open Go.Proofs
set_option maxRecDepth 100000



/-! 106: fieldfare/vect.Eq -/
abbrev b106 (p : List Nat) (k : KP) : KE := codeP PP CC (subC (bodyC PP 106) p) k
abbrev k106 (K : KT) : KP := finP PP (resC PP 106) K
def m_vect_Eq (K : KT) (x0 x1 : AV) (H : AH) : Prop :=
  outP CC H (some (.enter 194 [x0, x1])) fun v1 H1 =>
  K v1 H1
theorem e106_ (K : KT) (a : TE) (H : AH) : b106 [] (k106 K) a H = m_vect_Eq K (a 0) (a 1) H :=
  by kernel_rfl
theorem m_vect_Eq_ok (x0 x1 : AV) (H : AH) (K : KT) (h : m_vect_Eq K x0 x1 H) : CC.call 106 [x0, x1] H K :=
  okM (P := PP) (by kernel_rfl) (by kernel_rfl) (by kernel_rfl) ((e106_ K (argE [x0, x1]) H).trans (by kernel_rfl)) h

/-! 194: slices.Equal[fieldfare/api.Vec,int32] -/
abbrev b194 (p : List Nat) (k : KP) : KE := codeP PP CC (subC (bodyC PP 194) p) k
abbrev k194 (K : KT) : KP := finP PP (resC PP 194) K
abbrev k194_tt (K : KT) : KP := exP (b194 [1,1,1] (k194 K)) (k194 K)
abbrev k194_ttht (K : KT) : KP := blockP 0 (k194_tt K)
abbrev k194_tthtb (K : KT) (r0 : (AV × AV × AV × AV) → AH → Prop) : KP := exP (fun (a : TE) (H : AH) => r0 (a 0, a 1, a 12, a 13) H) (k194_ttht K)
def m_slices_Equal_api_Vec_int32tthtbl (K : KT) (r0 : (AV × AV × AV × AV) → AH → Prop) (x0 x1 x12 x13 : AV) (H : AH) : Prop :=
  outP CC H (w_int .lss H x13 x12) fun v1 H1 =>
  condP v1
  (outP CC H1 (w_indexAddr (.sl 1) H1 x0 x13) fun v2 H2 =>
  outP CC H2 (w_load none H2 v2) fun v3 H3 =>
  outP CC H3 (w_indexAddr (.sl 1) H3 x1 x13) fun v4 H4 =>
  outP CC H4 (w_load none H4 v4) fun v5 H5 =>
  outP CC H5 (w_int .neq H5 v3 v5) fun v6 H6 =>
  condP v6
  (K (.bool false) H6)
  (outP CC H6 (w_int .add H6 x13 (.int .i64 1)) fun v7 H7 =>
  r0 (x0, x1, x12, v7) H7))
  (K (.bool true) H1)
theorem e194_tthtbl (K : KT) (r0 : (AV × AV × AV × AV) → AH → Prop) (a : TE) (H : AH) : b194 [1,1,0,1,0,0] (k194_tthtb K r0) a H = m_slices_Equal_api_Vec_int32tthtbl K r0 (a 0) (a 1) (a 12) (a 13) H :=
  by kernel_rfl
def m_slices_Equal_api_Vec_int32tthtb (K : KT) (x0 x1 x12 x13 : AV) (H : AH) : Prop :=
  loopP (fun (r0 : (AV × AV × AV × AV) → AH → Prop) (s : (AV × AV × AV × AV)) (H : AH) => m_slices_Equal_api_Vec_int32tthtbl K r0 s.1 s.2.1 s.2.2.1 s.2.2.2 H) (x0, x1, x12, x13) H
theorem e194_tthtb (K : KT) (a : TE) (H : AH) : b194 [1,1,0,1,0] (k194_ttht K) a H = m_slices_Equal_api_Vec_int32tthtb K (a 0) (a 1) (a 12) (a 13) H :=
  eLoop (S := (AV × AV × AV × AV)) (fun a => (a 0, a 1, a 12, a 13)) (fun r0 s H => m_slices_Equal_api_Vec_int32tthtbl K r0 s.1 s.2.1 s.2.2.1 s.2.2.2 H) (by kernel_rfl) (e194_tthtbl K)
theorem e194_ttht (K : KT) (a : TE) (H : AH) : b194 [1,1,0,1] (k194_tt K) a H = m_slices_Equal_api_Vec_int32tthtb K (a 0) (a 1) (a 12) (a 13) H :=
  eBlock (by kernel_rfl) (e194_tthtb K a H)
abbrev k194_tth (K : KT) : KP := exP (fun (a : TE) (H : AH) => m_slices_Equal_api_Vec_int32tthtb K (a 0) (a 1) (a 12) (a 13) H) (k194_tt K)
def m_slices_Equal_api_Vec_int32tth (K : KT) (x0 x1 : AV) (H : AH) : Prop :=
  outP CC H (w_len PP 23 H x0) fun v1 H1 =>
  m_slices_Equal_api_Vec_int32tthtb K x0 x1 v1 (.int .i64 0) H1
theorem e194_tth (K : KT) (a : TE) (H : AH) : b194 [1,1,0] (k194_tt K) a H = m_slices_Equal_api_Vec_int32tth K (a 0) (a 1) H :=
  eSeq (ca := subC (bodyC PP 194) [1,1,0,0]) (by kernel_rfl) (e194_ttht K) (by kernel_rfl)
theorem e194_tt (K : KT) (a : TE) (H : AH) : b194 [1,1] (k194 K) a H = m_slices_Equal_api_Vec_int32tth K (a 0) (a 1) H :=
  eSeq0 (by kernel_rfl) (e194_tth K a H)
abbrev k194_t (K : KT) : KP := exP (fun (a : TE) (H : AH) => m_slices_Equal_api_Vec_int32tth K (a 0) (a 1) H) (k194 K)
def m_slices_Equal_api_Vec_int32t (K : KT) (x0 x1 : AV) (H : AH) : Prop :=
  outP CC H (w_len PP 23 H x0) fun v1 H1 =>
  outP CC H1 (w_len PP 23 H1 x1) fun v2 H2 =>
  outP CC H2 (w_int .neq H2 v1 v2) fun v3 H3 =>
  condP v3
  (K (.bool false) H3)
  (m_slices_Equal_api_Vec_int32tth K x0 x1 H3)
theorem e194_t (K : KT) (a : TE) (H : AH) : b194 [1] (k194 K) a H = m_slices_Equal_api_Vec_int32t K (a 0) (a 1) H :=
  eSeq (ca := subC (bodyC PP 194) [1,0]) (by kernel_rfl) (e194_tt K) (by kernel_rfl)
abbrev k194_ (K : KT) : KP := exP (fun (a : TE) (H : AH) => m_slices_Equal_api_Vec_int32t K (a 0) (a 1) H) (k194 K)
def m_slices_Equal_api_Vec_int32 (K : KT) (x0 x1 : AV) (H : AH) : Prop :=
  m_slices_Equal_api_Vec_int32t K x0 x1 H
theorem e194_ (K : KT) (a : TE) (H : AH) : b194 [] (k194 K) a H = m_slices_Equal_api_Vec_int32 K (a 0) (a 1) H :=
  eSeq (ca := subC (bodyC PP 194) [0]) (by kernel_rfl) (e194_t K) (by kernel_rfl)
theorem m_slices_Equal_api_Vec_int32_ok (x0 x1 : AV) (H : AH) (K : KT) (h : m_slices_Equal_api_Vec_int32 K x0 x1 H) : CC.call 194 [x0, x1] H K :=
  okM (P := PP) (by kernel_rfl) (by kernel_rfl) (by kernel_rfl) ((e194_ K (argE [x0, x1]) H).trans (by kernel_rfl)) h

end
end Go.Ab
