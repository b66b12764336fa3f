/- What functions do, said as what the evaluator does. Printed by a program. -/
import Derived.Test.YtcehnjmpllhieaaGreatDoorBeg
import Derived.Test.YtcehnjmpllhieaaGreatDoorMir2
namespace Go.Ab
noncomputable section
open Go.Proofs
set_option maxRecDepth 100000



/-! 46: fieldfare/req.is -/
abbrev b46 (p : List Nat) (k : KP) : KE := codeP PP CC (subC (bodyC PP 46) p) k
abbrev k46 (K : KT) : KP := finP PP (resC PP 46) K
def m_req_is (K : KT) (x0 : AV) (H : AH) : Prop :=
  outP CC H (w_int .geq H x0 (.int .i64 1)) fun v1 H1 =>
  guardP (boolIs true v1) H1 (outP CC H1 (some (.val x0 H1))) fun v2 H2 =>
  guardP (boolIs true v1) H2 (outP CC H2 (w_int .leq H2 v2 (.int .i64 15))) fun v3 H3 =>
  outP CC H3 (w_pick H3 v1 v3 (.bool false)) fun v4 H4 =>
  K v4 H4
theorem e46_ (K : KT) (a : TE) (H : AH) : b46 [] (k46 K) a H = m_req_is K (a 0) H :=
  by kernel_rfl
theorem m_req_is_ok (x0 : AV) (H : AH) (K : KT) (h : m_req_is K x0 H) : CC.call 46 [x0] H K :=
  have h1 : funP PP CC 46 [x0] H K = b46 [] (k46 K) (argE [x0]) H := by kernel_rfl
  have h2 : m_req_is K (argE [x0] 0) H = m_req_is K x0 H := by kernel_rfl
  funP_ok (P := PP) (by kernel_rfl) (by kernel_rfl) ((h1.trans ((e46_ K (argE [x0]) H).trans h2)).mpr h)

/-! 48: fieldfare/req.bare -/
abbrev b48 (p : List Nat) (k : KP) : KE := codeP PP CC (subC (bodyC PP 48) p) k
abbrev k48 (K : KT) : KP := finP PP (resC PP 48) K
abbrev k48_tt (K : KT) : KP := exP (b48 [1,1,1] (k48 K)) (k48 K)
abbrev k48_ttht (K : KT) : KP := blockP 0 (k48_tt K)
def m_req_baretthtbt (K : KT) (x1 x2 x3 : AV) (H : AH) : Prop :=
  outP CC H (w_fieldAddr 1 H x1) fun v1 H1 =>
  outP CC H1 (w_load none H1 v1) fun v2 H2 =>
  outP CC H2 (w_fieldAddr 7 H2 x1) fun v3 H3 =>
  outP CC H3 (w_load none H3 v3) fun v4 H4 =>
  outP CC H4 (w_fieldAddr 9 H4 x1) fun v5 H5 =>
  outP CC H5 (w_load none H5 v5) fun v6 H6 =>
  outP CC H6 (w_fieldAddr 1 H6 x3) fun v7 H7 =>
  outP CC H7 (w_store 1 H7 v7 v2) fun _v8 H8 =>
  ckP (reC true (w_load none H8 v3) v4) <|
  ckP (reC true (w_load none H8 v5) v6) <|
  outP CC H8 (w_fieldAddr 7 H8 x3) fun v9 H9 =>
  outP CC H9 (w_store 1 H9 v9 v4) fun _v10 H10 =>
  ckP (reC true (w_load none H10 v5) v6) <|
  outP CC H10 (w_fieldAddr 9 H10 x3) fun v11 H11 =>
  outP CC H11 (w_store 1 H11 v11 v6) fun _v12 H12 =>
  outP CC H12 (w_load (some 11) H12 x3) fun v13 H13 =>
  outP CC H13 (w_store 11 H13 x2 v13) fun _v14 H14 =>
  endP (resR (partF (some (some 11))) H14 x2 (some [])) K H14
theorem e48_tthtbt (K : KT) (a : TE) (H : AH) : b48 [1,1,0,1,0,1] (k48_ttht K) a H = m_req_baretthtbt K (a 1) (a 2) (a 3) H :=
  by kernel_rfl
abbrev k48_tthtb (K : KT) : KP := exP (fun (a : TE) (H : AH) => m_req_baretthtbt K (a 1) (a 2) (a 3) H) (k48_ttht K)
abbrev k48_tthtbh (K : KT) : KP := blockP 8 (k48_tthtb K)
def m_req_baretthtbhbt (K : KT) (x1 x2 x3 : AV) (H : AH) : Prop :=
  outP CC H (w_fieldAddr 10 H x1) fun v1 H1 =>
  outP CC H1 (w_load none H1 v1) fun v2 H2 =>
  outP CC H2 (w_fieldAddr 10 H2 x3) fun v3 H3 =>
  outP CC H3 (w_store 1 H3 v3 v2) fun _v4 H4 =>
  outP CC H4 (w_load (some 11) H4 x3) fun v5 H5 =>
  outP CC H5 (w_store 11 H5 x2 v5) fun _v6 H6 =>
  endP (resR (partF (some (some 11))) H6 x2 (some [])) K H6
theorem e48_tthtbhbt (K : KT) (a : TE) (H : AH) : b48 [1,1,0,1,0,0,0,1] (k48_tthtbh K) a H = m_req_baretthtbhbt K (a 1) (a 2) (a 3) H :=
  by kernel_rfl
abbrev k48_tthtbhb (K : KT) : KP := exP (fun (a : TE) (H : AH) => m_req_baretthtbhbt K (a 1) (a 2) (a 3) H) (k48_tthtbh K)
abbrev k48_tthtbhbh (K : KT) : KP := blockP 7 (k48_tthtbhb K)
def m_req_baretthtbhbhbt (K : KT) (x1 x2 x3 : AV) (H : AH) : Prop :=
  outP CC H (w_fieldAddr 2 H x1) fun v1 H1 =>
  outP CC H1 (w_load none H1 v1) fun v2 H2 =>
  outP CC H2 (w_fieldAddr 1 H2 x1) fun v3 H3 =>
  outP CC H3 (w_load none H3 v3) fun v4 H4 =>
  outP CC H4 (w_fieldAddr 2 H4 x3) fun v5 H5 =>
  outP CC H5 (w_store 1 H5 v5 v2) fun _v6 H6 =>
  ckP (reC true (w_load none H6 v3) v4) <|
  outP CC H6 (w_fieldAddr 1 H6 x3) fun v7 H7 =>
  outP CC H7 (w_store 1 H7 v7 v4) fun _v8 H8 =>
  outP CC H8 (w_load (some 11) H8 x3) fun v9 H9 =>
  outP CC H9 (w_store 11 H9 x2 v9) fun _v10 H10 =>
  endP (resR (partF (some (some 11))) H10 x2 (some [])) K H10
theorem e48_tthtbhbhbt (K : KT) (a : TE) (H : AH) : b48 [1,1,0,1,0,0,0,0,0,1] (k48_tthtbhbh K) a H = m_req_baretthtbhbhbt K (a 1) (a 2) (a 3) H :=
  by kernel_rfl
abbrev k48_tthtbhbhb (K : KT) : KP := exP (fun (a : TE) (H : AH) => m_req_baretthtbhbhbt K (a 1) (a 2) (a 3) H) (k48_tthtbhbh K)
abbrev k48_tthtbhbhbh (K : KT) : KP := blockP 6 (k48_tthtbhbhb K)
def m_req_baretthtbhbhbhbt (K : KT) (x1 x2 x3 : AV) (H : AH) : Prop :=
  outP CC H (w_fieldAddr 1 H x1) fun v1 H1 =>
  outP CC H1 (w_load none H1 v1) fun v2 H2 =>
  outP CC H2 (w_fieldAddr 3 H2 x1) fun v3 H3 =>
  outP CC H3 (w_load none H3 v3) fun v4 H4 =>
  outP CC H4 (w_fieldAddr 1 H4 x3) fun v5 H5 =>
  outP CC H5 (w_store 1 H5 v5 v2) fun _v6 H6 =>
  ckP (reC true (w_load none H6 v3) v4) <|
  outP CC H6 (w_fieldAddr 3 H6 x3) fun v7 H7 =>
  outP CC H7 (w_store 1 H7 v7 v4) fun _v8 H8 =>
  outP CC H8 (w_load (some 11) H8 x3) fun v9 H9 =>
  outP CC H9 (w_store 11 H9 x2 v9) fun _v10 H10 =>
  endP (resR (partF (some (some 11))) H10 x2 (some [])) K H10
theorem e48_tthtbhbhbhbt (K : KT) (a : TE) (H : AH) : b48 [1,1,0,1,0,0,0,0,0,0,0,1] (k48_tthtbhbhbh K) a H = m_req_baretthtbhbhbhbt K (a 1) (a 2) (a 3) H :=
  by kernel_rfl
abbrev k48_tthtbhbhbhb (K : KT) : KP := exP (fun (a : TE) (H : AH) => m_req_baretthtbhbhbhbt K (a 1) (a 2) (a 3) H) (k48_tthtbhbhbh K)
abbrev k48_tthtbhbhbhbh (K : KT) : KP := blockP 5 (k48_tthtbhbhbhb K)
def m_req_baretthtbhbhbhbhbt (K : KT) (x1 x2 x3 : AV) (H : AH) : Prop :=
  outP CC H (w_fieldAddr 7 H x1) fun v1 H1 =>
  outP CC H1 (w_load none H1 v1) fun v2 H2 =>
  outP CC H2 (w_fieldAddr 8 H2 x1) fun v3 H3 =>
  outP CC H3 (w_load none H3 v3) fun v4 H4 =>
  outP CC H4 (w_fieldAddr 10 H4 x1) fun v5 H5 =>
  outP CC H5 (w_load none H5 v5) fun v6 H6 =>
  outP CC H6 (w_fieldAddr 7 H6 x3) fun v7 H7 =>
  outP CC H7 (w_store 1 H7 v7 v2) fun _v8 H8 =>
  ckP (reC true (w_load none H8 v3) v4) <|
  ckP (reC true (w_load none H8 v5) v6) <|
  outP CC H8 (w_fieldAddr 8 H8 x3) fun v9 H9 =>
  outP CC H9 (w_store 1 H9 v9 v4) fun _v10 H10 =>
  ckP (reC true (w_load none H10 v5) v6) <|
  outP CC H10 (w_fieldAddr 10 H10 x3) fun v11 H11 =>
  outP CC H11 (w_store 1 H11 v11 v6) fun _v12 H12 =>
  m_req_baretthtbhbhbhbt K x1 x2 x3 H12
theorem e48_tthtbhbhbhbhbt (K : KT) (a : TE) (H : AH) : b48 [1,1,0,1,0,0,0,0,0,0,0,0,0,1] (k48_tthtbhbhbhbh K) a H = m_req_baretthtbhbhbhbhbt K (a 1) (a 2) (a 3) H :=
  by kernel_rfl
abbrev k48_tthtbhbhbhbhb (K : KT) : KP := exP (fun (a : TE) (H : AH) => m_req_baretthtbhbhbhbhbt K (a 1) (a 2) (a 3) H) (k48_tthtbhbhbhbh K)
abbrev k48_tthtbhbhbhbhbh (K : KT) : KP := blockP 4 (k48_tthtbhbhbhbhb K)
def m_req_baretthtbhbhbhbhbhbt (K : KT) (x1 x2 x3 : AV) (H : AH) : Prop :=
  outP CC H (w_fieldAddr 1 H x1) fun v1 H1 =>
  outP CC H1 (w_load none H1 v1) fun v2 H2 =>
  outP CC H2 (w_fieldAddr 1 H2 x3) fun v3 H3 =>
  outP CC H3 (w_store 1 H3 v3 v2) fun _v4 H4 =>
  outP CC H4 (w_load (some 11) H4 x3) fun v5 H5 =>
  outP CC H5 (w_store 11 H5 x2 v5) fun _v6 H6 =>
  endP (resR (partF (some (some 11))) H6 x2 (some [])) K H6
theorem e48_tthtbhbhbhbhbhbt (K : KT) (a : TE) (H : AH) : b48 [1,1,0,1,0,0,0,0,0,0,0,0,0,0,0,1] (k48_tthtbhbhbhbhbh K) a H = m_req_baretthtbhbhbhbhbhbt K (a 1) (a 2) (a 3) H :=
  by kernel_rfl
abbrev k48_tthtbhbhbhbhbhb (K : KT) : KP := exP (fun (a : TE) (H : AH) => m_req_baretthtbhbhbhbhbhbt K (a 1) (a 2) (a 3) H) (k48_tthtbhbhbhbhbh K)
abbrev k48_tthtbhbhbhbhbhbh (K : KT) : KP := blockP 3 (k48_tthtbhbhbhbhbhb K)
def m_req_baretthtbhbhbhbhbhbhbt (K : KT) (x1 x2 x3 : AV) (H : AH) : Prop :=
  outP CC H (w_fieldAddr 6 H x1) fun v1 H1 =>
  outP CC H1 (w_load none H1 v1) fun v2 H2 =>
  outP CC H2 (w_fieldAddr 6 H2 x3) fun v3 H3 =>
  outP CC H3 (w_store 1 H3 v3 v2) fun _v4 H4 =>
  m_req_baretthtbhbhbhbhbhbt K x1 x2 x3 H4
theorem e48_tthtbhbhbhbhbhbhbt (K : KT) (a : TE) (H : AH) : b48 [1,1,0,1,0,0,0,0,0,0,0,0,0,0,0,0,0,1] (k48_tthtbhbhbhbhbhbh K) a H = m_req_baretthtbhbhbhbhbhbhbt K (a 1) (a 2) (a 3) H :=
  by kernel_rfl
abbrev k48_tthtbhbhbhbhbhbhb (K : KT) : KP := exP (fun (a : TE) (H : AH) => m_req_baretthtbhbhbhbhbhbhbt K (a 1) (a 2) (a 3) H) (k48_tthtbhbhbhbhbhbh K)
abbrev k48_tthtbhbhbhbhbhbhbh (K : KT) : KP := blockP 2 (k48_tthtbhbhbhbhbhbhb K)
abbrev k48_tthtbhbhbhbhbhbhbhb (K : KT) : KP := exP (b48 [1,1,0,1,0,0,0,0,0,0,0,0,0,0,0,0,0,0,0,1] (k48_tthtbhbhbhbhbhbhbh K)) (k48_tthtbhbhbhbhbhbhbh K)
abbrev k48_tthtbhbhbhbhbhbhbhbh (K : KT) : KP := blockP 1 (k48_tthtbhbhbhbhbhbhbhb K)
abbrev k48_tthtbhbhbhbhbhbhbhbhb (K : KT) : KP := exP (b48 [1,1,0,1,0,0,0,0,0,0,0,0,0,0,0,0,0,0,0,0,0,1] (k48_tthtbhbhbhbhbhbhbhbh K)) (k48_tthtbhbhbhbhbhbhbhbh K)
def m_req_baretthtbhbhbhbhbhbhbhbhbhttttt (K : KT) (x1 x2 x3 x8 : AV) (H : AH) : Prop :=
  outP CC H (w_int .eql H x8 (.int .i64 5)) fun v1 H1 =>
  condP v1
  (m_req_baretthtbhbhbt K x1 x2 x3 H1)
  (outP CC H1 (w_int .eql H1 x8 (.int .i64 10)) fun v2 H2 =>
  condP v2
  (m_req_baretthtbhbt K x1 x2 x3 H2)
  (outP CC H2 (w_int .eql H2 x8 (.int .i64 13)) fun v3 H3 =>
  condP v3
  (m_req_baretthtbt K x1 x2 x3 H3)
  (outP CC H3 (w_load (some 11) H3 x3) fun v4 H4 =>
  outP CC H4 (w_store 11 H4 x2 v4) fun _v5 H5 =>
  endP (resR (partF (some (some 11))) H5 x2 (some [])) K H5)))
theorem e48_tthtbhbhbhbhbhbhbhbhbhttttt (K : KT) (a : TE) (H : AH) : b48 [1,1,0,1,0,0,0,0,0,0,0,0,0,0,0,0,0,0,0,0,0,0,1,1,1,1,1] (k48_tthtbhbhbhbhbhbhbhbhb K) a H = m_req_baretthtbhbhbhbhbhbhbhbhbhttttt K (a 1) (a 2) (a 3) (a 8) H :=
  by kernel_rfl
abbrev k48_tthtbhbhbhbhbhbhbhbhbhtttt (K : KT) : KP := exP (fun (a : TE) (H : AH) => m_req_baretthtbhbhbhbhbhbhbhbhbhttttt K (a 1) (a 2) (a 3) (a 8) H) (k48_tthtbhbhbhbhbhbhbhbhb K)
def m_req_baretthtbhbhbhbhbhbhbhbhbhttttht (K : KT) (x1 x2 x3 x8 x18 : AV) (H : AH) : Prop :=
  condP x18
  (m_req_baretthtbhbhbhbt K x1 x2 x3 H)
  (m_req_baretthtbhbhbhbhbhbhbhbhbhttttt K x1 x2 x3 x8 H)
theorem e48_tthtbhbhbhbhbhbhbhbhbhttttht (K : KT) (a : TE) (H : AH) : b48 [1,1,0,1,0,0,0,0,0,0,0,0,0,0,0,0,0,0,0,0,0,0,1,1,1,1,0,1] (k48_tthtbhbhbhbhbhbhbhbhbhtttt K) a H = m_req_baretthtbhbhbhbhbhbhbhbhbhttttht K (a 1) (a 2) (a 3) (a 8) (a 18) H :=
  by kernel_rfl
def m_req_baretthtbhbhbhbhbhbhbhbhbhtttth (K : KT) (x1 x2 x3 x8 : AV) (H : AH) : Prop :=
  outP CC H (w_int .eql H x8 (.int .i64 4)) fun v1 H1 =>
  condP v1
  (m_req_baretthtbhbhbhbhbhbhbhbhbhttttht K x1 x2 x3 x8 v1 H1)
  (outP CC H1 (w_int .eql H1 x8 (.int .i64 12)) fun v2 H2 =>
  m_req_baretthtbhbhbhbhbhbhbhbhbhttttht K x1 x2 x3 x8 v2 H2)
theorem e48_tthtbhbhbhbhbhbhbhbhbhtttth (K : KT) (a : TE) (H : AH) : b48 [1,1,0,1,0,0,0,0,0,0,0,0,0,0,0,0,0,0,0,0,0,0,1,1,1,1,0] (k48_tthtbhbhbhbhbhbhbhbhbhtttt K) a H = m_req_baretthtbhbhbhbhbhbhbhbhbhtttth K (a 1) (a 2) (a 3) (a 8) H :=
  eSeq (ca := subC (bodyC PP 48) [1,1,0,1,0,0,0,0,0,0,0,0,0,0,0,0,0,0,0,0,0,0,1,1,1,1,0,0]) (by kernel_rfl) (e48_tthtbhbhbhbhbhbhbhbhbhttttht K) (by kernel_rfl)
theorem e48_tthtbhbhbhbhbhbhbhbhbhtttt (K : KT) (a : TE) (H : AH) : b48 [1,1,0,1,0,0,0,0,0,0,0,0,0,0,0,0,0,0,0,0,0,0,1,1,1,1] (k48_tthtbhbhbhbhbhbhbhbhb K) a H = m_req_baretthtbhbhbhbhbhbhbhbhbhtttth K (a 1) (a 2) (a 3) (a 8) H :=
  eSeqK (by kernel_rfl) (e48_tthtbhbhbhbhbhbhbhbhbhttttt K) (by kernel_rfl) (e48_tthtbhbhbhbhbhbhbhbhbhtttth K a H)
def m_req_baretthtbhbhbhbhbhbhbhbhbhttt (K : KT) (x1 x2 x3 x8 : AV) (H : AH) : Prop :=
  outP CC H (w_int .eql H x8 (.int .i64 3)) fun v1 H1 =>
  condP v1
  (m_req_baretthtbhbhbhbhbt K x1 x2 x3 H1)
  (m_req_baretthtbhbhbhbhbhbhbhbhbhtttth K x1 x2 x3 x8 H1)
theorem e48_tthtbhbhbhbhbhbhbhbhbhttt (K : KT) (a : TE) (H : AH) : b48 [1,1,0,1,0,0,0,0,0,0,0,0,0,0,0,0,0,0,0,0,0,0,1,1,1] (k48_tthtbhbhbhbhbhbhbhbhb K) a H = m_req_baretthtbhbhbhbhbhbhbhbhbhttt K (a 1) (a 2) (a 3) (a 8) H :=
  eSeq (ca := subC (bodyC PP 48) [1,1,0,1,0,0,0,0,0,0,0,0,0,0,0,0,0,0,0,0,0,0,1,1,1,0]) (by kernel_rfl) (e48_tthtbhbhbhbhbhbhbhbhbhtttt K) (by kernel_rfl)
abbrev k48_tthtbhbhbhbhbhbhbhbhbhtt (K : KT) : KP := exP (fun (a : TE) (H : AH) => m_req_baretthtbhbhbhbhbhbhbhbhbhttt K (a 1) (a 2) (a 3) (a 8) H) (k48_tthtbhbhbhbhbhbhbhbhb K)
def m_req_baretthtbhbhbhbhbhbhbhbhbhttht (K : KT) (x1 x2 x3 x8 x13 : AV) (H : AH) : Prop :=
  condP x13
  (m_req_baretthtbhbhbhbhbhbt K x1 x2 x3 H)
  (m_req_baretthtbhbhbhbhbhbhbhbhbhttt K x1 x2 x3 x8 H)
theorem e48_tthtbhbhbhbhbhbhbhbhbhttht (K : KT) (a : TE) (H : AH) : b48 [1,1,0,1,0,0,0,0,0,0,0,0,0,0,0,0,0,0,0,0,0,0,1,1,0,1] (k48_tthtbhbhbhbhbhbhbhbhbhtt K) a H = m_req_baretthtbhbhbhbhbhbhbhbhbhttht K (a 1) (a 2) (a 3) (a 8) (a 13) H :=
  by kernel_rfl
def m_req_baretthtbhbhbhbhbhbhbhbhbhtth (K : KT) (x1 x2 x3 x8 : AV) (H : AH) : Prop :=
  outP CC H (w_int .eql H x8 (.int .i64 2)) fun v1 H1 =>
  condP v1
  (m_req_baretthtbhbhbhbhbhbhbhbhbhttht K x1 x2 x3 x8 v1 H1)
  (outP CC H1 (w_int .eql H1 x8 (.int .i64 15)) fun v2 H2 =>
  m_req_baretthtbhbhbhbhbhbhbhbhbhttht K x1 x2 x3 x8 v2 H2)
theorem e48_tthtbhbhbhbhbhbhbhbhbhtth (K : KT) (a : TE) (H : AH) : b48 [1,1,0,1,0,0,0,0,0,0,0,0,0,0,0,0,0,0,0,0,0,0,1,1,0] (k48_tthtbhbhbhbhbhbhbhbhbhtt K) a H = m_req_baretthtbhbhbhbhbhbhbhbhbhtth K (a 1) (a 2) (a 3) (a 8) H :=
  eSeq (ca := subC (bodyC PP 48) [1,1,0,1,0,0,0,0,0,0,0,0,0,0,0,0,0,0,0,0,0,0,1,1,0,0]) (by kernel_rfl) (e48_tthtbhbhbhbhbhbhbhbhbhttht K) (by kernel_rfl)
theorem e48_tthtbhbhbhbhbhbhbhbhbhtt (K : KT) (a : TE) (H : AH) : b48 [1,1,0,1,0,0,0,0,0,0,0,0,0,0,0,0,0,0,0,0,0,0,1,1] (k48_tthtbhbhbhbhbhbhbhbhb K) a H = m_req_baretthtbhbhbhbhbhbhbhbhbhtth K (a 1) (a 2) (a 3) (a 8) H :=
  eSeqK (by kernel_rfl) (e48_tthtbhbhbhbhbhbhbhbhbhttt K) (by kernel_rfl) (e48_tthtbhbhbhbhbhbhbhbhbhtth K a H)
def m_req_baretthtbhbhbhbhbhbhbhbhbht (K : KT) (x1 x2 x3 x8 : AV) (H : AH) : Prop :=
  outP CC H (w_int .eql H x8 (.int .i64 6)) fun v1 H1 =>
  condP v1
  (m_req_baretthtbhbhbhbhbhbhbt K x1 x2 x3 H1)
  (m_req_baretthtbhbhbhbhbhbhbhbhbhtth K x1 x2 x3 x8 H1)
theorem e48_tthtbhbhbhbhbhbhbhbhbht (K : KT) (a : TE) (H : AH) : b48 [1,1,0,1,0,0,0,0,0,0,0,0,0,0,0,0,0,0,0,0,0,0,1] (k48_tthtbhbhbhbhbhbhbhbhb K) a H = m_req_baretthtbhbhbhbhbhbhbhbhbht K (a 1) (a 2) (a 3) (a 8) H :=
  eSeq (ca := subC (bodyC PP 48) [1,1,0,1,0,0,0,0,0,0,0,0,0,0,0,0,0,0,0,0,0,0,1,0]) (by kernel_rfl) (e48_tthtbhbhbhbhbhbhbhbhbhtt K) (by kernel_rfl)
def m_req_baretthtbhbhbhbhbhbhbhbhbh (K : KT) (x1 x2 x3 x8 : AV) (H : AH) : Prop :=
  outP CC H (w_int .eql H x8 (.int .i64 1)) fun v1 H1 =>
  condP v1
  (outP CC H1 (w_fieldAddr 4 H1 x1) fun v2 H2 =>
  outP CC H2 (w_load none H2 v2) fun v3 H3 =>
  outP CC H3 (w_fieldAddr 5 H3 x1) fun v4 H4 =>
  outP CC H4 (w_load none H4 v4) fun v5 H5 =>
  outP CC H5 (w_fieldAddr 4 H5 x3) fun v6 H6 =>
  outP CC H6 (w_store 1 H6 v6 v3) fun _v7 H7 =>
  ckP (reC true (w_load none H7 v4) v5) <|
  outP CC H7 (w_fieldAddr 5 H7 x3) fun v8 H8 =>
  outP CC H8 (w_store 1 H8 v8 v5) fun _v9 H9 =>
  m_req_baretthtbhbhbhbhbhbhbt K x1 x2 x3 H9)
  (m_req_baretthtbhbhbhbhbhbhbhbhbht K x1 x2 x3 x8 H1)
theorem e48_tthtbhbhbhbhbhbhbhbhbh (K : KT) (a : TE) (H : AH) : b48 [1,1,0,1,0,0,0,0,0,0,0,0,0,0,0,0,0,0,0,0,0,0] (k48_tthtbhbhbhbhbhbhbhbhb K) a H = m_req_baretthtbhbhbhbhbhbhbhbhbh K (a 1) (a 2) (a 3) (a 8) H :=
  eSeq (ca := subC (bodyC PP 48) [1,1,0,1,0,0,0,0,0,0,0,0,0,0,0,0,0,0,0,0,0,0,0]) (by kernel_rfl) (e48_tthtbhbhbhbhbhbhbhbhbht K) (by kernel_rfl)
theorem e48_tthtbhbhbhbhbhbhbhbhb (K : KT) (a : TE) (H : AH) : b48 [1,1,0,1,0,0,0,0,0,0,0,0,0,0,0,0,0,0,0,0,0] (k48_tthtbhbhbhbhbhbhbhbh K) a H = m_req_baretthtbhbhbhbhbhbhbhbhbh K (a 1) (a 2) (a 3) (a 8) H :=
  eSeqJ (subC (bodyC PP 48) [1,1,0,1,0,0,0,0,0,0,0,0,0,0,0,0,0,0,0,0,0,1]) (by kernel_rfl) (by kernel_rfl) (e48_tthtbhbhbhbhbhbhbhbhbh K a H)
theorem e48_tthtbhbhbhbhbhbhbhbh (K : KT) (a : TE) (H : AH) : b48 [1,1,0,1,0,0,0,0,0,0,0,0,0,0,0,0,0,0,0,0] (k48_tthtbhbhbhbhbhbhbhb K) a H = m_req_baretthtbhbhbhbhbhbhbhbhbh K (a 1) (a 2) (a 3) (a 8) H :=
  eBlockK 1 (by kernel_rfl) (by kernel_rfl) (e48_tthtbhbhbhbhbhbhbhbhb K a H)
theorem e48_tthtbhbhbhbhbhbhbhb (K : KT) (a : TE) (H : AH) : b48 [1,1,0,1,0,0,0,0,0,0,0,0,0,0,0,0,0,0,0] (k48_tthtbhbhbhbhbhbhbh K) a H = m_req_baretthtbhbhbhbhbhbhbhbhbh K (a 1) (a 2) (a 3) (a 8) H :=
  eSeqJ (subC (bodyC PP 48) [1,1,0,1,0,0,0,0,0,0,0,0,0,0,0,0,0,0,0,1]) (by kernel_rfl) (by kernel_rfl) (e48_tthtbhbhbhbhbhbhbhbh K a H)
theorem e48_tthtbhbhbhbhbhbhbh (K : KT) (a : TE) (H : AH) : b48 [1,1,0,1,0,0,0,0,0,0,0,0,0,0,0,0,0,0] (k48_tthtbhbhbhbhbhbhb K) a H = m_req_baretthtbhbhbhbhbhbhbhbhbh K (a 1) (a 2) (a 3) (a 8) H :=
  eBlockK 2 (by kernel_rfl) (by kernel_rfl) (e48_tthtbhbhbhbhbhbhbhb K a H)
theorem e48_tthtbhbhbhbhbhbhb (K : KT) (a : TE) (H : AH) : b48 [1,1,0,1,0,0,0,0,0,0,0,0,0,0,0,0,0] (k48_tthtbhbhbhbhbhbh K) a H = m_req_baretthtbhbhbhbhbhbhbhbhbh K (a 1) (a 2) (a 3) (a 8) H :=
  eSeqK (by kernel_rfl) (e48_tthtbhbhbhbhbhbhbt K) (by kernel_rfl) (e48_tthtbhbhbhbhbhbhbh K a H)
theorem e48_tthtbhbhbhbhbhbh (K : KT) (a : TE) (H : AH) : b48 [1,1,0,1,0,0,0,0,0,0,0,0,0,0,0,0] (k48_tthtbhbhbhbhbhb K) a H = m_req_baretthtbhbhbhbhbhbhbhbhbh K (a 1) (a 2) (a 3) (a 8) H :=
  eBlockK 3 (by kernel_rfl) (by kernel_rfl) (e48_tthtbhbhbhbhbhbhb K a H)
theorem e48_tthtbhbhbhbhbhb (K : KT) (a : TE) (H : AH) : b48 [1,1,0,1,0,0,0,0,0,0,0,0,0,0,0] (k48_tthtbhbhbhbhbh K) a H = m_req_baretthtbhbhbhbhbhbhbhbhbh K (a 1) (a 2) (a 3) (a 8) H :=
  eSeqK (by kernel_rfl) (e48_tthtbhbhbhbhbhbt K) (by kernel_rfl) (e48_tthtbhbhbhbhbhbh K a H)
theorem e48_tthtbhbhbhbhbh (K : KT) (a : TE) (H : AH) : b48 [1,1,0,1,0,0,0,0,0,0,0,0,0,0] (k48_tthtbhbhbhbhb K) a H = m_req_baretthtbhbhbhbhbhbhbhbhbh K (a 1) (a 2) (a 3) (a 8) H :=
  eBlockK 4 (by kernel_rfl) (by kernel_rfl) (e48_tthtbhbhbhbhbhb K a H)
theorem e48_tthtbhbhbhbhb (K : KT) (a : TE) (H : AH) : b48 [1,1,0,1,0,0,0,0,0,0,0,0,0] (k48_tthtbhbhbhbh K) a H = m_req_baretthtbhbhbhbhbhbhbhbhbh K (a 1) (a 2) (a 3) (a 8) H :=
  eSeqK (by kernel_rfl) (e48_tthtbhbhbhbhbt K) (by kernel_rfl) (e48_tthtbhbhbhbhbh K a H)
theorem e48_tthtbhbhbhbh (K : KT) (a : TE) (H : AH) : b48 [1,1,0,1,0,0,0,0,0,0,0,0] (k48_tthtbhbhbhb K) a H = m_req_baretthtbhbhbhbhbhbhbhbhbh K (a 1) (a 2) (a 3) (a 8) H :=
  eBlockK 5 (by kernel_rfl) (by kernel_rfl) (e48_tthtbhbhbhbhb K a H)
theorem e48_tthtbhbhbhb (K : KT) (a : TE) (H : AH) : b48 [1,1,0,1,0,0,0,0,0,0,0] (k48_tthtbhbhbh K) a H = m_req_baretthtbhbhbhbhbhbhbhbhbh K (a 1) (a 2) (a 3) (a 8) H :=
  eSeqK (by kernel_rfl) (e48_tthtbhbhbhbt K) (by kernel_rfl) (e48_tthtbhbhbhbh K a H)
theorem e48_tthtbhbhbh (K : KT) (a : TE) (H : AH) : b48 [1,1,0,1,0,0,0,0,0,0] (k48_tthtbhbhb K) a H = m_req_baretthtbhbhbhbhbhbhbhbhbh K (a 1) (a 2) (a 3) (a 8) H :=
  eBlockK 6 (by kernel_rfl) (by kernel_rfl) (e48_tthtbhbhbhb K a H)
theorem e48_tthtbhbhb (K : KT) (a : TE) (H : AH) : b48 [1,1,0,1,0,0,0,0,0] (k48_tthtbhbh K) a H = m_req_baretthtbhbhbhbhbhbhbhbhbh K (a 1) (a 2) (a 3) (a 8) H :=
  eSeqK (by kernel_rfl) (e48_tthtbhbhbt K) (by kernel_rfl) (e48_tthtbhbhbh K a H)
theorem e48_tthtbhbh (K : KT) (a : TE) (H : AH) : b48 [1,1,0,1,0,0,0,0] (k48_tthtbhb K) a H = m_req_baretthtbhbhbhbhbhbhbhbhbh K (a 1) (a 2) (a 3) (a 8) H :=
  eBlockK 7 (by kernel_rfl) (by kernel_rfl) (e48_tthtbhbhb K a H)
theorem e48_tthtbhb (K : KT) (a : TE) (H : AH) : b48 [1,1,0,1,0,0,0] (k48_tthtbh K) a H = m_req_baretthtbhbhbhbhbhbhbhbhbh K (a 1) (a 2) (a 3) (a 8) H :=
  eSeqK (by kernel_rfl) (e48_tthtbhbt K) (by kernel_rfl) (e48_tthtbhbh K a H)
theorem e48_tthtbh (K : KT) (a : TE) (H : AH) : b48 [1,1,0,1,0,0] (k48_tthtb K) a H = m_req_baretthtbhbhbhbhbhbhbhbhbh K (a 1) (a 2) (a 3) (a 8) H :=
  eBlockK 8 (by kernel_rfl) (by kernel_rfl) (e48_tthtbhb K a H)
theorem e48_tthtb (K : KT) (a : TE) (H : AH) : b48 [1,1,0,1,0] (k48_ttht K) a H = m_req_baretthtbhbhbhbhbhbhbhbhbh K (a 1) (a 2) (a 3) (a 8) H :=
  eSeqK (by kernel_rfl) (e48_tthtbt K) (by kernel_rfl) (e48_tthtbh K a H)
theorem e48_ttht (K : KT) (a : TE) (H : AH) : b48 [1,1,0,1] (k48_tt K) a H = m_req_baretthtbhbhbhbhbhbhbhbhbh K (a 1) (a 2) (a 3) (a 8) H :=
  eBlockK 0 (by kernel_rfl) (by kernel_rfl) (e48_tthtb K a H)
def m_req_baretth (K : KT) (x1 x2 x3 : AV) (H : AH) : Prop :=
  outP CC H (w_fieldAddr 0 H x1) fun v1 H1 =>
  outP CC H1 (w_load none H1 v1) fun v2 H2 =>
  m_req_baretthtbhbhbhbhbhbhbhbhbh K x1 x2 x3 v2 H2
theorem e48_tth (K : KT) (a : TE) (H : AH) : b48 [1,1,0] (k48_tt K) a H = m_req_baretth K (a 1) (a 2) (a 3) H :=
  eSeq (ca := subC (bodyC PP 48) [1,1,0,0]) (by kernel_rfl) (e48_ttht K) (by kernel_rfl)
theorem e48_tt (K : KT) (a : TE) (H : AH) : b48 [1,1] (k48 K) a H = m_req_baretth K (a 1) (a 2) (a 3) H :=
  eSeqJ (subC (bodyC PP 48) [1,1,1]) (by kernel_rfl) (by kernel_rfl) (e48_tth K a H)
def m_req_baret (K : KT) (x1 x2 : AV) (H : AH) : Prop :=
  outP CC H (w_fieldAddr 0 H x1) fun v1 H1 =>
  outP CC H1 (w_load none H1 v1) fun v2 H2 =>
  outP CC H2 (w_build PP 26 H2 [(0, v2)]) fun v3 H3 =>
  outP CC H3 (w_alloc 26 [(.int .i64 0), (.str []), (.str []), (.int .i64 0), (.int .i64 0), (.int .i64 0), (.int .i64 0), (.slice none 0 0 true), (.str []), (.int .i64 0), (.int .u32 0)] H3 none) fun v4 H4 =>
  outP CC H4 (w_store 11 H4 v4 v3) fun _v5 H5 =>
  m_req_baretth K x1 x2 v4 H5
theorem e48_t (K : KT) (a : TE) (H : AH) : b48 [1] (k48 K) a H = m_req_baret K (a 1) (a 2) H :=
  eSeq (ca := subC (bodyC PP 48) [1,0]) (by kernel_rfl) (e48_tt K) (by kernel_rfl)
def m_req_bare (K : KT) (x0 : AV) (H : AH) : Prop :=
  outP CC H (w_box 26 H x0 none) fun v1 H1 =>
  outP CC H1 (w_alloc 26 [(.int .i64 0), (.str []), (.str []), (.int .i64 0), (.int .i64 0), (.int .i64 0), (.int .i64 0), (.slice none 0 0 true), (.str []), (.int .i64 0), (.int .u32 0)] H1 none) fun v2 H2 =>
  m_req_baret K v1 v2 H2
theorem e48_ (K : KT) (a : TE) (H : AH) : b48 [] (k48 K) a H = m_req_bare K (a 0) H :=
  eSeq (ca := subC (bodyC PP 48) [0]) (by kernel_rfl) (e48_t K) (by kernel_rfl)
theorem m_req_bare_ok (x0 : AV) (H : AH) (K : KT) (h : m_req_bare K x0 H) : CC.call 48 [x0] H K :=
  have h1 : funP PP CC 48 [x0] H K = b48 [] (k48 K) (argE [x0]) H := by kernel_rfl
  have h2 : m_req_bare K (argE [x0] 0) H = m_req_bare K x0 H := by kernel_rfl
  funP_ok (P := PP) (by kernel_rfl) (by kernel_rfl) ((h1.trans ((e48_ K (argE [x0]) H).trans h2)).mpr h)

/-! 47: fieldfare/req.same -/
abbrev b47 (p : List Nat) (k : KP) : KE := codeP PP CC (subC (bodyC PP 47) p) k
abbrev k47 (K : KT) : KP := finP PP (resC PP 47) K
def m_req_same (K : KT) (x0 x1 : AV) (H : AH) : Prop :=
  outP CC H (w_box 26 H x0 none) fun v1 H1 =>
  outP CC H1 (w_box 26 H1 x1 none) fun v2 H2 =>
  outP CC H2 (w_fieldAddr 0 H2 v1) fun v3 H3 =>
  outP CC H3 (w_load none H3 v3) fun v4 H4 =>
  outP CC H4 (w_fieldAddr 0 H4 v2) fun v5 H5 =>
  outP CC H5 (w_load none H5 v5) fun v6 H6 =>
  outP CC H6 (w_int .eql H6 v4 v6) fun v7 H7 =>
  guardP (boolIs true v7) H7 (outP CC H7 (w_fieldAddr 1 H7 v1)) fun v8 H8 =>
  guardP (boolIs true v7) H8 (outP CC H8 (w_load none H8 v8)) fun v9 H9 =>
  guardP (boolIs true v7) H9 (outP CC H9 (w_fieldAddr 1 H9 v2)) fun v10 H10 =>
  guardP (boolIs true v7) H10 (outP CC H10 (w_load none H10 v10)) fun v11 H11 =>
  guardP (boolIs true v7) H11 (outP CC H11 (w_str .eql H11 v9 v11)) fun v12 H12 =>
  outP CC H12 (w_pick H12 v7 v12 (.bool false)) fun v13 H13 =>
  guardP (boolIs true v13) H13 (outP CC H13 (w_fieldAddr 2 H13 v1)) fun v14 H14 =>
  guardP (boolIs true v13) H14 (outP CC H14 (w_load none H14 v14)) fun v15 H15 =>
  guardP (boolIs true v13) H15 (outP CC H15 (w_fieldAddr 2 H15 v2)) fun v16 H16 =>
  guardP (boolIs true v13) H16 (outP CC H16 (w_load none H16 v16)) fun v17 H17 =>
  guardP (boolIs true v13) H17 (outP CC H17 (w_str .eql H17 v15 v17)) fun v18 H18 =>
  outP CC H18 (w_pick H18 v13 v18 (.bool false)) fun v19 H19 =>
  guardP (boolIs true v19) H19 (outP CC H19 (w_fieldAddr 3 H19 v1)) fun v20 H20 =>
  guardP (boolIs true v19) H20 (outP CC H20 (w_load none H20 v20)) fun v21 H21 =>
  guardP (boolIs true v19) H21 (outP CC H21 (w_fieldAddr 3 H21 v2)) fun v22 H22 =>
  guardP (boolIs true v19) H22 (outP CC H22 (w_load none H22 v22)) fun v23 H23 =>
  guardP (boolIs true v19) H23 (outP CC H23 (w_int .eql H23 v21 v23)) fun v24 H24 =>
  outP CC H24 (w_pick H24 v19 v24 (.bool false)) fun v25 H25 =>
  guardP (boolIs true v25) H25 (outP CC H25 (w_fieldAddr 4 H25 v1)) fun v26 H26 =>
  guardP (boolIs true v25) H26 (outP CC H26 (w_load none H26 v26)) fun v27 H27 =>
  guardP (boolIs true v25) H27 (outP CC H27 (w_fieldAddr 4 H27 v2)) fun v28 H28 =>
  guardP (boolIs true v25) H28 (outP CC H28 (w_load none H28 v28)) fun v29 H29 =>
  guardP (boolIs true v25) H29 (outP CC H29 (w_int .eql H29 v27 v29)) fun v30 H30 =>
  outP CC H30 (w_pick H30 v25 v30 (.bool false)) fun v31 H31 =>
  guardP (boolIs true v31) H31 (outP CC H31 (w_fieldAddr 5 H31 v1)) fun v32 H32 =>
  guardP (boolIs true v31) H32 (outP CC H32 (w_load none H32 v32)) fun v33 H33 =>
  guardP (boolIs true v31) H33 (outP CC H33 (w_fieldAddr 5 H33 v2)) fun v34 H34 =>
  guardP (boolIs true v31) H34 (outP CC H34 (w_load none H34 v34)) fun v35 H35 =>
  guardP (boolIs true v31) H35 (outP CC H35 (w_int .eql H35 v33 v35)) fun v36 H36 =>
  outP CC H36 (w_pick H36 v31 v36 (.bool false)) fun v37 H37 =>
  guardP (boolIs true v37) H37 (outP CC H37 (w_fieldAddr 6 H37 v1)) fun v38 H38 =>
  guardP (boolIs true v37) H38 (outP CC H38 (w_load none H38 v38)) fun v39 H39 =>
  guardP (boolIs true v37) H39 (outP CC H39 (w_fieldAddr 6 H39 v2)) fun v40 H40 =>
  guardP (boolIs true v37) H40 (outP CC H40 (w_load none H40 v40)) fun v41 H41 =>
  guardP (boolIs true v37) H41 (outP CC H41 (w_int .eql H41 v39 v41)) fun v42 H42 =>
  outP CC H42 (w_pick H42 v37 v42 (.bool false)) fun v43 H43 =>
  guardP (boolIs true v43) H43 (outP CC H43 (w_fieldAddr 7 H43 v1)) fun v44 H44 =>
  guardP (boolIs true v43) H44 (outP CC H44 (w_load none H44 v44)) fun v45 H45 =>
  guardP (boolIs true v43) H45 (outP CC H45 (w_fieldAddr 7 H45 v2)) fun v46 H46 =>
  guardP (boolIs true v43) H46 (outP CC H46 (w_load none H46 v46)) fun v47 H47 =>
  guardP (boolIs true v43) H47 (outP CC H47 (some (.enter 106 [v45, v47]))) fun v48 H48 =>
  outP CC H48 (w_pick H48 v43 v48 (.bool false)) fun v49 H49 =>
  guardP (boolIs true v49) H49 (outP CC H49 (w_fieldAddr 8 H49 v1)) fun v50 H50 =>
  guardP (boolIs true v49) H50 (outP CC H50 (w_load none H50 v50)) fun v51 H51 =>
  guardP (boolIs true v49) H51 (outP CC H51 (w_fieldAddr 8 H51 v2)) fun v52 H52 =>
  guardP (boolIs true v49) H52 (outP CC H52 (w_load none H52 v52)) fun v53 H53 =>
  guardP (boolIs true v49) H53 (outP CC H53 (w_str .eql H53 v51 v53)) fun v54 H54 =>
  outP CC H54 (w_pick H54 v49 v54 (.bool false)) fun v55 H55 =>
  guardP (boolIs true v55) H55 (outP CC H55 (w_fieldAddr 9 H55 v1)) fun v56 H56 =>
  guardP (boolIs true v55) H56 (outP CC H56 (w_load none H56 v56)) fun v57 H57 =>
  guardP (boolIs true v55) H57 (outP CC H57 (w_fieldAddr 9 H57 v2)) fun v58 H58 =>
  guardP (boolIs true v55) H58 (outP CC H58 (w_load none H58 v58)) fun v59 H59 =>
  guardP (boolIs true v55) H59 (outP CC H59 (w_int .eql H59 v57 v59)) fun v60 H60 =>
  outP CC H60 (w_pick H60 v55 v60 (.bool false)) fun v61 H61 =>
  guardP (boolIs true v61) H61 (outP CC H61 (w_fieldAddr 10 H61 v1)) fun v62 H62 =>
  guardP (boolIs true v61) H62 (outP CC H62 (w_load none H62 v62)) fun v63 H63 =>
  guardP (boolIs true v61) H63 (outP CC H63 (w_fieldAddr 10 H63 v2)) fun v64 H64 =>
  guardP (boolIs true v61) H64 (outP CC H64 (w_load none H64 v64)) fun v65 H65 =>
  guardP (boolIs true v61) H65 (outP CC H65 (w_int .eql H65 v63 v65)) fun v66 H66 =>
  outP CC H66 (w_pick H66 v61 v66 (.bool false)) fun v67 H67 =>
  K v67 H67
theorem e47_ (K : KT) (a : TE) (H : AH) : b47 [] (k47 K) a H = m_req_same K (a 0) (a 1) H :=
  by kernel_rfl
theorem m_req_same_ok (x0 x1 : AV) (H : AH) (K : KT) (h : m_req_same K x0 x1 H) : CC.call 47 [x0, x1] H K :=
  have h1 : funP PP CC 47 [x0, x1] H K = b47 [] (k47 K) (argE [x0, x1]) H := by kernel_rfl
  have h2 : m_req_same K (argE [x0, x1] 0) (argE [x0, x1] 1) H = m_req_same K x0 x1 H := by kernel_rfl
  funP_ok (P := PP) (by kernel_rfl) (by kernel_rfl) ((h1.trans ((e47_ K (argE [x0, x1]) H).trans h2)).mpr h)

/-! 10: fieldfare/req.May -/
abbrev b10 (p : List Nat) (k : KP) : KE := codeP PP CC (subC (bodyC PP 10) p) k
abbrev k10 (K : KT) : KP := finP PP (resC PP 10) K
abbrev k10_tt (K : KT) : KP := exP (b10 [1,1,1] (k10 K)) (k10 K)
abbrev k10_ttht (K : KT) : KP := blockP 0 (k10_tt K)
abbrev k10_tthtb (K : KT) (r0 : (AV × AV × AV) → AH → Prop) : KP := exP (fun (a : TE) (H : AH) => r0 (a 50, a 51, a 52) H) (k10_ttht K)
def m_req_Maytthtbl (K : KT) (r0 : (AV × AV × AV) → AH → Prop) (x50 x51 x52 : AV) (H : AH) : Prop :=
  outP CC H (w_int .lss H x52 x51) fun v1 H1 =>
  condP v1
  (outP CC H1 (w_indexAddr (.sl 1) H1 x50 x52) fun v2 H2 =>
  outP CC H2 (w_load none H2 v2) fun v3 H3 =>
  outP CC H3 (w_int .lss H3 v3 (.int .i64 0)) fun v4 H4 =>
  guardP (boolIs false v4) H4 (outP CC H4 (some (.val v3 H4))) fun v5 H5 =>
  guardP (boolIs false v4) H5 (outP CC H5 (w_int .gtr H5 v5 (.int .i64 1000000))) fun v6 H6 =>
  outP CC H6 (w_pick H6 v4 (.bool true) v6) fun v7 H7 =>
  condP v7
  (K (.bool false) H7)
  (outP CC H7 (w_int .add H7 x52 (.int .i64 1)) fun v8 H8 =>
  r0 (x50, x51, v8) H8))
  (K (.bool true) H1)
theorem e10_tthtbl (K : KT) (r0 : (AV × AV × AV) → AH → Prop) (a : TE) (H : AH) : b10 [1,1,0,1,0,0] (k10_tthtb K r0) a H = m_req_Maytthtbl K r0 (a 50) (a 51) (a 52) H :=
  by kernel_rfl
def m_req_Maytthtb (K : KT) (x50 x51 x52 : AV) (H : AH) : Prop :=
  loopP (fun (r0 : (AV × AV × AV) → AH → Prop) (s : (AV × AV × AV)) (H : AH) => m_req_Maytthtbl K r0 s.1 s.2.1 s.2.2 H) (x50, x51, x52) H
theorem e10_tthtb (K : KT) (a : TE) (H : AH) : b10 [1,1,0,1,0] (k10_ttht K) a H = m_req_Maytthtb K (a 50) (a 51) (a 52) H :=
  eLoopK (S := (AV × AV × AV)) (fun a => (a 50, a 51, a 52)) (fun r0 s H => m_req_Maytthtbl K r0 s.1 s.2.1 s.2.2 H) (by kernel_rfl) (fun r => by kernel_rfl) (e10_tthtbl K)
theorem e10_ttht (K : KT) (a : TE) (H : AH) : b10 [1,1,0,1] (k10_tt K) a H = m_req_Maytthtb K (a 50) (a 51) (a 52) H :=
  eBlockK 0 (by kernel_rfl) (by kernel_rfl) (e10_tthtb K a H)
def m_req_Maytth (K : KT) (x1 : AV) (H : AH) : Prop :=
  outP CC H (w_fieldAddr 3 H x1) fun v1 H1 =>
  outP CC H1 (w_load none H1 v1) fun v2 H2 =>
  outP CC H2 (w_fieldAddr 4 H2 x1) fun v3 H3 =>
  outP CC H3 (w_load none H3 v3) fun v4 H4 =>
  outP CC H4 (w_fieldAddr 5 H4 x1) fun v5 H5 =>
  outP CC H5 (w_load none H5 v5) fun v6 H6 =>
  outP CC H6 (w_fieldAddr 6 H6 x1) fun v7 H7 =>
  outP CC H7 (w_load none H7 v7) fun v8 H8 =>
  outP CC H8 (w_fieldAddr 9 H8 x1) fun v9 H9 =>
  outP CC H9 (w_load none H9 v9) fun v10 H10 =>
  outP CC H10 (w_buildSlice PP 3 5 H10 [(0, v2), (1, v4), (2, v6), (3, v8), (4, v10)] none) fun v11 H11 =>
  outP CC H11 (w_len PP 69 H11 v11) fun v12 H12 =>
  m_req_Maytthtb K v11 v12 (.int .i64 0) H12
theorem e10_tth (K : KT) (a : TE) (H : AH) : b10 [1,1,0] (k10_tt K) a H = m_req_Maytth K (a 1) H :=
  eSeq (ca := subC (bodyC PP 10) [1,1,0,0]) (by kernel_rfl) (e10_ttht K) (by kernel_rfl)
theorem e10_tt (K : KT) (a : TE) (H : AH) : b10 [1,1] (k10 K) a H = m_req_Maytth K (a 1) H :=
  eSeqJ (subC (bodyC PP 10) [1,1,1]) (by kernel_rfl) (by kernel_rfl) (e10_tth K a H)
def m_req_Mayt (K : KT) (x1 : AV) (H : AH) : Prop :=
  outP CC H (w_fieldAddr 0 H x1) fun v1 H1 =>
  outP CC H1 (w_load none H1 v1) fun v2 H2 =>
  outP CC H2 (some (.enter 46 [v2])) fun v3 H3 =>
  outP CC H3 (w_un .not H3 v3) fun v4 H4 =>
  guardP (boolIs false v4) H4 (outP CC H4 (w_load (some 11) H4 x1)) fun v5 H5 =>
  guardP (boolIs false v4) H5 (outP CC H5 (w_load (some 11) H5 x1)) fun v6 H6 =>
  guardP (boolIs false v4) H6 (outP CC H6 (some (.enter 48 [v6]))) fun v7 H7 =>
  ckP (reC (boolIs false v4) (w_load (some 11) H7 x1) v5) <|
  guardP (boolIs false v4) H7 (outP CC H7 (some (.enter 47 [v5, v7]))) fun v8 H8 =>
  guardP (boolIs false v4) H8 (outP CC H8 (w_un .not H8 v8)) fun v9 H9 =>
  outP CC H9 (w_pick H9 v4 (.bool true) v9) fun v10 H10 =>
  guardP (boolIs false v10) H10 (outP CC H10 (w_fieldAddr 1 H10 x1)) fun v11 H11 =>
  guardP (boolIs false v10) H11 (outP CC H11 (w_load none H11 v11)) fun v12 H12 =>
  guardP (boolIs false v10) H12 (outP CC H12 (w_len PP 9 H12 v12)) fun v13 H13 =>
  guardP (boolIs false v10) H13 (outP CC H13 (w_int .gtr H13 v13 (.int .i64 12))) fun v14 H14 =>
  outP CC H14 (w_pick H14 v10 (.bool true) v14) fun v15 H15 =>
  guardP (boolIs false v15) H15 (outP CC H15 (w_fieldAddr 2 H15 x1)) fun v16 H16 =>
  guardP (boolIs false v15) H16 (outP CC H16 (w_load none H16 v16)) fun v17 H17 =>
  guardP (boolIs false v15) H17 (outP CC H17 (w_len PP 9 H17 v17)) fun v18 H18 =>
  guardP (boolIs false v15) H18 (outP CC H18 (w_int .gtr H18 v18 (.int .i64 12))) fun v19 H19 =>
  outP CC H19 (w_pick H19 v15 (.bool true) v19) fun v20 H20 =>
  guardP (boolIs false v20) H20 (outP CC H20 (w_fieldAddr 7 H20 x1)) fun v21 H21 =>
  guardP (boolIs false v20) H21 (outP CC H21 (w_load none H21 v21)) fun v22 H22 =>
  guardP (boolIs false v20) H22 (outP CC H22 (w_len PP 23 H22 v22)) fun v23 H23 =>
  guardP (boolIs false v20) H23 (outP CC H23 (w_int .gtr H23 v23 (.int .i64 8))) fun v24 H24 =>
  outP CC H24 (w_pick H24 v20 (.bool true) v24) fun v25 H25 =>
  guardP (boolIs false v25) H25 (outP CC H25 (w_fieldAddr 8 H25 x1)) fun v26 H26 =>
  guardP (boolIs false v25) H26 (outP CC H26 (w_load none H26 v26)) fun v27 H27 =>
  guardP (boolIs false v25) H27 (outP CC H27 (w_len PP 9 H27 v27)) fun v28 H28 =>
  guardP (boolIs false v25) H28 (outP CC H28 (w_int .gtr H28 v28 (.int .i64 40))) fun v29 H29 =>
  outP CC H29 (w_pick H29 v25 (.bool true) v29) fun v30 H30 =>
  condP v30
  (K (.bool false) H30)
  (m_req_Maytth K x1 H30)
theorem e10_t (K : KT) (a : TE) (H : AH) : b10 [1] (k10 K) a H = m_req_Mayt K (a 1) H :=
  eSeq (ca := subC (bodyC PP 10) [1,0]) (by kernel_rfl) (e10_tt K) (by kernel_rfl)
def m_req_May (K : KT) (x0 : AV) (H : AH) : Prop :=
  outP CC H (w_box 26 H x0 none) fun v1 H1 =>
  m_req_Mayt K v1 H1
theorem e10_ (K : KT) (a : TE) (H : AH) : b10 [] (k10 K) a H = m_req_May K (a 0) H :=
  eSeq (ca := subC (bodyC PP 10) [0]) (by kernel_rfl) (e10_t K) (by kernel_rfl)
theorem m_req_May_ok (x0 : AV) (H : AH) (K : KT) (h : m_req_May K x0 H) : CC.call 10 [x0] H K :=
  have h1 : funP PP CC 10 [x0] H K = b10 [] (k10 K) (argE [x0]) H := by kernel_rfl
  have h2 : m_req_May K (argE [x0] 0) H = m_req_May K x0 H := by kernel_rfl
  funP_ok (P := PP) (by kernel_rfl) (by kernel_rfl) ((h1.trans ((e10_ K (argE [x0]) H).trans h2)).mpr h)

/-! 43: (*fieldfare/bin.Writer).Text -/
abbrev b43 (p : List Nat) (k : KP) : KE := codeP PP CC (subC (bodyC PP 43) p) k
abbrev k43 (K : KT) : KP := finP PP (resC PP 43) K
def m_bin_Writer_Text (K : KT) (x0 x1 : AV) (H : AH) : Prop :=
  outP CC H (w_eq PP .neq 87 false true H x0 (.ptr none)) fun v1 H1 =>
  condP v1
  (outP CC H1 (w_len PP 9 H1 x1) fun v2 H2 =>
  outP CC H2 (w_buildSlice PP 2 1 H2 [(0, v2)] none) fun v3 H3 =>
  outP CC H3 (some (.enter 42 [x0, v3])) fun _v4 H4 =>
  outP CC H4 (w_nil H4 x0) fun v5 H5 =>
  outP CC H5 (w_fieldAddr 0 H5 v5) fun v6 H6 =>
  outP CC H6 (w_load none H6 v6) fun v7 H7 =>
  outP CC H7 (w_append 5 1 1 H7 v7 x1 none) fun v8 H8 =>
  outP CC H8 (w_nil H8 x0) fun v9 H9 =>
  outP CC H9 (w_fieldAddr 0 H9 v9) fun v10 H10 =>
  outP CC H10 (w_store 1 H10 v10 v8) fun _v11 H11 =>
  K (.tup []) H11)
  (K (.tup []) H1)
theorem e43_ (K : KT) (a : TE) (H : AH) : b43 [] (k43 K) a H = m_bin_Writer_Text K (a 0) (a 1) H :=
  by kernel_rfl
theorem m_bin_Writer_Text_ok (x0 x1 : AV) (H : AH) (K : KT) (h : m_bin_Writer_Text K x0 x1 H) : CC.call 43 [x0, x1] H K :=
  have h1 : funP PP CC 43 [x0, x1] H K = b43 [] (k43 K) (argE [x0, x1]) H := by kernel_rfl
  have h2 : m_bin_Writer_Text K (argE [x0, x1] 0) (argE [x0, x1] 1) H = m_bin_Writer_Text K x0 x1 H := by kernel_rfl
  funP_ok (P := PP) (by kernel_rfl) (by kernel_rfl) ((h1.trans ((e43_ K (argE [x0, x1]) H).trans h2)).mpr h)

/-! 44: fieldfare/req.fields -/
abbrev b44 (p : List Nat) (k : KP) : KE := codeP PP CC (subC (bodyC PP 44) p) k
abbrev k44 (K : KT) : KP := finP PP (resC PP 44) K
abbrev k44_tt (K : KT) : KP := blockP 0 (k44 K)
def m_req_fieldsttbty (K : KT) (x0 x3 : AV) (H : AH) : Prop :=
  outP CC H (w_fieldAddr 4 H x3) fun v1 H1 =>
  outP CC H1 (w_load none H1 v1) fun v2 H2 =>
  outP CC H2 (w_fieldAddr 5 H2 x3) fun v3 H3 =>
  outP CC H3 (w_load none H3 v3) fun v4 H4 =>
  outP CC H4 (w_fieldAddr 6 H4 x3) fun v5 H5 =>
  outP CC H5 (w_load none H5 v5) fun v6 H6 =>
  outP CC H6 (w_buildSlice PP 2 3 H6 [(0, v2), (1, v4), (2, v6)] none) fun v7 H7 =>
  outP CC H7 (some (.enter 42 [x0, v7])) fun _v8 H8 =>
  K (.tup []) H8
theorem e44_ttbty (K : KT) (a : TE) (H : AH) : b44 [1,1,0,1,0] (k44_tt K) a H = m_req_fieldsttbty K (a 0) (a 3) H :=
  by kernel_rfl
def m_req_fieldsttbtnty (K : KT) (x0 x3 : AV) (H : AH) : Prop :=
  outP CC H (w_fieldAddr 6 H x3) fun v1 H1 =>
  outP CC H1 (w_load none H1 v1) fun v2 H2 =>
  outP CC H2 (w_buildSlice PP 2 1 H2 [(0, v2)] none) fun v3 H3 =>
  outP CC H3 (some (.enter 42 [x0, v3])) fun _v4 H4 =>
  K (.tup []) H4
theorem e44_ttbtnty (K : KT) (a : TE) (H : AH) : b44 [1,1,0,1,1,1,0] (k44_tt K) a H = m_req_fieldsttbtnty K (a 0) (a 3) H :=
  by kernel_rfl
def m_req_fieldsttbtntnt (K : KT) (x0 x3 x5 x24 : AV) (H : AH) : Prop :=
  condP x24
  (outP CC H (w_fieldAddr 3 H x3) fun v1 H1 =>
  outP CC H1 (w_load none H1 v1) fun v2 H2 =>
  outP CC H2 (w_buildSlice PP 2 1 H2 [(0, v2)] none) fun v3 H3 =>
  outP CC H3 (some (.enter 42 [x0, v3])) fun _v4 H4 =>
  K (.tup []) H4)
  (outP CC H (w_int .eql H x5 (.int .i64 3)) fun v5 H5 =>
  condP v5
  (outP CC H5 (w_fieldAddr 3 H5 x3) fun v6 H6 =>
  outP CC H6 (w_load none H6 v6) fun v7 H7 =>
  outP CC H7 (w_buildSlice PP 2 1 H7 [(0, v7)] none) fun v8 H8 =>
  outP CC H8 (some (.enter 42 [x0, v8])) fun _v9 H9 =>
  outP CC H9 (w_fieldAddr 7 H9 x3) fun v10 H10 =>
  outP CC H10 (w_load none H10 v10) fun v11 H11 =>
  outP CC H11 (some (.enter 105 [x0, v11])) fun _v12 H12 =>
  outP CC H12 (w_fieldAddr 8 H12 x3) fun v13 H13 =>
  outP CC H13 (w_load none H13 v13) fun v14 H14 =>
  outP CC H14 (some (.enter 43 [x0, v14])) fun _v15 H15 =>
  outP CC H15 (w_fieldAddr 10 H15 x3) fun v16 H16 =>
  outP CC H16 (w_load none H16 v16) fun v17 H17 =>
  outP CC H17 (w_conv (.int .i64) H17 v17 none) fun v18 H18 =>
  outP CC H18 (w_buildSlice PP 2 1 H18 [(0, v18)] none) fun v19 H19 =>
  outP CC H19 (some (.enter 42 [x0, v19])) fun _v20 H20 =>
  K (.tup []) H20)
  (outP CC H5 (w_int .eql H5 x5 (.int .i64 13)) fun v21 H21 =>
  condP v21
  (outP CC H21 (w_fieldAddr 7 H21 x3) fun v22 H22 =>
  outP CC H22 (w_load none H22 v22) fun v23 H23 =>
  outP CC H23 (some (.enter 105 [x0, v23])) fun _v24 H24 =>
  outP CC H24 (w_fieldAddr 9 H24 x3) fun v25 H25 =>
  outP CC H25 (w_load none H25 v25) fun v26 H26 =>
  outP CC H26 (w_buildSlice PP 2 1 H26 [(0, v26)] none) fun v27 H27 =>
  outP CC H27 (some (.enter 42 [x0, v27])) fun _v28 H28 =>
  K (.tup []) H28)
  (K (.tup []) H21)))
theorem e44_ttbtntnt (K : KT) (a : TE) (H : AH) : b44 [1,1,0,1,1,1,1,1] (k44_tt K) a H = m_req_fieldsttbtntnt K (a 0) (a 3) (a 5) (a 24) H :=
  by kernel_rfl
def m_req_fieldsttbtntn (K : KT) (x0 x3 x5 : AV) (H : AH) : Prop :=
  outP CC H (w_int .eql H x5 (.int .i64 4)) fun v1 H1 =>
  condP v1
  (m_req_fieldsttbtntnt K x0 x3 x5 v1 H1)
  (outP CC H1 (w_int .eql H1 x5 (.int .i64 12)) fun v2 H2 =>
  m_req_fieldsttbtntnt K x0 x3 x5 v2 H2)
theorem e44_ttbtntn (K : KT) (a : TE) (H : AH) : b44 [1,1,0,1,1,1,1] (k44_tt K) a H = m_req_fieldsttbtntn K (a 0) (a 3) (a 5) H :=
  eSeq (ca := subC (bodyC PP 44) [1,1,0,1,1,1,1,0]) (by kernel_rfl) (e44_ttbtntnt K) (by kernel_rfl)
def m_req_fieldsttbtnt (K : KT) (x0 x3 x5 x17 : AV) (H : AH) : Prop :=
  condP x17 (m_req_fieldsttbtnty K x0 x3 H) (m_req_fieldsttbtntn K x0 x3 x5 H)
theorem e44_ttbtnt (K : KT) (a : TE) (H : AH) : b44 [1,1,0,1,1,1] (k44_tt K) a H = m_req_fieldsttbtnt K (a 0) (a 3) (a 5) (a 17) H :=
  eCond (o := .tmp 17) (by kernel_rfl) (e44_ttbtnty K a H) (e44_ttbtntn K a H)
def m_req_fieldsttbtn (K : KT) (x0 x3 x5 : AV) (H : AH) : Prop :=
  outP CC H (w_int .eql H x5 (.int .i64 6)) fun v1 H1 =>
  m_req_fieldsttbtnt K x0 x3 x5 v1 H1
theorem e44_ttbtn (K : KT) (a : TE) (H : AH) : b44 [1,1,0,1,1] (k44_tt K) a H = m_req_fieldsttbtn K (a 0) (a 3) (a 5) H :=
  eSeq (ca := subC (bodyC PP 44) [1,1,0,1,1,0]) (by kernel_rfl) (e44_ttbtnt K) (by kernel_rfl)
def m_req_fieldsttbt (K : KT) (x0 x3 x5 x6 : AV) (H : AH) : Prop :=
  condP x6 (m_req_fieldsttbty K x0 x3 H) (m_req_fieldsttbtn K x0 x3 x5 H)
theorem e44_ttbt (K : KT) (a : TE) (H : AH) : b44 [1,1,0,1] (k44_tt K) a H = m_req_fieldsttbt K (a 0) (a 3) (a 5) (a 6) H :=
  eCond (o := .tmp 6) (by kernel_rfl) (e44_ttbty K a H) (e44_ttbtn K a H)
def m_req_fieldsttb (K : KT) (x0 x3 x5 : AV) (H : AH) : Prop :=
  outP CC H (w_int .eql H x5 (.int .i64 1)) fun v1 H1 =>
  m_req_fieldsttbt K x0 x3 x5 v1 H1
theorem e44_ttb (K : KT) (a : TE) (H : AH) : b44 [1,1,0] (k44_tt K) a H = m_req_fieldsttb K (a 0) (a 3) (a 5) H :=
  eSeq (ca := subC (bodyC PP 44) [1,1,0,0]) (by kernel_rfl) (e44_ttbt K) (by kernel_rfl)
theorem e44_tt (K : KT) (a : TE) (H : AH) : b44 [1,1] (k44 K) a H = m_req_fieldsttb K (a 0) (a 3) (a 5) H :=
  eBlockK 0 (by kernel_rfl) (by kernel_rfl) (e44_ttb K a H)
def m_req_fieldst (K : KT) (x0 x3 : AV) (H : AH) : Prop :=
  outP CC H (w_fieldAddr 0 H x3) fun v1 H1 =>
  outP CC H1 (w_load none H1 v1) fun v2 H2 =>
  m_req_fieldsttb K x0 x3 v2 H2
theorem e44_t (K : KT) (a : TE) (H : AH) : b44 [1] (k44 K) a H = m_req_fieldst K (a 0) (a 3) H :=
  eSeq (ca := subC (bodyC PP 44) [1,0]) (by kernel_rfl) (e44_tt K) (by kernel_rfl)
def m_req_fields (K : KT) (x0 x1 : AV) (H : AH) : Prop :=
  outP CC H (w_box 26 H x1 none) fun v1 H1 =>
  m_req_fieldst K x0 v1 H1
theorem e44_ (K : KT) (a : TE) (H : AH) : b44 [] (k44 K) a H = m_req_fields K (a 0) (a 1) H :=
  eSeq (ca := subC (bodyC PP 44) [0]) (by kernel_rfl) (e44_t K) (by kernel_rfl)
theorem m_req_fields_ok (x0 x1 : AV) (H : AH) (K : KT) (h : m_req_fields K x0 x1 H) : CC.call 44 [x0, x1] H K :=
  have h1 : funP PP CC 44 [x0, x1] H K = b44 [] (k44 K) (argE [x0, x1]) H := by kernel_rfl
  have h2 : m_req_fields K (argE [x0, x1] 0) (argE [x0, x1] 1) H = m_req_fields K x0 x1 H := by kernel_rfl
  funP_ok (P := PP) (by kernel_rfl) (by kernel_rfl) ((h1.trans ((e44_ K (argE [x0, x1]) H).trans h2)).mpr h)

/-! 8: fieldfare/req.Put -/
abbrev b8 (p : List Nat) (k : KP) : KE := codeP PP CC (subC (bodyC PP 8) p) k
abbrev k8 (K : KT) : KP := finP PP (resC PP 8) K
def m_req_Putttttt (K : KT) (x4 : AV) (H : AH) : Prop :=
  outP CC H (some (.enter 45 [x4])) fun v1 H1 =>
  K (.tup [v1, .nilIface]) H1
theorem e8_ttttt (K : KT) (a : TE) (H : AH) : b8 [1,1,1,1,1] (k8 K) a H = m_req_Putttttt K (a 4) H :=
  by kernel_rfl
abbrev k8_tttt (K : KT) : KP := exP (fun (a : TE) (H : AH) => m_req_Putttttt K (a 4) H) (k8 K)
abbrev k8_ttttht (K : KT) : KP := blockP 0 (k8_tttt K)
def m_req_Puttttthtbty (K : KT) (x1 x4 : AV) (H : AH) : Prop :=
  outP CC H (w_fieldAddr 2 H x1) fun v1 H1 =>
  outP CC H1 (w_load none H1 v1) fun v2 H2 =>
  outP CC H2 (some (.enter 43 [x4, v2])) fun _v3 H3 =>
  outP CC H3 (w_fieldAddr 1 H3 x1) fun v4 H4 =>
  outP CC H4 (w_load none H4 v4) fun v5 H5 =>
  outP CC H5 (some (.enter 43 [x4, v5])) fun _v6 H6 =>
  m_req_Putttttt K x4 H6
theorem e8_tttthtbty (K : KT) (a : TE) (H : AH) : b8 [1,1,1,1,0,1,0,1,0] (k8_ttttht K) a H = m_req_Puttttthtbty K (a 1) (a 4) H :=
  by kernel_rfl
def m_req_Puttttthtbtnty (K : KT) (x1 x4 : AV) (H : AH) : Prop :=
  outP CC H (w_fieldAddr 10 H x1) fun v1 H1 =>
  outP CC H1 (w_load none H1 v1) fun v2 H2 =>
  outP CC H2 (w_conv (.int .i64) H2 v2 none) fun v3 H3 =>
  outP CC H3 (w_buildSlice PP 2 1 H3 [(0, v3)] none) fun v4 H4 =>
  outP CC H4 (some (.enter 42 [x4, v4])) fun _v5 H5 =>
  m_req_Putttttt K x4 H5
theorem e8_tttthtbtnty (K : KT) (a : TE) (H : AH) : b8 [1,1,1,1,0,1,0,1,1,1,0] (k8_ttttht K) a H = m_req_Puttttthtbtnty K (a 1) (a 4) H :=
  by kernel_rfl
def m_req_Puttttthtbtntnt (K : KT) (x1 x4 x30 : AV) (H : AH) : Prop :=
  condP x30
  (outP CC H (w_fieldAddr 1 H x1) fun v1 H1 =>
  outP CC H1 (w_load none H1 v1) fun v2 H2 =>
  outP CC H2 (some (.enter 43 [x4, v2])) fun _v3 H3 =>
  outP CC H3 (w_load (some 11) H3 x1) fun v4 H4 =>
  outP CC H4 (some (.enter 44 [x4, v4])) fun _v5 H5 =>
  m_req_Putttttt K x4 H5)
  (m_req_Putttttt K x4 H)
theorem e8_tttthtbtntnt (K : KT) (a : TE) (H : AH) : b8 [1,1,1,1,0,1,0,1,1,1,1,1] (k8_ttttht K) a H = m_req_Puttttthtbtntnt K (a 1) (a 4) (a 30) H :=
  by kernel_rfl
def m_req_Puttttthtbtntn (K : KT) (x1 x4 x14 : AV) (H : AH) : Prop :=
  outP CC H (w_int .eql H x14 (.int .i64 1)) fun v1 H1 =>
  condP v1
  (m_req_Puttttthtbtntnt K x1 x4 v1 H1)
  (outP CC H1 (w_int .eql H1 x14 (.int .i64 2)) fun v2 H2 =>
  condP v2
  (m_req_Puttttthtbtntnt K x1 x4 v2 H2)
  (outP CC H2 (w_int .eql H2 x14 (.int .i64 15)) fun v3 H3 =>
  condP v3
  (m_req_Puttttthtbtntnt K x1 x4 v3 H3)
  (outP CC H3 (w_int .eql H3 x14 (.int .i64 3)) fun v4 H4 =>
  condP v4
  (m_req_Puttttthtbtntnt K x1 x4 v4 H4)
  (outP CC H4 (w_int .eql H4 x14 (.int .i64 4)) fun v5 H5 =>
  condP v5
  (m_req_Puttttthtbtntnt K x1 x4 v5 H5)
  (outP CC H5 (w_int .eql H5 x14 (.int .i64 12)) fun v6 H6 =>
  condP v6
  (m_req_Puttttthtbtntnt K x1 x4 v6 H6)
  (outP CC H6 (w_int .eql H6 x14 (.int .i64 6)) fun v7 H7 =>
  condP v7
  (m_req_Puttttthtbtntnt K x1 x4 v7 H7)
  (outP CC H7 (w_int .eql H7 x14 (.int .i64 13)) fun v8 H8 =>
  m_req_Puttttthtbtntnt K x1 x4 v8 H8)))))))
theorem e8_tttthtbtntn (K : KT) (a : TE) (H : AH) : b8 [1,1,1,1,0,1,0,1,1,1,1] (k8_ttttht K) a H = m_req_Puttttthtbtntn K (a 1) (a 4) (a 14) H :=
  eSeq (ca := subC (bodyC PP 8) [1,1,1,1,0,1,0,1,1,1,1,0]) (by kernel_rfl) (e8_tttthtbtntnt K) (by kernel_rfl)
def m_req_Puttttthtbtnt (K : KT) (x1 x4 x14 x23 : AV) (H : AH) : Prop :=
  condP x23 (m_req_Puttttthtbtnty K x1 x4 H) (m_req_Puttttthtbtntn K x1 x4 x14 H)
theorem e8_tttthtbtnt (K : KT) (a : TE) (H : AH) : b8 [1,1,1,1,0,1,0,1,1,1] (k8_ttttht K) a H = m_req_Puttttthtbtnt K (a 1) (a 4) (a 14) (a 23) H :=
  eCond (o := .tmp 23) (by kernel_rfl) (e8_tttthtbtnty K a H) (e8_tttthtbtntn K a H)
def m_req_Puttttthtbtn (K : KT) (x1 x4 x14 : AV) (H : AH) : Prop :=
  outP CC H (w_int .eql H x14 (.int .i64 10)) fun v1 H1 =>
  m_req_Puttttthtbtnt K x1 x4 x14 v1 H1
theorem e8_tttthtbtn (K : KT) (a : TE) (H : AH) : b8 [1,1,1,1,0,1,0,1,1] (k8_ttttht K) a H = m_req_Puttttthtbtn K (a 1) (a 4) (a 14) H :=
  eSeq (ca := subC (bodyC PP 8) [1,1,1,1,0,1,0,1,1,0]) (by kernel_rfl) (e8_tttthtbtnt K) (by kernel_rfl)
def m_req_Puttttthtbt (K : KT) (x1 x4 x14 x15 : AV) (H : AH) : Prop :=
  condP x15 (m_req_Puttttthtbty K x1 x4 H) (m_req_Puttttthtbtn K x1 x4 x14 H)
theorem e8_tttthtbt (K : KT) (a : TE) (H : AH) : b8 [1,1,1,1,0,1,0,1] (k8_ttttht K) a H = m_req_Puttttthtbt K (a 1) (a 4) (a 14) (a 15) H :=
  eCond (o := .tmp 15) (by kernel_rfl) (e8_tttthtbty K a H) (e8_tttthtbtn K a H)
def m_req_Puttttthtb (K : KT) (x1 x4 x14 : AV) (H : AH) : Prop :=
  outP CC H (w_int .eql H x14 (.int .i64 5)) fun v1 H1 =>
  m_req_Puttttthtbt K x1 x4 x14 v1 H1
theorem e8_tttthtb (K : KT) (a : TE) (H : AH) : b8 [1,1,1,1,0,1,0] (k8_ttttht K) a H = m_req_Puttttthtb K (a 1) (a 4) (a 14) H :=
  eSeq (ca := subC (bodyC PP 8) [1,1,1,1,0,1,0,0]) (by kernel_rfl) (e8_tttthtbt K) (by kernel_rfl)
theorem e8_ttttht (K : KT) (a : TE) (H : AH) : b8 [1,1,1,1,0,1] (k8_tttt K) a H = m_req_Puttttthtb K (a 1) (a 4) (a 14) H :=
  eBlockK 0 (by kernel_rfl) (by kernel_rfl) (e8_tttthtb K a H)
def m_req_Puttttth (K : KT) (x1 x4 : AV) (H : AH) : Prop :=
  outP CC H (w_fieldAddr 0 H x1) fun v1 H1 =>
  outP CC H1 (w_load none H1 v1) fun v2 H2 =>
  m_req_Puttttthtb K x1 x4 v2 H2
theorem e8_tttth (K : KT) (a : TE) (H : AH) : b8 [1,1,1,1,0] (k8_tttt K) a H = m_req_Puttttth K (a 1) (a 4) H :=
  eSeq (ca := subC (bodyC PP 8) [1,1,1,1,0,0]) (by kernel_rfl) (e8_ttttht K) (by kernel_rfl)
theorem e8_tttt (K : KT) (a : TE) (H : AH) : b8 [1,1,1,1] (k8 K) a H = m_req_Puttttth K (a 1) (a 4) H :=
  eSeqK (by kernel_rfl) (e8_ttttt K) (by kernel_rfl) (e8_tttth K a H)
def m_req_Putttt (K : KT) (x1 x4 : AV) (H : AH) : Prop :=
  outP CC H (w_fieldAddr 0 H x1) fun v1 H1 =>
  outP CC H1 (w_load none H1 v1) fun v2 H2 =>
  outP CC H2 (w_buildSlice PP 2 1 H2 [(0, v2)] none) fun v3 H3 =>
  outP CC H3 (some (.enter 42 [x4, v3])) fun _v4 H4 =>
  m_req_Puttttth K x1 x4 H4
theorem e8_ttt (K : KT) (a : TE) (H : AH) : b8 [1,1,1] (k8 K) a H = m_req_Putttt K (a 1) (a 4) H :=
  eSeq (ca := subC (bodyC PP 8) [1,1,1,0]) (by kernel_rfl) (e8_tttt K) (by kernel_rfl)
def m_req_Puttt (K : KT) (x1 : AV) (H : AH) : Prop :=
  outP CC H (w_alloc 83 [(.slice none 0 0 true)] H none) fun v1 H1 =>
  m_req_Putttt K x1 v1 H1
theorem e8_tt (K : KT) (a : TE) (H : AH) : b8 [1,1] (k8 K) a H = m_req_Puttt K (a 1) H :=
  eSeq (ca := subC (bodyC PP 8) [1,1,0]) (by kernel_rfl) (e8_ttt K) (by kernel_rfl)
def m_req_Putt (K : KT) (x1 : AV) (H : AH) : Prop :=
  outP CC H (w_load (some 11) H x1) fun v1 H1 =>
  outP CC H1 (some (.enter 10 [v1])) fun v2 H2 =>
  outP CC H2 (w_un .not H2 v2) fun v3 H3 =>
  condP v3
  (outP CC H3 (some (.enter 41 [(.int .i64 1)])) fun v4 H4 =>
  K (.tup [(.slice none 0 0 true), v4]) H4)
  (m_req_Puttt K x1 H3)
theorem e8_t (K : KT) (a : TE) (H : AH) : b8 [1] (k8 K) a H = m_req_Putt K (a 1) H :=
  eSeq (ca := subC (bodyC PP 8) [1,0]) (by kernel_rfl) (e8_tt K) (by kernel_rfl)
def m_req_Put (K : KT) (x0 : AV) (H : AH) : Prop :=
  outP CC H (w_box 26 H x0 none) fun v1 H1 =>
  m_req_Putt K v1 H1
theorem e8_ (K : KT) (a : TE) (H : AH) : b8 [] (k8 K) a H = m_req_Put K (a 0) H :=
  eSeq (ca := subC (bodyC PP 8) [0]) (by kernel_rfl) (e8_t K) (by kernel_rfl)
theorem m_req_Put_ok (x0 : AV) (H : AH) (K : KT) (h : m_req_Put K x0 H) : CC.call 8 [x0] H K :=
  have h1 : funP PP CC 8 [x0] H K = b8 [] (k8 K) (argE [x0]) H := by kernel_rfl
  have h2 : m_req_Put K (argE [x0] 0) H = m_req_Put K x0 H := by kernel_rfl
  funP_ok (P := PP) (by kernel_rfl) (by kernel_rfl) ((h1.trans ((e8_ K (argE [x0]) H).trans h2)).mpr h)

/-! 41: fieldfare/req.at -/
abbrev b41 (p : List Nat) (k : KP) : KE := codeP PP CC (subC (bodyC PP 41) p) k
abbrev k41 (K : KT) : KP := finP PP (resC PP 41) K
def m_req_at (K : KT) (x0 : AV) (H : AH) : Prop :=
  outP CC H (some (.val (.iface 34 x0) H)) fun v1 H1 =>
  outP CC H1 (some (.enter 85 [(.str [114, 101, 113]), v1])) fun v2 H2 =>
  K v2 H2
theorem e41_ (K : KT) (a : TE) (H : AH) : b41 [] (k41 K) a H = m_req_at K (a 0) H :=
  by kernel_rfl
theorem m_req_at_ok (x0 : AV) (H : AH) (K : KT) (h : m_req_at K x0 H) : CC.call 41 [x0] H K :=
  have h1 : funP PP CC 41 [x0] H K = b41 [] (k41 K) (argE [x0]) H := by kernel_rfl
  have h2 : m_req_at K (argE [x0] 0) H = m_req_at K x0 H := by kernel_rfl
  funP_ok (P := PP) (by kernel_rfl) (by kernel_rfl) ((h1.trans ((e41_ K (argE [x0]) H).trans h2)).mpr h)

/-! 85: fieldfare/fail.At -/
abbrev b85 (p : List Nat) (k : KP) : KE := codeP PP CC (subC (bodyC PP 85) p) k
abbrev k85 (K : KT) : KP := finP PP (resC PP 85) K
def m_fail_At (K : KT) (x0 x1 : AV) (H : AH) : Prop :=
  outP CC H (w_eq PP .eql 30 false true H x1 .nilIface) fun v1 H1 =>
  guardP (boolIs false v1) H1 (outP CC H1 (some (.val x1 H1))) fun v2 H2 =>
  guardP (boolIs false v1) H2 (outP CC H2 (some (.val (.iface 34 (.int .i64 0)) H2))) fun v3 H3 =>
  guardP (boolIs false v1) H3 (outP CC H3 (w_eq PP .eql 30 false false H3 v2 v3)) fun v4 H4 =>
  outP CC H4 (w_pick H4 v1 (.bool true) v4) fun v5 H5 =>
  condP v5
  (K .nilIface H5)
  (outP CC H5 (w_build PP 237 H5 [(0, x0), (1, x1)]) fun v6 H6 =>
  outP CC H6 (w_box 237 H6 v6 none) fun v7 H7 =>
  outP CC H7 (some (.val (.iface 235 v7) H7)) fun v8 H8 =>
  K v8 H8)
theorem e85_ (K : KT) (a : TE) (H : AH) : b85 [] (k85 K) a H = m_fail_At K (a 0) (a 1) H :=
  by kernel_rfl
theorem m_fail_At_ok (x0 x1 : AV) (H : AH) (K : KT) (h : m_fail_At K x0 x1 H) : CC.call 85 [x0, x1] H K :=
  have h1 : funP PP CC 85 [x0, x1] H K = b85 [] (k85 K) (argE [x0, x1]) H := by kernel_rfl
  have h2 : m_fail_At K (argE [x0, x1] 0) (argE [x0, x1] 1) H = m_fail_At K x0 x1 H := by kernel_rfl
  funP_ok (P := PP) (by kernel_rfl) (by kernel_rfl) ((h1.trans ((e85_ K (argE [x0, x1]) H).trans h2)).mpr h)

end
end Go.Ab
