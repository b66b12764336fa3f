/- What functions do, said as what the evaluator does. Printed by a program. -/
import Derived.Test.YtcehnjmpllhieaaGreatDoorBeg
import Derived.Test.YtcehnjmpllhieaaGreatDoorMir
namespace Go.Ab
noncomputable section
open Go.Proofs
set_option maxRecDepth 100000



/-! 53: fieldfare/fieldfareref1.PutVec -/
abbrev b53 (p : List Nat) (k : KP) : KE := codeP PP CC (subC (bodyC PP 53) p) k
abbrev k53 (K : KT) : KP := finP PP (resC PP 53) K
abbrev k53_tt (K : KT) : KP := exP (b53 [1,1,1] (k53 K)) (k53 K)
abbrev k53_ttht (K : KT) : KP := blockP 0 (k53_tt K)
abbrev k53_tthtb (K : KT) (r0 : (AV × AV × AV × AV) → AH → Prop) : KP := exP (fun (a : TE) (H : AH) => r0 (a 0, a 3, a 9, a 10) H) (k53_ttht K)
def m_fieldfareref1_PutVectthtbl (K : KT) (r0 : (AV × AV × AV × AV) → AH → Prop) (x0 x3 x9 x10 : AV) (H : AH) : Prop :=
  outP CC H (w_int .lss H x10 x9) fun v1 H1 =>
  condP v1
  (outP CC H1 (w_indexAddr (.sl 1) H1 x0 x10) fun v2 H2 =>
  outP CC H2 (w_load none H2 v2) fun v3 H3 =>
  outP CC H3 (w_conv (.int .i64) H3 v3 none) fun v4 H4 =>
  outP CC H4 (some (.enter 50 [v4])) fun v5 H5 =>
  outP CC H5 (w_append 5 1 1 H5 x3 v5 none) fun v6 H6 =>
  outP CC H6 (w_int .add H6 x10 (.int .i64 1)) fun v7 H7 =>
  r0 (x0, v6, x9, v7) H7)
  (K x3 H1)
theorem e53_tthtbl (K : KT) (r0 : (AV × AV × AV × AV) → AH → Prop) (a : TE) (H : AH) : b53 [1,1,0,1,0,0] (k53_tthtb K r0) a H = m_fieldfareref1_PutVectthtbl K r0 (a 0) (a 3) (a 9) (a 10) H :=
  by kernel_rfl
def m_fieldfareref1_PutVectthtb (K : KT) (x0 x3 x9 x10 : AV) (H : AH) : Prop :=
  loopP (fun (r0 : (AV × AV × AV × AV) → AH → Prop) (s : (AV × AV × AV × AV)) (H : AH) => m_fieldfareref1_PutVectthtbl K r0 s.1 s.2.1 s.2.2.1 s.2.2.2 H) (x0, x3, x9, x10) H
theorem e53_tthtb (K : KT) (a : TE) (H : AH) : b53 [1,1,0,1,0] (k53_ttht K) a H = m_fieldfareref1_PutVectthtb K (a 0) (a 3) (a 9) (a 10) H :=
  eLoop (S := (AV × AV × AV × AV)) (fun a => (a 0, a 3, a 9, a 10)) (fun r0 s H => m_fieldfareref1_PutVectthtbl K r0 s.1 s.2.1 s.2.2.1 s.2.2.2 H) (by kernel_rfl) (e53_tthtbl K)
theorem e53_ttht (K : KT) (a : TE) (H : AH) : b53 [1,1,0,1] (k53_tt K) a H = m_fieldfareref1_PutVectthtb K (a 0) (a 3) (a 9) (a 10) H :=
  eBlock (by kernel_rfl) (e53_tthtb K a H)
abbrev k53_tth (K : KT) : KP := exP (fun (a : TE) (H : AH) => m_fieldfareref1_PutVectthtb K (a 0) (a 3) (a 9) (a 10) H) (k53_tt K)
def m_fieldfareref1_PutVectth (K : KT) (x0 x3 : AV) (H : AH) : Prop :=
  outP CC H (w_len PP 23 H x0) fun v1 H1 =>
  m_fieldfareref1_PutVectthtb K x0 x3 v1 (.int .i64 0) H1
theorem e53_tth (K : KT) (a : TE) (H : AH) : b53 [1,1,0] (k53_tt K) a H = m_fieldfareref1_PutVectth K (a 0) (a 3) H :=
  eSeq (ca := subC (bodyC PP 53) [1,1,0,0]) (by kernel_rfl) (e53_ttht K) (by kernel_rfl)
theorem e53_tt (K : KT) (a : TE) (H : AH) : b53 [1,1] (k53 K) a H = m_fieldfareref1_PutVectth K (a 0) (a 3) H :=
  eSeq0 (by kernel_rfl) (e53_tth K a H)
abbrev k53_t (K : KT) : KP := exP (fun (a : TE) (H : AH) => m_fieldfareref1_PutVectth K (a 0) (a 3) H) (k53 K)
def m_fieldfareref1_PutVect (K : KT) (x0 : AV) (H : AH) : Prop :=
  outP CC H (w_len PP 23 H x0) fun v1 H1 =>
  outP CC H1 (some (.enter 50 [v1])) fun v2 H2 =>
  m_fieldfareref1_PutVectth K x0 v2 H2
theorem e53_t (K : KT) (a : TE) (H : AH) : b53 [1] (k53 K) a H = m_fieldfareref1_PutVect K (a 0) H :=
  eSeq (ca := subC (bodyC PP 53) [1,0]) (by kernel_rfl) (e53_tt K) (by kernel_rfl)
abbrev k53_ (K : KT) : KP := exP (fun (a : TE) (H : AH) => m_fieldfareref1_PutVect K (a 0) H) (k53 K)
def m_fieldfareref1_PutVec (K : KT) (x0 : AV) (H : AH) : Prop :=
  m_fieldfareref1_PutVect K x0 H
theorem e53_ (K : KT) (a : TE) (H : AH) : b53 [] (k53 K) a H = m_fieldfareref1_PutVec K (a 0) H :=
  eSeq (ca := subC (bodyC PP 53) [0]) (by kernel_rfl) (e53_t K) (by kernel_rfl)
theorem m_fieldfareref1_PutVec_ok (x0 : AV) (H : AH) (K : KT) (h : m_fieldfareref1_PutVec K x0 H) : CC.call 53 [x0] H K :=
  okM (P := PP) (by kernel_rfl) (by kernel_rfl) (by kernel_rfl) ((e53_ K (argE [x0]) H).trans (by kernel_rfl)) h

/-! 61: fieldfare/fieldfareref1.EqVec -/
abbrev b61 (p : List Nat) (k : KP) : KE := codeP PP CC (subC (bodyC PP 61) p) k
abbrev k61 (K : KT) : KP := finP PP (resC PP 61) K
abbrev k61_tt (K : KT) : KP := exP (b61 [1,1,1] (k61 K)) (k61 K)
abbrev k61_ttht (K : KT) : KP := blockP 0 (k61_tt K)
abbrev k61_tthtb (K : KT) (r0 : (AV × AV × AV × AV) → AH → Prop) : KP := exP (fun (a : TE) (H : AH) => r0 (a 0, a 1, a 12, a 13) H) (k61_ttht K)
def m_fieldfareref1_EqVectthtbl (K : KT) (r0 : (AV × AV × AV × AV) → AH → Prop) (x0 x1 x12 x13 : AV) (H : AH) : Prop :=
  outP CC H (w_int .lss H x13 x12) fun v1 H1 =>
  condP v1
  (outP CC H1 (w_indexAddr (.sl 1) H1 x0 x13) fun v2 H2 =>
  outP CC H2 (w_load none H2 v2) fun v3 H3 =>
  outP CC H3 (w_indexAddr (.sl 1) H3 x1 x13) fun v4 H4 =>
  outP CC H4 (w_load none H4 v4) fun v5 H5 =>
  outP CC H5 (w_int .neq H5 v3 v5) fun v6 H6 =>
  condP v6
  (K (.bool false) H6)
  (outP CC H6 (w_int .add H6 x13 (.int .i64 1)) fun v7 H7 =>
  r0 (x0, x1, x12, v7) H7))
  (K (.bool true) H1)
theorem e61_tthtbl (K : KT) (r0 : (AV × AV × AV × AV) → AH → Prop) (a : TE) (H : AH) : b61 [1,1,0,1,0,0] (k61_tthtb K r0) a H = m_fieldfareref1_EqVectthtbl K r0 (a 0) (a 1) (a 12) (a 13) H :=
  by kernel_rfl
def m_fieldfareref1_EqVectthtb (K : KT) (x0 x1 x12 x13 : AV) (H : AH) : Prop :=
  loopP (fun (r0 : (AV × AV × AV × AV) → AH → Prop) (s : (AV × AV × AV × AV)) (H : AH) => m_fieldfareref1_EqVectthtbl K r0 s.1 s.2.1 s.2.2.1 s.2.2.2 H) (x0, x1, x12, x13) H
theorem e61_tthtb (K : KT) (a : TE) (H : AH) : b61 [1,1,0,1,0] (k61_ttht K) a H = m_fieldfareref1_EqVectthtb K (a 0) (a 1) (a 12) (a 13) H :=
  eLoop (S := (AV × AV × AV × AV)) (fun a => (a 0, a 1, a 12, a 13)) (fun r0 s H => m_fieldfareref1_EqVectthtbl K r0 s.1 s.2.1 s.2.2.1 s.2.2.2 H) (by kernel_rfl) (e61_tthtbl K)
theorem e61_ttht (K : KT) (a : TE) (H : AH) : b61 [1,1,0,1] (k61_tt K) a H = m_fieldfareref1_EqVectthtb K (a 0) (a 1) (a 12) (a 13) H :=
  eBlock (by kernel_rfl) (e61_tthtb K a H)
abbrev k61_tth (K : KT) : KP := exP (fun (a : TE) (H : AH) => m_fieldfareref1_EqVectthtb K (a 0) (a 1) (a 12) (a 13) H) (k61_tt K)
def m_fieldfareref1_EqVectth (K : KT) (x0 x1 : AV) (H : AH) : Prop :=
  outP CC H (w_len PP 23 H x0) fun v1 H1 =>
  m_fieldfareref1_EqVectthtb K x0 x1 v1 (.int .i64 0) H1
theorem e61_tth (K : KT) (a : TE) (H : AH) : b61 [1,1,0] (k61_tt K) a H = m_fieldfareref1_EqVectth K (a 0) (a 1) H :=
  eSeq (ca := subC (bodyC PP 61) [1,1,0,0]) (by kernel_rfl) (e61_ttht K) (by kernel_rfl)
theorem e61_tt (K : KT) (a : TE) (H : AH) : b61 [1,1] (k61 K) a H = m_fieldfareref1_EqVectth K (a 0) (a 1) H :=
  eSeq0 (by kernel_rfl) (e61_tth K a H)
abbrev k61_t (K : KT) : KP := exP (fun (a : TE) (H : AH) => m_fieldfareref1_EqVectth K (a 0) (a 1) H) (k61 K)
def m_fieldfareref1_EqVect (K : KT) (x0 x1 : AV) (H : AH) : Prop :=
  outP CC H (w_len PP 23 H x0) fun v1 H1 =>
  outP CC H1 (w_len PP 23 H1 x1) fun v2 H2 =>
  outP CC H2 (w_int .neq H2 v1 v2) fun v3 H3 =>
  condP v3
  (K (.bool false) H3)
  (m_fieldfareref1_EqVectth K x0 x1 H3)
theorem e61_t (K : KT) (a : TE) (H : AH) : b61 [1] (k61 K) a H = m_fieldfareref1_EqVect K (a 0) (a 1) H :=
  eSeq (ca := subC (bodyC PP 61) [1,0]) (by kernel_rfl) (e61_tt K) (by kernel_rfl)
abbrev k61_ (K : KT) : KP := exP (fun (a : TE) (H : AH) => m_fieldfareref1_EqVect K (a 0) (a 1) H) (k61 K)
def m_fieldfareref1_EqVec (K : KT) (x0 x1 : AV) (H : AH) : Prop :=
  m_fieldfareref1_EqVect K x0 x1 H
theorem e61_ (K : KT) (a : TE) (H : AH) : b61 [] (k61 K) a H = m_fieldfareref1_EqVec K (a 0) (a 1) H :=
  eSeq (ca := subC (bodyC PP 61) [0]) (by kernel_rfl) (e61_t K) (by kernel_rfl)
theorem m_fieldfareref1_EqVec_ok (x0 x1 : AV) (H : AH) (K : KT) (h : m_fieldfareref1_EqVec K x0 x1 H) : CC.call 61 [x0, x1] H K :=
  okM (P := PP) (by kernel_rfl) (by kernel_rfl) (by kernel_rfl) ((e61_ K (argE [x0, x1]) H).trans (by kernel_rfl)) h

/-! 50: fieldfare/fieldfareref1.Int -/
abbrev b50 (p : List Nat) (k : KP) : KE := codeP PP CC (subC (bodyC PP 50) p) k
abbrev k50 (K : KT) : KP := finP PP (resC PP 50) K
abbrev k50_tt (K : KT) : KP := exP (b50 [1,1,1] (k50 K)) (k50 K)
abbrev k50_ttht (K : KT) : KP := blockP 0 (k50_tt K)
abbrev k50_tthtb (K : KT) (r0 : (AV × AV) → AH → Prop) : KP := exP (fun (a : TE) (H : AH) => r0 (a 3, a 4) H) (k50_ttht K)
def m_fieldfareref1_Inttthtbl (K : KT) (r0 : (AV × AV) → AH → Prop) (x3 x4 : AV) (H : AH) : Prop :=
  outP CC H (w_int .eql H x4 (.int .i64 0)) fun v1 H1 =>
  guardP (boolIs true v1) H1 (outP CC H1 (some (.val x3 H1))) fun v2 H2 =>
  guardP (boolIs true v1) H2 (outP CC H2 (w_len PP 27 H2 v2)) fun v3 H3 =>
  guardP (boolIs true v1) H3 (outP CC H3 (w_int .eql H3 v3 (.int .i64 0))) fun v4 H4 =>
  guardP (boolIs true v1) H4 (outP CC H4 (some (.val v4 H4))) fun v5 H5 =>
  guardP (boolIs false v5) H5 (outP CC H5 (some (.val x3 H5))) fun v6 H6 =>
  guardP (boolIs false v5) H6 (outP CC H6 (some (.val x3 H6))) fun v7 H7 =>
  guardP (boolIs false v5) H7 (outP CC H7 (w_len PP 27 H7 v7)) fun v8 H8 =>
  guardP (boolIs false v5) H8 (outP CC H8 (w_int .sub H8 v8 (.int .i64 1))) fun v9 H9 =>
  guardP (boolIs false v5) H9 (outP CC H9 (w_indexAddr (.sl 1) H9 v6 v9)) fun v10 H10 =>
  guardP (boolIs false v5) H10 (outP CC H10 (w_load none H10 v10)) fun v11 H11 =>
  guardP (boolIs false v5) H11 (outP CC H11 (w_int .lss H11 v11 (.int .u8 128))) fun v12 H12 =>
  guardP (boolIs true v1) H12 (outP CC H12 (w_pick H12 v5 (.bool true) v12)) fun v13 H13 =>
  outP CC H13 (w_pick H13 v1 v13 (.bool false)) fun v14 H14 =>
  guardP (boolIs false v14) H14 (outP CC H14 (some (.val x4 H14))) fun v15 H15 =>
  guardP (boolIs false v14) H15 (outP CC H15 (w_int .eql H15 v15 (.int .i64 (-1)))) fun v16 H16 =>
  guardP (boolIs false v14) H16 (outP CC H16 (some (.val v16 H16))) fun v17 H17 =>
  guardP (boolIs true v17) H17 (outP CC H17 (some (.val x3 H17))) fun v18 H18 =>
  guardP (boolIs true v17) H18 (outP CC H18 (w_len PP 27 H18 v18)) fun v19 H19 =>
  guardP (boolIs true v17) H19 (outP CC H19 (w_int .gtr H19 v19 (.int .i64 0))) fun v20 H20 =>
  guardP (boolIs false v14) H20 (outP CC H20 (w_pick H20 v17 v20 (.bool false))) fun v21 H21 =>
  guardP (boolIs false v14) H21 (outP CC H21 (some (.val v21 H21))) fun v22 H22 =>
  guardP (boolIs true v22) H22 (outP CC H22 (some (.val x3 H22))) fun v23 H23 =>
  guardP (boolIs true v22) H23 (outP CC H23 (some (.val x3 H23))) fun v24 H24 =>
  guardP (boolIs true v22) H24 (outP CC H24 (w_len PP 27 H24 v24)) fun v25 H25 =>
  guardP (boolIs true v22) H25 (outP CC H25 (w_int .sub H25 v25 (.int .i64 1))) fun v26 H26 =>
  guardP (boolIs true v22) H26 (outP CC H26 (w_indexAddr (.sl 1) H26 v23 v26)) fun v27 H27 =>
  guardP (boolIs true v22) H27 (outP CC H27 (w_load none H27 v27)) fun v28 H28 =>
  guardP (boolIs true v22) H28 (outP CC H28 (w_int .geq H28 v28 (.int .u8 128))) fun v29 H29 =>
  guardP (boolIs false v14) H29 (outP CC H29 (w_pick H29 v22 v29 (.bool false))) fun v30 H30 =>
  outP CC H30 (w_pick H30 v14 (.bool true) v30) fun v31 H31 =>
  condP v31
  (outP CC H31 (w_len PP 27 H31 x3) fun v32 H32 =>
  outP CC H32 (w_conv (.int .u8) H32 v32 none) fun v33 H33 =>
  outP CC H33 (w_buildSlice PP 5 1 H33 [(0, v33)] none) fun v34 H34 =>
  outP CC H34 (w_append 5 1 1 H34 v34 x3 none) fun v35 H35 =>
  K v35 H35)
  (outP CC H31 (w_int .and H31 x4 (.int .i64 255)) fun v36 H36 =>
  outP CC H36 (w_conv (.int .u8) H36 v36 none) fun v37 H37 =>
  outP CC H37 (w_buildSlice PP 5 1 H37 [(0, v37)] none) fun v38 H38 =>
  outP CC H38 (w_append 5 1 1 H38 x3 v38 none) fun v39 H39 =>
  outP CC H39 (w_sh .shr H39 x4 (.int .u64 8)) fun v40 H40 =>
  r0 (v39, v40) H40)
theorem e50_tthtbl (K : KT) (r0 : (AV × AV) → AH → Prop) (a : TE) (H : AH) : b50 [1,1,0,1,0,0] (k50_tthtb K r0) a H = m_fieldfareref1_Inttthtbl K r0 (a 3) (a 4) H :=
  by kernel_rfl
def m_fieldfareref1_Inttthtb (K : KT) (x3 x4 : AV) (H : AH) : Prop :=
  loopP (fun (r0 : (AV × AV) → AH → Prop) (s : (AV × AV)) (H : AH) => m_fieldfareref1_Inttthtbl K r0 s.1 s.2 H) (x3, x4) H
theorem e50_tthtb (K : KT) (a : TE) (H : AH) : b50 [1,1,0,1,0] (k50_ttht K) a H = m_fieldfareref1_Inttthtb K (a 3) (a 4) H :=
  eLoop (S := (AV × AV)) (fun a => (a 3, a 4)) (fun r0 s H => m_fieldfareref1_Inttthtbl K r0 s.1 s.2 H) (by kernel_rfl) (e50_tthtbl K)
theorem e50_ttht (K : KT) (a : TE) (H : AH) : b50 [1,1,0,1] (k50_tt K) a H = m_fieldfareref1_Inttthtb K (a 3) (a 4) H :=
  eBlock (by kernel_rfl) (e50_tthtb K a H)
abbrev k50_tth (K : KT) : KP := exP (fun (a : TE) (H : AH) => m_fieldfareref1_Inttthtb K (a 3) (a 4) H) (k50_tt K)
def m_fieldfareref1_Inttth (K : KT) (x0 x3 : AV) (H : AH) : Prop :=
  m_fieldfareref1_Inttthtb K x3 x0 H
theorem e50_tth (K : KT) (a : TE) (H : AH) : b50 [1,1,0] (k50_tt K) a H = m_fieldfareref1_Inttth K (a 0) (a 3) H :=
  eSeq (ca := subC (bodyC PP 50) [1,1,0,0]) (by kernel_rfl) (e50_ttht K) (by kernel_rfl)
theorem e50_tt (K : KT) (a : TE) (H : AH) : b50 [1,1] (k50 K) a H = m_fieldfareref1_Inttth K (a 0) (a 3) H :=
  eSeq0 (by kernel_rfl) (e50_tth K a H)
abbrev k50_t (K : KT) : KP := exP (fun (a : TE) (H : AH) => m_fieldfareref1_Inttth K (a 0) (a 3) H) (k50 K)
def m_fieldfareref1_Intt (K : KT) (x0 : AV) (H : AH) : Prop :=
  m_fieldfareref1_Inttth K x0 (.slice none 0 0 true) H
theorem e50_t (K : KT) (a : TE) (H : AH) : b50 [1] (k50 K) a H = m_fieldfareref1_Intt K (a 0) H :=
  eSeq (ca := subC (bodyC PP 50) [1,0]) (by kernel_rfl) (e50_tt K) (by kernel_rfl)
abbrev k50_ (K : KT) : KP := exP (fun (a : TE) (H : AH) => m_fieldfareref1_Intt K (a 0) H) (k50 K)
def m_fieldfareref1_Int (K : KT) (x0 : AV) (H : AH) : Prop :=
  m_fieldfareref1_Intt K x0 H
theorem e50_ (K : KT) (a : TE) (H : AH) : b50 [] (k50 K) a H = m_fieldfareref1_Int K (a 0) H :=
  eSeq (ca := subC (bodyC PP 50) [0]) (by kernel_rfl) (e50_t K) (by kernel_rfl)
theorem m_fieldfareref1_Int_ok (x0 : AV) (H : AH) (K : KT) (h : m_fieldfareref1_Int K x0 H) : CC.call 50 [x0] H K :=
  okM (P := PP) (by kernel_rfl) (by kernel_rfl) (by kernel_rfl) ((e50_ K (argE [x0]) H).trans (by kernel_rfl)) h

end
end Go.Ab
