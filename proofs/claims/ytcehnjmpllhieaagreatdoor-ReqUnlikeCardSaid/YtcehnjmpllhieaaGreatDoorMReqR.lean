/- What functions do, said as what the evaluator does. Printed by a program. -/
import Derived.Test.YtcehnjmpllhieaaGreatDoorBeg
import Derived.Test.YtcehnjmpllhieaaGreatDoorMir
namespace Go.Ab
noncomputable section
open Go.Proofs
set_option maxRecDepth 100000



/-! 9: fieldfare/fieldfareref18.MayOp -/
abbrev b9 (p : List Nat) (k : KP) : KE := codeP PP CC (subC (bodyC PP 9) p) k
abbrev k9 (K : KT) : KP := finP PP (resC PP 9) K
def m_fieldfareref18_MayOptttttttt (K : KT) (x1 x5 x6 : AV) (H : AH) : Prop :=
  guardP (boolIs false x6) H (outP CC H (w_fieldAddr 7 H x1)) fun v1 H1 =>
  guardP (boolIs false x6) H1 (outP CC H1 (w_load none H1 v1)) fun v2 H2 =>
  guardP (boolIs false x6) H2 (outP CC H2 (w_len PP 23 H2 v2)) fun v3 H3 =>
  guardP (boolIs false x6) H3 (outP CC H3 (w_int .eql H3 v3 (.int .i64 0))) fun v4 H4 =>
  outP CC H4 (w_pick H4 x6 (.bool true) v4) fun v5 H5 =>
  guardP (boolIs true v5) H5 (outP CC H5 (w_fieldAddr 1 H5 x5)) fun v6 H6 =>
  guardP (boolIs true v5) H6 (outP CC H6 (w_load none H6 v6)) fun v7 H7 =>
  guardP (boolIs true v5) H7 (outP CC H7 (w_str .eql H7 v7 (.str []))) fun v8 H8 =>
  outP CC H8 (w_pick H8 v5 v8 (.bool false)) fun v9 H9 =>
  guardP (boolIs true v9) H9 (outP CC H9 (w_fieldAddr 2 H9 x5)) fun v10 H10 =>
  guardP (boolIs true v9) H10 (outP CC H10 (w_load none H10 v10)) fun v11 H11 =>
  guardP (boolIs true v9) H11 (outP CC H11 (w_str .eql H11 v11 (.str []))) fun v12 H12 =>
  outP CC H12 (w_pick H12 v9 v12 (.bool false)) fun v13 H13 =>
  guardP (boolIs true v13) H13 (outP CC H13 (w_fieldAddr 8 H13 x5)) fun v14 H14 =>
  guardP (boolIs true v13) H14 (outP CC H14 (w_load none H14 v14)) fun v15 H15 =>
  guardP (boolIs true v13) H15 (outP CC H15 (w_str .eql H15 v15 (.str []))) fun v16 H16 =>
  outP CC H16 (w_pick H16 v13 v16 (.bool false)) fun v17 H17 =>
  guardP (boolIs true v17) H17 (outP CC H17 (w_fieldAddr 3 H17 x5)) fun v18 H18 =>
  guardP (boolIs true v17) H18 (outP CC H18 (w_load none H18 v18)) fun v19 H19 =>
  guardP (boolIs true v17) H19 (outP CC H19 (w_int .eql H19 v19 (.int .i64 0))) fun v20 H20 =>
  outP CC H20 (w_pick H20 v17 v20 (.bool false)) fun v21 H21 =>
  guardP (boolIs true v21) H21 (outP CC H21 (w_fieldAddr 4 H21 x5)) fun v22 H22 =>
  guardP (boolIs true v21) H22 (outP CC H22 (w_load none H22 v22)) fun v23 H23 =>
  guardP (boolIs true v21) H23 (outP CC H23 (w_int .eql H23 v23 (.int .i64 0))) fun v24 H24 =>
  outP CC H24 (w_pick H24 v21 v24 (.bool false)) fun v25 H25 =>
  guardP (boolIs true v25) H25 (outP CC H25 (w_fieldAddr 5 H25 x5)) fun v26 H26 =>
  guardP (boolIs true v25) H26 (outP CC H26 (w_load none H26 v26)) fun v27 H27 =>
  guardP (boolIs true v25) H27 (outP CC H27 (w_int .eql H27 v27 (.int .i64 0))) fun v28 H28 =>
  outP CC H28 (w_pick H28 v25 v28 (.bool false)) fun v29 H29 =>
  guardP (boolIs true v29) H29 (outP CC H29 (w_fieldAddr 6 H29 x5)) fun v30 H30 =>
  guardP (boolIs true v29) H30 (outP CC H30 (w_load none H30 v30)) fun v31 H31 =>
  guardP (boolIs true v29) H31 (outP CC H31 (w_int .eql H31 v31 (.int .i64 0))) fun v32 H32 =>
  outP CC H32 (w_pick H32 v29 v32 (.bool false)) fun v33 H33 =>
  guardP (boolIs true v33) H33 (outP CC H33 (w_fieldAddr 9 H33 x5)) fun v34 H34 =>
  guardP (boolIs true v33) H34 (outP CC H34 (w_load none H34 v34)) fun v35 H35 =>
  guardP (boolIs true v33) H35 (outP CC H35 (w_int .eql H35 v35 (.int .i64 0))) fun v36 H36 =>
  outP CC H36 (w_pick H36 v33 v36 (.bool false)) fun v37 H37 =>
  guardP (boolIs true v37) H37 (outP CC H37 (w_fieldAddr 10 H37 x5)) fun v38 H38 =>
  guardP (boolIs true v37) H38 (outP CC H38 (w_load none H38 v38)) fun v39 H39 =>
  guardP (boolIs true v37) H39 (outP CC H39 (w_int .eql H39 v39 (.int .u32 0))) fun v40 H40 =>
  outP CC H40 (w_pick H40 v37 v40 (.bool false)) fun v41 H41 =>
  K v41 H41
theorem e9_tttttttt (K : KT) (a : TE) (H : AH) : b9 [1,1,1,1,1,1,1,1] (k9 K) a H = m_fieldfareref18_MayOptttttttt K (a 1) (a 5) (a 6) H :=
  by kernel_rfl
abbrev k9_ttttttt (K : KT) : KP := exP (fun (a : TE) (H : AH) => m_fieldfareref18_MayOptttttttt K (a 1) (a 5) (a 6) H) (k9 K)
abbrev k9_tttttttht (K : KT) : KP := blockP 2 (k9_ttttttt K)
def m_fieldfareref18_MayOpttttttthtbty (K : KT) (x1 x5 x6 : AV) (H : AH) : Prop :=
  outP CC H (w_fieldAddr 4 H x5) fun v1 H1 =>
  outP CC H1 (w_store 1 H1 v1 (.int .i64 0)) fun _v2 H2 =>
  outP CC H2 (w_fieldAddr 5 H2 x5) fun v3 H3 =>
  outP CC H3 (w_store 1 H3 v3 (.int .i64 0)) fun _v4 H4 =>
  outP CC H4 (w_fieldAddr 6 H4 x5) fun v5 H5 =>
  outP CC H5 (w_store 1 H5 v5 (.int .i64 0)) fun _v6 H6 =>
  m_fieldfareref18_MayOptttttttt K x1 x5 x6 H6
theorem e9_ttttttthtbty (K : KT) (a : TE) (H : AH) : b9 [1,1,1,1,1,1,1,0,1,0,1,0] (k9_tttttttht K) a H = m_fieldfareref18_MayOpttttttthtbty K (a 1) (a 5) (a 6) H :=
  by kernel_rfl
def m_fieldfareref18_MayOpttttttthtbtnty (K : KT) (x1 x5 : AV) (H : AH) : Prop :=
  outP CC H (w_fieldAddr 3 H x5) fun v1 H1 =>
  outP CC H1 (w_store 1 H1 v1 (.int .i64 0)) fun _v2 H2 =>
  outP CC H2 (w_fieldAddr 8 H2 x5) fun v3 H3 =>
  outP CC H3 (w_store 1 H3 v3 (.str [])) fun _v4 H4 =>
  outP CC H4 (w_fieldAddr 10 H4 x5) fun v5 H5 =>
  outP CC H5 (w_store 1 H5 v5 (.int .u32 0)) fun _v6 H6 =>
  m_fieldfareref18_MayOptttttttt K x1 x5 (.bool true) H6
theorem e9_ttttttthtbtnty (K : KT) (a : TE) (H : AH) : b9 [1,1,1,1,1,1,1,0,1,0,1,1,1,0] (k9_tttttttht K) a H = m_fieldfareref18_MayOpttttttthtbtnty K (a 1) (a 5) H :=
  by kernel_rfl
def m_fieldfareref18_MayOpttttttthtbtntnt (K : KT) (x1 x5 x6 x85 x96 : AV) (H : AH) : Prop :=
  condP x96
  (outP CC H (w_fieldAddr 3 H x5) fun v1 H1 =>
  outP CC H1 (w_store 1 H1 v1 (.int .i64 0)) fun _v2 H2 =>
  m_fieldfareref18_MayOptttttttt K x1 x5 x6 H2)
  (outP CC H (w_int .eql H x85 (.int .i64 5)) fun v3 H3 =>
  condP v3
  (outP CC H3 (w_fieldAddr 2 H3 x5) fun v4 H4 =>
  outP CC H4 (w_store 1 H4 v4 (.str [])) fun _v5 H5 =>
  m_fieldfareref18_MayOptttttttt K x1 x5 x6 H5)
  (outP CC H3 (w_int .eql H3 x85 (.int .i64 6)) fun v6 H6 =>
  condP v6
  (outP CC H6 (w_fieldAddr 6 H6 x5) fun v7 H7 =>
  outP CC H7 (w_store 1 H7 v7 (.int .i64 0)) fun _v8 H8 =>
  m_fieldfareref18_MayOptttttttt K x1 x5 x6 H8)
  (outP CC H6 (w_int .eql H6 x85 (.int .i64 10)) fun v9 H9 =>
  condP v9
  (outP CC H9 (w_fieldAddr 10 H9 x5) fun v10 H10 =>
  outP CC H10 (w_store 1 H10 v10 (.int .u32 0)) fun _v11 H11 =>
  m_fieldfareref18_MayOptttttttt K x1 x5 x6 H11)
  (outP CC H9 (w_int .eql H9 x85 (.int .i64 13)) fun v12 H12 =>
  condP v12
  (outP CC H12 (w_fieldAddr 9 H12 x5) fun v13 H13 =>
  outP CC H13 (w_store 1 H13 v13 (.int .i64 0)) fun _v14 H14 =>
  m_fieldfareref18_MayOptttttttt K x1 x5 (.bool true) H14)
  (m_fieldfareref18_MayOptttttttt K x1 x5 x6 H12)))))
theorem e9_ttttttthtbtntnt (K : KT) (a : TE) (H : AH) : b9 [1,1,1,1,1,1,1,0,1,0,1,1,1,1,1] (k9_tttttttht K) a H = m_fieldfareref18_MayOpttttttthtbtntnt K (a 1) (a 5) (a 6) (a 85) (a 96) H :=
  by kernel_rfl
abbrev k9_ttttttthtbtntn (K : KT) : KP := exP (fun (a : TE) (H : AH) => m_fieldfareref18_MayOpttttttthtbtntnt K (a 1) (a 5) (a 6) (a 85) (a 96) H) (k9_tttttttht K)
def m_fieldfareref18_MayOpttttttthtbtntn (K : KT) (x1 x5 x6 x85 : AV) (H : AH) : Prop :=
  outP CC H (w_int .eql H x85 (.int .i64 4)) fun v1 H1 =>
  condP v1
  (m_fieldfareref18_MayOpttttttthtbtntnt K x1 x5 x6 x85 v1 H1)
  (outP CC H1 (w_int .eql H1 x85 (.int .i64 12)) fun v2 H2 =>
  m_fieldfareref18_MayOpttttttthtbtntnt K x1 x5 x6 x85 v2 H2)
theorem e9_ttttttthtbtntn (K : KT) (a : TE) (H : AH) : b9 [1,1,1,1,1,1,1,0,1,0,1,1,1,1] (k9_tttttttht K) a H = m_fieldfareref18_MayOpttttttthtbtntn K (a 1) (a 5) (a 6) (a 85) H :=
  eSeq (ca := subC (bodyC PP 9) [1,1,1,1,1,1,1,0,1,0,1,1,1,1,0]) (by kernel_rfl) (e9_ttttttthtbtntnt K) (by kernel_rfl)
def m_fieldfareref18_MayOpttttttthtbtnt (K : KT) (x1 x5 x6 x85 x91 : AV) (H : AH) : Prop :=
  condP x91 (m_fieldfareref18_MayOpttttttthtbtnty K x1 x5 H) (m_fieldfareref18_MayOpttttttthtbtntn K x1 x5 x6 x85 H)
theorem e9_ttttttthtbtnt (K : KT) (a : TE) (H : AH) : b9 [1,1,1,1,1,1,1,0,1,0,1,1,1] (k9_tttttttht K) a H = m_fieldfareref18_MayOpttttttthtbtnt K (a 1) (a 5) (a 6) (a 85) (a 91) H :=
  eCond (o := .tmp 91) (by kernel_rfl) (e9_ttttttthtbtnty K a H) (e9_ttttttthtbtntn K a H)
abbrev k9_ttttttthtbtn (K : KT) : KP := exP (fun (a : TE) (H : AH) => m_fieldfareref18_MayOpttttttthtbtnt K (a 1) (a 5) (a 6) (a 85) (a 91) H) (k9_tttttttht K)
def m_fieldfareref18_MayOpttttttthtbtn (K : KT) (x1 x5 x6 x85 : AV) (H : AH) : Prop :=
  outP CC H (w_int .eql H x85 (.int .i64 3)) fun v1 H1 =>
  m_fieldfareref18_MayOpttttttthtbtnt K x1 x5 x6 x85 v1 H1
theorem e9_ttttttthtbtn (K : KT) (a : TE) (H : AH) : b9 [1,1,1,1,1,1,1,0,1,0,1,1] (k9_tttttttht K) a H = m_fieldfareref18_MayOpttttttthtbtn K (a 1) (a 5) (a 6) (a 85) H :=
  eSeq (ca := subC (bodyC PP 9) [1,1,1,1,1,1,1,0,1,0,1,1,0]) (by kernel_rfl) (e9_ttttttthtbtnt K) (by kernel_rfl)
def m_fieldfareref18_MayOpttttttthtbt (K : KT) (x1 x5 x6 x85 x86 : AV) (H : AH) : Prop :=
  condP x86 (m_fieldfareref18_MayOpttttttthtbty K x1 x5 x6 H) (m_fieldfareref18_MayOpttttttthtbtn K x1 x5 x6 x85 H)
theorem e9_ttttttthtbt (K : KT) (a : TE) (H : AH) : b9 [1,1,1,1,1,1,1,0,1,0,1] (k9_tttttttht K) a H = m_fieldfareref18_MayOpttttttthtbt K (a 1) (a 5) (a 6) (a 85) (a 86) H :=
  eCond (o := .tmp 86) (by kernel_rfl) (e9_ttttttthtbty K a H) (e9_ttttttthtbtn K a H)
abbrev k9_ttttttthtb (K : KT) : KP := exP (fun (a : TE) (H : AH) => m_fieldfareref18_MayOpttttttthtbt K (a 1) (a 5) (a 6) (a 85) (a 86) H) (k9_tttttttht K)
def m_fieldfareref18_MayOpttttttthtb (K : KT) (x1 x5 x6 x85 : AV) (H : AH) : Prop :=
  outP CC H (w_int .eql H x85 (.int .i64 1)) fun v1 H1 =>
  m_fieldfareref18_MayOpttttttthtbt K x1 x5 x6 x85 v1 H1
theorem e9_ttttttthtb (K : KT) (a : TE) (H : AH) : b9 [1,1,1,1,1,1,1,0,1,0] (k9_tttttttht K) a H = m_fieldfareref18_MayOpttttttthtb K (a 1) (a 5) (a 6) (a 85) H :=
  eSeq (ca := subC (bodyC PP 9) [1,1,1,1,1,1,1,0,1,0,0]) (by kernel_rfl) (e9_ttttttthtbt K) (by kernel_rfl)
theorem e9_tttttttht (K : KT) (a : TE) (H : AH) : b9 [1,1,1,1,1,1,1,0,1] (k9_ttttttt K) a H = m_fieldfareref18_MayOpttttttthtb K (a 1) (a 5) (a 6) (a 85) H :=
  eBlock (by kernel_rfl) (e9_ttttttthtb K a H)
abbrev k9_ttttttth (K : KT) : KP := exP (fun (a : TE) (H : AH) => m_fieldfareref18_MayOpttttttthtb K (a 1) (a 5) (a 6) (a 85) H) (k9_ttttttt K)
def m_fieldfareref18_MayOpttttttth (K : KT) (x1 x5 x6 : AV) (H : AH) : Prop :=
  outP CC H (w_fieldAddr 0 H x1) fun v1 H1 =>
  outP CC H1 (w_load none H1 v1) fun v2 H2 =>
  m_fieldfareref18_MayOpttttttthtb K x1 x5 x6 v2 H2
theorem e9_ttttttth (K : KT) (a : TE) (H : AH) : b9 [1,1,1,1,1,1,1,0] (k9_ttttttt K) a H = m_fieldfareref18_MayOpttttttth K (a 1) (a 5) (a 6) H :=
  eSeq (ca := subC (bodyC PP 9) [1,1,1,1,1,1,1,0,0]) (by kernel_rfl) (e9_tttttttht K) (by kernel_rfl)
theorem e9_ttttttt (K : KT) (a : TE) (H : AH) : b9 [1,1,1,1,1,1,1] (k9 K) a H = m_fieldfareref18_MayOpttttttth K (a 1) (a 5) (a 6) H :=
  eSeq (by kernel_rfl) (e9_tttttttt K) (e9_ttttttth K a H)
abbrev k9_tttttt (K : KT) : KP := exP (fun (a : TE) (H : AH) => m_fieldfareref18_MayOpttttttth K (a 1) (a 5) (a 6) H) (k9 K)
def m_fieldfareref18_MayOptttttt (K : KT) (x1 x5 x6 : AV) (H : AH) : Prop :=
  outP CC H (w_fieldAddr 0 H x1) fun v1 H1 =>
  outP CC H1 (w_load none H1 v1) fun v2 H2 =>
  outP CC H2 (w_int .leq H2 v2 (.int .i64 6)) fun v3 H3 =>
  guardP (boolIs false v3) H3 (outP CC H3 (w_fieldAddr 0 H3 x1)) fun v4 H4 =>
  guardP (boolIs false v3) H4 (outP CC H4 (w_load none H4 v4)) fun v5 H5 =>
  guardP (boolIs false v3) H5 (outP CC H5 (w_int .eql H5 v5 (.int .i64 12))) fun v6 H6 =>
  outP CC H6 (w_pick H6 v3 (.bool true) v6) fun v7 H7 =>
  guardP (boolIs false v7) H7 (outP CC H7 (w_fieldAddr 0 H7 x1)) fun v8 H8 =>
  guardP (boolIs false v7) H8 (outP CC H8 (w_load none H8 v8)) fun v9 H9 =>
  guardP (boolIs false v7) H9 (outP CC H9 (w_int .eql H9 v9 (.int .i64 13))) fun v10 H10 =>
  outP CC H10 (w_pick H10 v7 (.bool true) v10) fun v11 H11 =>
  guardP (boolIs false v11) H11 (outP CC H11 (w_fieldAddr 0 H11 x1)) fun v12 H12 =>
  guardP (boolIs false v11) H12 (outP CC H12 (w_load none H12 v12)) fun v13 H13 =>
  guardP (boolIs false v11) H13 (outP CC H13 (w_int .eql H13 v13 (.int .i64 15))) fun v14 H14 =>
  outP CC H14 (w_pick H14 v11 (.bool true) v14) fun v15 H15 =>
  condP v15
  (outP CC H15 (w_fieldAddr 1 H15 x5) fun v16 H16 =>
  outP CC H16 (w_store 1 H16 v16 (.str [])) fun _v17 H17 =>
  m_fieldfareref18_MayOpttttttth K x1 x5 x6 H17)
  (m_fieldfareref18_MayOpttttttth K x1 x5 x6 H15)
theorem e9_tttttt (K : KT) (a : TE) (H : AH) : b9 [1,1,1,1,1,1] (k9 K) a H = m_fieldfareref18_MayOptttttt K (a 1) (a 5) (a 6) H :=
  eSeq (ca := subC (bodyC PP 9) [1,1,1,1,1,1,0]) (by kernel_rfl) (e9_ttttttt K) (by kernel_rfl)
abbrev k9_ttttt (K : KT) : KP := exP (fun (a : TE) (H : AH) => m_fieldfareref18_MayOptttttt K (a 1) (a 5) (a 6) H) (k9 K)
def m_fieldfareref18_MayOpttttt (K : KT) (x1 x5 : AV) (H : AH) : Prop :=
  m_fieldfareref18_MayOptttttt K x1 x5 (.bool false) H
theorem e9_ttttt (K : KT) (a : TE) (H : AH) : b9 [1,1,1,1,1] (k9 K) a H = m_fieldfareref18_MayOpttttt K (a 1) (a 5) H :=
  eSeq (ca := subC (bodyC PP 9) [1,1,1,1,1,0]) (by kernel_rfl) (e9_tttttt K) (by kernel_rfl)
abbrev k9_tttt (K : KT) : KP := exP (fun (a : TE) (H : AH) => m_fieldfareref18_MayOpttttt K (a 1) (a 5) H) (k9 K)
def m_fieldfareref18_MayOptttt (K : KT) (x1 x5 : AV) (H : AH) : Prop :=
  outP CC H (w_fieldAddr 0 H x5) fun v1 H1 =>
  outP CC H1 (w_store 1 H1 v1 (.int .i64 0)) fun _v2 H2 =>
  outP CC H2 (w_fieldAddr 7 H2 x5) fun v3 H3 =>
  outP CC H3 (w_store 1 H3 v3 (.slice none 0 0 true)) fun _v4 H4 =>
  m_fieldfareref18_MayOpttttt K x1 x5 H4
theorem e9_tttt (K : KT) (a : TE) (H : AH) : b9 [1,1,1,1] (k9 K) a H = m_fieldfareref18_MayOptttt K (a 1) (a 5) H :=
  eSeq (ca := subC (bodyC PP 9) [1,1,1,1,0]) (by kernel_rfl) (e9_ttttt K) (by kernel_rfl)
abbrev k9_ttt (K : KT) : KP := exP (fun (a : TE) (H : AH) => m_fieldfareref18_MayOptttt K (a 1) (a 5) H) (k9 K)
def m_fieldfareref18_MayOpttt (K : KT) (x1 : AV) (H : AH) : Prop :=
  outP CC H (w_load (some 11) H x1) fun v1 H1 =>
  outP CC H1 (w_alloc 26 [(.int .i64 0), (.str []), (.str []), (.int .i64 0), (.int .i64 0), (.int .i64 0), (.int .i64 0), (.slice none 0 0 true), (.str []), (.int .i64 0), (.int .u32 0)] H1 none) fun v2 H2 =>
  outP CC H2 (w_store 11 H2 v2 v1) fun _v3 H3 =>
  m_fieldfareref18_MayOptttt K x1 v2 H3
theorem e9_ttt (K : KT) (a : TE) (H : AH) : b9 [1,1,1] (k9 K) a H = m_fieldfareref18_MayOpttt K (a 1) H :=
  eSeq (ca := subC (bodyC PP 9) [1,1,1,0]) (by kernel_rfl) (e9_tttt K) (by kernel_rfl)
abbrev k9_tt (K : KT) : KP := exP (fun (a : TE) (H : AH) => m_fieldfareref18_MayOpttt K (a 1) H) (k9 K)
abbrev k9_ttht (K : KT) : KP := blockP 0 (k9_tt K)
abbrev k9_tthtb (K : KT) (r0 : (AV × AV × AV × AV) → AH → Prop) : KP := exP (fun (a : TE) (H : AH) => r0 (a 1, a 49, a 50, a 51) H) (k9_ttht K)
def m_fieldfareref18_MayOptthtbl (K : KT) (r0 : (AV × AV × AV × AV) → AH → Prop) (x1 x49 x50 x51 : AV) (H : AH) : Prop :=
  outP CC H (w_int .lss H x51 x50) fun v1 H1 =>
  condP v1
  (outP CC H1 (w_indexAddr (.sl 1) H1 x49 x51) fun v2 H2 =>
  outP CC H2 (w_load none H2 v2) fun v3 H3 =>
  outP CC H3 (w_int .lss H3 v3 (.int .i64 0)) fun v4 H4 =>
  guardP (boolIs false v4) H4 (outP CC H4 (some (.val v3 H4))) fun v5 H5 =>
  guardP (boolIs false v4) H5 (outP CC H5 (w_int .gtr H5 v5 (.int .i64 1000000))) fun v6 H6 =>
  outP CC H6 (w_pick H6 v4 (.bool true) v6) fun v7 H7 =>
  condP v7
  (K (.bool false) H7)
  (outP CC H7 (w_int .add H7 x51 (.int .i64 1)) fun v8 H8 =>
  r0 (x1, x49, x50, v8) H8))
  (m_fieldfareref18_MayOpttt K x1 H1)
theorem e9_tthtbl (K : KT) (r0 : (AV × AV × AV × AV) → AH → Prop) (a : TE) (H : AH) : b9 [1,1,0,1,0,0] (k9_tthtb K r0) a H = m_fieldfareref18_MayOptthtbl K r0 (a 1) (a 49) (a 50) (a 51) H :=
  by kernel_rfl
def m_fieldfareref18_MayOptthtb (K : KT) (x1 x49 x50 x51 : AV) (H : AH) : Prop :=
  loopP (fun (r0 : (AV × AV × AV × AV) → AH → Prop) (s : (AV × AV × AV × AV)) (H : AH) => m_fieldfareref18_MayOptthtbl K r0 s.1 s.2.1 s.2.2.1 s.2.2.2 H) (x1, x49, x50, x51) H
theorem e9_tthtb (K : KT) (a : TE) (H : AH) : b9 [1,1,0,1,0] (k9_ttht K) a H = m_fieldfareref18_MayOptthtb K (a 1) (a 49) (a 50) (a 51) H :=
  eLoop (S := (AV × AV × AV × AV)) (fun a => (a 1, a 49, a 50, a 51)) (fun r0 s H => m_fieldfareref18_MayOptthtbl K r0 s.1 s.2.1 s.2.2.1 s.2.2.2 H) (by kernel_rfl) (e9_tthtbl K)
theorem e9_ttht (K : KT) (a : TE) (H : AH) : b9 [1,1,0,1] (k9_tt K) a H = m_fieldfareref18_MayOptthtb K (a 1) (a 49) (a 50) (a 51) H :=
  eBlock (by kernel_rfl) (e9_tthtb K a H)
abbrev k9_tth (K : KT) : KP := exP (fun (a : TE) (H : AH) => m_fieldfareref18_MayOptthtb K (a 1) (a 49) (a 50) (a 51) H) (k9_tt K)
def m_fieldfareref18_MayOptth (K : KT) (x1 : AV) (H : AH) : Prop :=
  outP CC H (w_fieldAddr 3 H x1) fun v1 H1 =>
  outP CC H1 (w_load none H1 v1) fun v2 H2 =>
  outP CC H2 (w_fieldAddr 4 H2 x1) fun v3 H3 =>
  outP CC H3 (w_load none H3 v3) fun v4 H4 =>
  outP CC H4 (w_fieldAddr 5 H4 x1) fun v5 H5 =>
  outP CC H5 (w_load none H5 v5) fun v6 H6 =>
  outP CC H6 (w_fieldAddr 6 H6 x1) fun v7 H7 =>
  outP CC H7 (w_load none H7 v7) fun v8 H8 =>
  outP CC H8 (w_fieldAddr 9 H8 x1) fun v9 H9 =>
  outP CC H9 (w_load none H9 v9) fun v10 H10 =>
  outP CC H10 (w_buildSlice PP 3 5 H10 [(0, v2), (1, v4), (2, v6), (3, v8), (4, v10)] none) fun v11 H11 =>
  outP CC H11 (w_len PP 69 H11 v11) fun v12 H12 =>
  m_fieldfareref18_MayOptthtb K x1 v11 v12 (.int .i64 0) H12
theorem e9_tth (K : KT) (a : TE) (H : AH) : b9 [1,1,0] (k9_tt K) a H = m_fieldfareref18_MayOptth K (a 1) H :=
  eSeq (ca := subC (bodyC PP 9) [1,1,0,0]) (by kernel_rfl) (e9_ttht K) (by kernel_rfl)
theorem e9_tt (K : KT) (a : TE) (H : AH) : b9 [1,1] (k9 K) a H = m_fieldfareref18_MayOptth K (a 1) H :=
  eSeq (by kernel_rfl) (e9_ttt K) (e9_tth K a H)
abbrev k9_t (K : KT) : KP := exP (fun (a : TE) (H : AH) => m_fieldfareref18_MayOptth K (a 1) H) (k9 K)
def m_fieldfareref18_MayOpt (K : KT) (x1 : AV) (H : AH) : Prop :=
  outP CC H (w_fieldAddr 0 H x1) fun v1 H1 =>
  outP CC H1 (w_load none H1 v1) fun v2 H2 =>
  outP CC H2 (w_int .lss H2 v2 (.int .i64 1)) fun v3 H3 =>
  guardP (boolIs false v3) H3 (outP CC H3 (w_fieldAddr 0 H3 x1)) fun v4 H4 =>
  guardP (boolIs false v3) H4 (outP CC H4 (w_load none H4 v4)) fun v5 H5 =>
  guardP (boolIs false v3) H5 (outP CC H5 (w_int .gtr H5 v5 (.int .i64 15))) fun v6 H6 =>
  outP CC H6 (w_pick H6 v3 (.bool true) v6) fun v7 H7 =>
  guardP (boolIs false v7) H7 (outP CC H7 (w_fieldAddr 1 H7 x1)) fun v8 H8 =>
  guardP (boolIs false v7) H8 (outP CC H8 (w_load none H8 v8)) fun v9 H9 =>
  guardP (boolIs false v7) H9 (outP CC H9 (w_len PP 9 H9 v9)) fun v10 H10 =>
  guardP (boolIs false v7) H10 (outP CC H10 (w_int .gtr H10 v10 (.int .i64 12))) fun v11 H11 =>
  outP CC H11 (w_pick H11 v7 (.bool true) v11) fun v12 H12 =>
  guardP (boolIs false v12) H12 (outP CC H12 (w_fieldAddr 2 H12 x1)) fun v13 H13 =>
  guardP (boolIs false v12) H13 (outP CC H13 (w_load none H13 v13)) fun v14 H14 =>
  guardP (boolIs false v12) H14 (outP CC H14 (w_len PP 9 H14 v14)) fun v15 H15 =>
  guardP (boolIs false v12) H15 (outP CC H15 (w_int .gtr H15 v15 (.int .i64 12))) fun v16 H16 =>
  outP CC H16 (w_pick H16 v12 (.bool true) v16) fun v17 H17 =>
  guardP (boolIs false v17) H17 (outP CC H17 (w_fieldAddr 7 H17 x1)) fun v18 H18 =>
  guardP (boolIs false v17) H18 (outP CC H18 (w_load none H18 v18)) fun v19 H19 =>
  guardP (boolIs false v17) H19 (outP CC H19 (w_len PP 23 H19 v19)) fun v20 H20 =>
  guardP (boolIs false v17) H20 (outP CC H20 (w_int .gtr H20 v20 (.int .i64 8))) fun v21 H21 =>
  outP CC H21 (w_pick H21 v17 (.bool true) v21) fun v22 H22 =>
  guardP (boolIs false v22) H22 (outP CC H22 (w_fieldAddr 8 H22 x1)) fun v23 H23 =>
  guardP (boolIs false v22) H23 (outP CC H23 (w_load none H23 v23)) fun v24 H24 =>
  guardP (boolIs false v22) H24 (outP CC H24 (w_len PP 9 H24 v24)) fun v25 H25 =>
  guardP (boolIs false v22) H25 (outP CC H25 (w_int .gtr H25 v25 (.int .i64 40))) fun v26 H26 =>
  outP CC H26 (w_pick H26 v22 (.bool true) v26) fun v27 H27 =>
  condP v27
  (K (.bool false) H27)
  (m_fieldfareref18_MayOptth K x1 H27)
theorem e9_t (K : KT) (a : TE) (H : AH) : b9 [1] (k9 K) a H = m_fieldfareref18_MayOpt K (a 1) H :=
  eSeq (ca := subC (bodyC PP 9) [1,0]) (by kernel_rfl) (e9_tt K) (by kernel_rfl)
abbrev k9_ (K : KT) : KP := exP (fun (a : TE) (H : AH) => m_fieldfareref18_MayOpt K (a 1) H) (k9 K)
def m_fieldfareref18_MayOp (K : KT) (x0 : AV) (H : AH) : Prop :=
  outP CC H (w_box 26 H x0 none) fun v1 H1 =>
  m_fieldfareref18_MayOpt K v1 H1
theorem e9_ (K : KT) (a : TE) (H : AH) : b9 [] (k9 K) a H = m_fieldfareref18_MayOp K (a 0) H :=
  eSeq (ca := subC (bodyC PP 9) [0]) (by kernel_rfl) (e9_t K) (by kernel_rfl)
theorem m_fieldfareref18_MayOp_ok (x0 : AV) (H : AH) (K : KT) (h : m_fieldfareref18_MayOp K x0 H) : CC.call 9 [x0] H K :=
  okM (P := PP) (by kernel_rfl) (by kernel_rfl) (by kernel_rfl) ((e9_ K (argE [x0]) H).trans (by kernel_rfl)) h

/-! 14: fieldfare/fieldfarelaw23.sameOp -/
abbrev b14 (p : List Nat) (k : KP) : KE := codeP PP CC (subC (bodyC PP 14) p) k
abbrev k14 (K : KT) : KP := finP PP (resC PP 14) K
def m_fieldfarelaw23_sameOp (K : KT) (x0 x1 : AV) (H : AH) : Prop :=
  outP CC H (w_box 26 H x0 none) fun v1 H1 =>
  outP CC H1 (w_box 26 H1 x1 none) fun v2 H2 =>
  outP CC H2 (w_fieldAddr 7 H2 v1) fun v3 H3 =>
  outP CC H3 (w_load none H3 v3) fun v4 H4 =>
  outP CC H4 (w_fieldAddr 7 H4 v2) fun v5 H5 =>
  outP CC H5 (w_load none H5 v5) fun v6 H6 =>
  outP CC H6 (some (.enter 61 [v4, v6])) fun v7 H7 =>
  outP CC H7 (w_un .not H7 v7) fun v8 H8 =>
  condP v8
  (K (.bool false) H8)
  (outP CC H8 (w_fieldAddr 0 H8 v1) fun v9 H9 =>
  outP CC H9 (w_load none H9 v9) fun v10 H10 =>
  outP CC H10 (w_fieldAddr 0 H10 v2) fun v11 H11 =>
  outP CC H11 (w_load none H11 v11) fun v12 H12 =>
  outP CC H12 (w_int .eql H12 v10 v12) fun v13 H13 =>
  guardP (boolIs true v13) H13 (outP CC H13 (w_fieldAddr 1 H13 v1)) fun v14 H14 =>
  guardP (boolIs true v13) H14 (outP CC H14 (w_load none H14 v14)) fun v15 H15 =>
  guardP (boolIs true v13) H15 (outP CC H15 (w_fieldAddr 1 H15 v2)) fun v16 H16 =>
  guardP (boolIs true v13) H16 (outP CC H16 (w_load none H16 v16)) fun v17 H17 =>
  guardP (boolIs true v13) H17 (outP CC H17 (w_str .eql H17 v15 v17)) fun v18 H18 =>
  outP CC H18 (w_pick H18 v13 v18 (.bool false)) fun v19 H19 =>
  guardP (boolIs true v19) H19 (outP CC H19 (w_fieldAddr 2 H19 v1)) fun v20 H20 =>
  guardP (boolIs true v19) H20 (outP CC H20 (w_load none H20 v20)) fun v21 H21 =>
  guardP (boolIs true v19) H21 (outP CC H21 (w_fieldAddr 2 H21 v2)) fun v22 H22 =>
  guardP (boolIs true v19) H22 (outP CC H22 (w_load none H22 v22)) fun v23 H23 =>
  guardP (boolIs true v19) H23 (outP CC H23 (w_str .eql H23 v21 v23)) fun v24 H24 =>
  outP CC H24 (w_pick H24 v19 v24 (.bool false)) fun v25 H25 =>
  guardP (boolIs true v25) H25 (outP CC H25 (w_fieldAddr 3 H25 v1)) fun v26 H26 =>
  guardP (boolIs true v25) H26 (outP CC H26 (w_load none H26 v26)) fun v27 H27 =>
  guardP (boolIs true v25) H27 (outP CC H27 (w_fieldAddr 3 H27 v2)) fun v28 H28 =>
  guardP (boolIs true v25) H28 (outP CC H28 (w_load none H28 v28)) fun v29 H29 =>
  guardP (boolIs true v25) H29 (outP CC H29 (w_int .eql H29 v27 v29)) fun v30 H30 =>
  outP CC H30 (w_pick H30 v25 v30 (.bool false)) fun v31 H31 =>
  guardP (boolIs true v31) H31 (outP CC H31 (w_fieldAddr 4 H31 v1)) fun v32 H32 =>
  guardP (boolIs true v31) H32 (outP CC H32 (w_load none H32 v32)) fun v33 H33 =>
  guardP (boolIs true v31) H33 (outP CC H33 (w_fieldAddr 4 H33 v2)) fun v34 H34 =>
  guardP (boolIs true v31) H34 (outP CC H34 (w_load none H34 v34)) fun v35 H35 =>
  guardP (boolIs true v31) H35 (outP CC H35 (w_int .eql H35 v33 v35)) fun v36 H36 =>
  outP CC H36 (w_pick H36 v31 v36 (.bool false)) fun v37 H37 =>
  guardP (boolIs true v37) H37 (outP CC H37 (w_fieldAddr 5 H37 v1)) fun v38 H38 =>
  guardP (boolIs true v37) H38 (outP CC H38 (w_load none H38 v38)) fun v39 H39 =>
  guardP (boolIs true v37) H39 (outP CC H39 (w_fieldAddr 5 H39 v2)) fun v40 H40 =>
  guardP (boolIs true v37) H40 (outP CC H40 (w_load none H40 v40)) fun v41 H41 =>
  guardP (boolIs true v37) H41 (outP CC H41 (w_int .eql H41 v39 v41)) fun v42 H42 =>
  outP CC H42 (w_pick H42 v37 v42 (.bool false)) fun v43 H43 =>
  guardP (boolIs true v43) H43 (outP CC H43 (w_fieldAddr 6 H43 v1)) fun v44 H44 =>
  guardP (boolIs true v43) H44 (outP CC H44 (w_load none H44 v44)) fun v45 H45 =>
  guardP (boolIs true v43) H45 (outP CC H45 (w_fieldAddr 6 H45 v2)) fun v46 H46 =>
  guardP (boolIs true v43) H46 (outP CC H46 (w_load none H46 v46)) fun v47 H47 =>
  guardP (boolIs true v43) H47 (outP CC H47 (w_int .eql H47 v45 v47)) fun v48 H48 =>
  outP CC H48 (w_pick H48 v43 v48 (.bool false)) fun v49 H49 =>
  guardP (boolIs true v49) H49 (outP CC H49 (w_fieldAddr 8 H49 v1)) fun v50 H50 =>
  guardP (boolIs true v49) H50 (outP CC H50 (w_load none H50 v50)) fun v51 H51 =>
  guardP (boolIs true v49) H51 (outP CC H51 (w_fieldAddr 8 H51 v2)) fun v52 H52 =>
  guardP (boolIs true v49) H52 (outP CC H52 (w_load none H52 v52)) fun v53 H53 =>
  guardP (boolIs true v49) H53 (outP CC H53 (w_str .eql H53 v51 v53)) fun v54 H54 =>
  outP CC H54 (w_pick H54 v49 v54 (.bool false)) fun v55 H55 =>
  guardP (boolIs true v55) H55 (outP CC H55 (w_fieldAddr 9 H55 v1)) fun v56 H56 =>
  guardP (boolIs true v55) H56 (outP CC H56 (w_load none H56 v56)) fun v57 H57 =>
  guardP (boolIs true v55) H57 (outP CC H57 (w_fieldAddr 9 H57 v2)) fun v58 H58 =>
  guardP (boolIs true v55) H58 (outP CC H58 (w_load none H58 v58)) fun v59 H59 =>
  guardP (boolIs true v55) H59 (outP CC H59 (w_int .eql H59 v57 v59)) fun v60 H60 =>
  outP CC H60 (w_pick H60 v55 v60 (.bool false)) fun v61 H61 =>
  guardP (boolIs true v61) H61 (outP CC H61 (w_fieldAddr 10 H61 v1)) fun v62 H62 =>
  guardP (boolIs true v61) H62 (outP CC H62 (w_load none H62 v62)) fun v63 H63 =>
  guardP (boolIs true v61) H63 (outP CC H63 (w_fieldAddr 10 H63 v2)) fun v64 H64 =>
  guardP (boolIs true v61) H64 (outP CC H64 (w_load none H64 v64)) fun v65 H65 =>
  guardP (boolIs true v61) H65 (outP CC H65 (w_int .eql H65 v63 v65)) fun v66 H66 =>
  outP CC H66 (w_pick H66 v61 v66 (.bool false)) fun v67 H67 =>
  K v67 H67)
theorem e14_ (K : KT) (a : TE) (H : AH) : b14 [] (k14 K) a H = m_fieldfarelaw23_sameOp K (a 0) (a 1) H :=
  by kernel_rfl
theorem m_fieldfarelaw23_sameOp_ok (x0 x1 : AV) (H : AH) (K : KT) (h : m_fieldfarelaw23_sameOp K x0 x1 H) : CC.call 14 [x0, x1] H K :=
  okM (P := PP) (by kernel_rfl) (by kernel_rfl) (by kernel_rfl) ((e14_ K (argE [x0, x1]) H).trans (by kernel_rfl)) h

end
end Go.Ab
