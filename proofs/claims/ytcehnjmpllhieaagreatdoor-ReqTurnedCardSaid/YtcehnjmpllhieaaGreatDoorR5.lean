/- What functions do, said as what the evaluator does. Printed by a program. -/
import Derived.Test.YtcehnjmpllhieaaGreatDoorPrim25
import Derived.Test.YtcehnjmpllhieaaGreatDoorMir2
namespace Go.Ab
noncomputable section
open Go.Proofs
set_option maxRecDepth 100000



/-! 5: fieldfare/fieldfarelaw23.ReqTurned -/
abbrev bQ5 (p : List Nat) (k : KP) : KE := codeP PP C25 (subC (bodyC PP 5) p) k
abbrev kQ5 (K : KT) : KP := finP PP (resC PP 5) K
def m_fieldfarelaw23_ReqTurned (K : KT) (x0 x1 x2 : AV) (H : AH) : Prop :=
  outP C25 H (w_box 26 H x0 none) fun v1 H1 =>
  outP C25 H1 (some (.enter 7 [])) fun v2 H2 =>
  outP C25 H2 (w_un .not H2 v2) fun v3 H3 =>
  condP v3
  (K (.bool false) H3)
  (outP C25 H3 (w_load (some 11) H3 v1) fun v4 H4 =>
  outP C25 H4 (some (.enter 8 [v4])) fun v5 H5 =>
  outP C25 H5 (w_extract 0 H5 v5) fun v6 H6 =>
  outP C25 H6 (w_extract 1 H6 v5) fun v7 H7 =>
  outP C25 H7 (w_eq PP .neq 30 false true H7 v7 .nilIface) fun v8 H8 =>
  guardP (boolIs false v8) H8 (outP C25 H8 (some (.val x2 H8))) fun v9 H9 =>
  guardP (boolIs false v8) H9 (outP C25 H9 (w_int .eql H9 v9 (.int .u8 0))) fun v10 H10 =>
  outP C25 H10 (w_pick H10 v8 (.bool true) v10) fun v11 H11 =>
  condP v11
  (outP C25 H11 (w_eq PP .eql 30 false true H11 v7 .nilIface) fun v12 H12 =>
  outP C25 H12 (w_load (some 11) H12 v1) fun v13 H13 =>
  outP C25 H13 (some (.enter 9 [v13])) fun v14 H14 =>
  outP C25 H14 (w_eq PP .eql 4 false false H14 v12 v14) fun v15 H15 =>
  K v15 H15)
  (outP C25 H11 (w_len PP 27 H11 v6) fun v16 H16 =>
  outP C25 H16 (w_int .rem H16 x1 v16) fun v17 H17 =>
  outP C25 H17 (w_len PP 27 H17 v6) fun v18 H18 =>
  outP C25 H18 (w_int .add H18 v17 v18) fun v19 H19 =>
  outP C25 H19 (w_len PP 27 H19 v6) fun v20 H20 =>
  outP C25 H20 (w_int .rem H20 v19 v20) fun v21 H21 =>
  outP C25 H21 (w_indexAddr (.sl 1) H21 v6 v21) fun v22 H22 =>
  outP C25 H22 (w_load none H22 v22) fun v23 H23 =>
  outP C25 H23 (w_int .xor H23 v23 x2) fun v24 H24 =>
  outP C25 H24 (w_indexAddr (.sl 1) H24 v6 v21) fun v25 H25 =>
  outP C25 H25 (w_store 1 H25 v25 v24) fun _v26 H26 =>
  outP C25 H26 (some (.enter 13 [v6])) fun v27 H27 =>
  outP C25 H27 (w_extract 0 H27 v27) fun v28 H28 =>
  outP C25 H28 (w_extract 1 H28 v27) fun v29 H29 =>
  outP C25 H29 (w_alloc 26 [(.int .i64 0), (.str []), (.str []), (.int .i64 0), (.int .i64 0), (.int .i64 0), (.int .i64 0), (.slice none 0 0 true), (.str []), (.int .i64 0), (.int .u32 0)] H29 none) fun v30 H30 =>
  outP C25 H30 (w_store 11 H30 v30 v28) fun _v31 H31 =>
  outP C25 H31 (w_eq PP .neq 30 false true H31 v29 .nilIface) fun v32 H32 =>
  condP v32
  (outP C25 H32 (w_load (some 11) H32 v30) fun v33 H33 =>
  outP C25 H33 (w_build PP 26 H33 []) fun v34 H34 =>
  outP C25 H34 (some (.enter 14 [v33, v34])) fun v35 H35 =>
  K v35 H35)
  (outP C25 H32 (w_load (some 11) H32 v30) fun v36 H36 =>
  outP C25 H36 (some (.enter 8 [v36])) fun v37 H37 =>
  outP C25 H37 (w_extract 0 H37 v37) fun v38 H38 =>
  outP C25 H38 (w_extract 1 H38 v37) fun v39 H39 =>
  outP C25 H39 (w_eq PP .eql 30 false true H39 v39 .nilIface) fun v40 H40 =>
  guardP (boolIs true v40) H40 (outP C25 H40 (some (.val v38 H40))) fun v41 H41 =>
  guardP (boolIs true v40) H41 (outP C25 H41 (w_conv .text H41 v41 none)) fun v42 H42 =>
  guardP (boolIs true v40) H42 (outP C25 H42 (some (.val v6 H42))) fun v43 H43 =>
  guardP (boolIs true v40) H43 (outP C25 H43 (w_conv .text H43 v43 none)) fun v44 H44 =>
  guardP (boolIs true v40) H44 (outP C25 H44 (w_str .eql H44 v42 v44)) fun v45 H45 =>
  outP C25 H45 (w_pick H45 v40 v45 (.bool false)) fun v46 H46 =>
  guardP (boolIs true v46) H46 (outP C25 H46 (w_load (some 11) H46 v30)) fun v47 H47 =>
  guardP (boolIs true v46) H47 (outP C25 H47 (w_load (some 11) H47 v1)) fun v48 H48 =>
  guardP (boolIs true v46) H48 (outP C25 H48 (some (.enter 14 [v47, v48]))) fun v49 H49 =>
  guardP (boolIs true v46) H49 (outP C25 H49 (w_un .not H49 v49)) fun v50 H50 =>
  outP C25 H50 (w_pick H50 v46 v50 (.bool false)) fun v51 H51 =>
  K v51 H51)))
theorem eQ5_ (K : KT) (a : TE) (H : AH) : bQ5 [] (kQ5 K) a H = m_fieldfarelaw23_ReqTurned K (a 0) (a 1) (a 2) H :=
  by kernel_rfl
theorem m_fieldfarelaw23_ReqTurned_ok (x0 x1 x2 : AV) (H : AH) (K : KT) (h : m_fieldfarelaw23_ReqTurned K x0 x1 x2 H) : C25.call 5 [x0, x1, x2] H K :=
  have h1 : funP PP C25 5 [x0, x1, x2] H K = bQ5 [] (kQ5 K) (argE [x0, x1, x2]) H := by kernel_rfl
  have h2 : m_fieldfarelaw23_ReqTurned K (argE [x0, x1, x2] 0) (argE [x0, x1, x2] 1) (argE [x0, x1, x2] 2) H = m_fieldfarelaw23_ReqTurned K x0 x1 x2 H := by kernel_rfl
  funP_ok (P := PP) (by kernel_rfl) (by kernel_rfl) ((h1.trans ((eQ5_ K (argE [x0, x1, x2]) H).trans h2)).mpr h)

end
end Go.Ab
