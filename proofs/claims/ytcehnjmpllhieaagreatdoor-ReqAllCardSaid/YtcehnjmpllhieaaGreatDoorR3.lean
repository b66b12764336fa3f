/- What functions do, said as what the evaluator does. Printed by a program. -/
import Derived.Test.YtcehnjmpllhieaaGreatDoorPrim26
import Derived.Test.YtcehnjmpllhieaaGreatDoorMir2
namespace Go.Ab
noncomputable section
open Go.Proofs
set_option maxRecDepth 100000



/-! 3: fieldfare/fieldfarelaw23.ReqAll -/
abbrev bQ3 (p : List Nat) (k : KP) : KE := codeP PP C26 (subC (bodyC PP 3) p) k
abbrev kQ3 (K : KT) : KP := finP PP (resC PP 3) K
abbrev kQ3_tttttttt (K : KT) : KP := exP (bQ3 [1,1,1,1,1,1,1,1,1] (kQ3 K)) (kQ3 K)
abbrev kQ3_ttttttttht (K : KT) : KP := blockP 0 (kQ3_tttttttt K)
abbrev kQ3_tttttttthtb (K : KT) (r0 : (AV × AV × AV) → AH → Prop) : KP := exP (fun (a : TE) (H : AH) => r0 (a 100, a 101, a 102) H) (kQ3_ttttttttht K)
abbrev kQ3_tttttttthtbltt (K : KT) (r0 : (AV × AV × AV) → AH → Prop) : KP := exP (bQ3 [1,1,1,1,1,1,1,1,0,1,0,0,1,1,1] (kQ3_tttttttthtb K r0)) (kQ3_tttttttthtb K r0)
abbrev kQ3_tttttttthtbltth (K : KT) (r0 : (AV × AV × AV) → AH → Prop) : KP := blockP 1 (kQ3_tttttttthtbltt K r0)
def m_fieldfarelaw23_ReqAlltttttttthtbltthbtttttt (K : KT) (r0 : (AV × AV × AV) → AH → Prop) (x16 x17 x20 x100 x101 x102 : AV) (H : AH) : Prop :=
  outP C26 H (some (.enter 11 [x17])) fun v1 H1 =>
  outP C26 H1 (w_int .neq H1 v1 x20) fun v2 H2 =>
  guardP (boolIs false v2) H2 (outP C26 H2 (w_load (some 11) H2 x16)) fun v3 H3 =>
  guardP (boolIs false v2) H3 (outP C26 H3 (w_build PP 26 H3 [])) fun v4 H4 =>
  guardP (boolIs false v2) H4 (outP C26 H4 (some (.enter 14 [v3, v4]))) fun v5 H5 =>
  guardP (boolIs false v2) H5 (outP C26 H5 (w_un .not H5 v5)) fun v6 H6 =>
  outP C26 H6 (w_pick H6 v2 (.bool true) v6) fun v7 H7 =>
  condP v7
  (K (.bool false) H7)
  (outP C26 H7 (w_int .add H7 x102 (.int .i64 1)) fun v8 H8 =>
  r0 (x100, x101, v8) H8)
theorem eQ3_tttttttthtbltthbtttttt (K : KT) (r0 : (AV × AV × AV) → AH → Prop) (a : TE) (H : AH) : bQ3 [1,1,1,1,1,1,1,1,0,1,0,0,1,1,0,0,1,1,1,1,1,1] (kQ3_tttttttthtbltth K r0) a H = m_fieldfarelaw23_ReqAlltttttttthtbltthbtttttt K r0 (a 16) (a 17) (a 20) (a 100) (a 101) (a 102) H :=
  by kernel_rfl
def m_fieldfarelaw23_ReqAlltttttttthtbltthbttttt (K : KT) (r0 : (AV × AV × AV) → AH → Prop) (x15 x16 x17 x18 x19 x20 x100 x101 x102 : AV) (H : AH) : Prop :=
  outP C26 H (w_len PP 27 H x15) fun v1 H1 =>
  outP C26 H1 (w_int .gtr H1 v1 (.int .i64 400)) fun v2 H2 =>
  condP v2
  (m_fieldfarelaw23_ReqAlltttttttthtbltthbtttttt K r0 x16 x17 (.int .i64 11) x100 x101 x102 H2)
  (outP C26 H2 (w_int .gtr H2 x19 (.int .i64 0)) fun v3 H3 =>
  guardP (boolIs true v3) H3 (outP C26 H3 (some (.val x18 H3))) fun v4 H4 =>
  guardP (boolIs true v3) H4 (outP C26 H4 (w_int .lss H4 v4 (.int .i64 1))) fun v5 H5 =>
  guardP (boolIs true v3) H5 (outP C26 H5 (some (.val v5 H5))) fun v6 H6 =>
  guardP (boolIs false v6) H6 (outP C26 H6 (some (.val x18 H6))) fun v7 H7 =>
  guardP (boolIs false v6) H7 (outP C26 H7 (w_int .gtr H7 v7 (.int .i64 15))) fun v8 H8 =>
  guardP (boolIs true v3) H8 (outP C26 H8 (w_pick H8 v6 (.bool true) v8)) fun v9 H9 =>
  outP C26 H9 (w_pick H9 v3 v9 (.bool false)) fun v10 H10 =>
  condP v10
  (m_fieldfarelaw23_ReqAlltttttttthtbltthbtttttt K r0 x16 x17 (.int .i64 12) x100 x101 x102 H10)
  (m_fieldfarelaw23_ReqAlltttttttthtbltthbtttttt K r0 x16 x17 x20 x100 x101 x102 H10))
theorem eQ3_tttttttthtbltthbttttt (K : KT) (r0 : (AV × AV × AV) → AH → Prop) (a : TE) (H : AH) : bQ3 [1,1,1,1,1,1,1,1,0,1,0,0,1,1,0,0,1,1,1,1,1] (kQ3_tttttttthtbltth K r0) a H = m_fieldfarelaw23_ReqAlltttttttthtbltthbttttt K r0 (a 15) (a 16) (a 17) (a 18) (a 19) (a 20) (a 100) (a 101) (a 102) H :=
  eSeq (ca := subC (bodyC PP 3) [1,1,1,1,1,1,1,1,0,1,0,0,1,1,0,0,1,1,1,1,1,0]) (by kernel_rfl) (eQ3_tttttttthtbltthbtttttt K r0) (by kernel_rfl)
def m_fieldfarelaw23_ReqAlltttttttthtbltthbtttt (K : KT) (r0 : (AV × AV × AV) → AH → Prop) (x15 x16 x17 x18 x19 x100 x101 x102 : AV) (H : AH) : Prop :=
  m_fieldfarelaw23_ReqAlltttttttthtbltthbttttt K r0 x15 x16 x17 x18 x19 (.int .i64 1) x100 x101 x102 H
theorem eQ3_tttttttthtbltthbtttt (K : KT) (r0 : (AV × AV × AV) → AH → Prop) (a : TE) (H : AH) : bQ3 [1,1,1,1,1,1,1,1,0,1,0,0,1,1,0,0,1,1,1,1] (kQ3_tttttttthtbltth K r0) a H = m_fieldfarelaw23_ReqAlltttttttthtbltthbtttt K r0 (a 15) (a 16) (a 17) (a 18) (a 19) (a 100) (a 101) (a 102) H :=
  eSeq (ca := subC (bodyC PP 3) [1,1,1,1,1,1,1,1,0,1,0,0,1,1,0,0,1,1,1,1,0]) (by kernel_rfl) (eQ3_tttttttthtbltthbttttt K r0) (by kernel_rfl)
def m_fieldfarelaw23_ReqAlltttttttthtbltthbttt (K : KT) (r0 : (AV × AV × AV) → AH → Prop) (x15 x16 x17 x100 x101 x102 : AV) (H : AH) : Prop :=
  outP C26 H (some (.enter 15 [x15])) fun v1 H1 =>
  outP C26 H1 (w_extract 0 H1 v1) fun v2 H2 =>
  outP C26 H2 (w_extract 1 H2 v1) fun v3 H3 =>
  m_fieldfarelaw23_ReqAlltttttttthtbltthbtttt K r0 x15 x16 x17 v2 v3 x100 x101 x102 H3
theorem eQ3_tttttttthtbltthbttt (K : KT) (r0 : (AV × AV × AV) → AH → Prop) (a : TE) (H : AH) : bQ3 [1,1,1,1,1,1,1,1,0,1,0,0,1,1,0,0,1,1,1] (kQ3_tttttttthtbltth K r0) a H = m_fieldfarelaw23_ReqAlltttttttthtbltthbttt K r0 (a 15) (a 16) (a 17) (a 100) (a 101) (a 102) H :=
  eSeq (ca := subC (bodyC PP 3) [1,1,1,1,1,1,1,1,0,1,0,0,1,1,0,0,1,1,1,0]) (by kernel_rfl) (eQ3_tttttttthtbltthbtttt K r0) (by kernel_rfl)
def m_fieldfarelaw23_ReqAlltttttttthtbltthbtt (K : KT) (r0 : (AV × AV × AV) → AH → Prop) (x14 x15 x16 x17 x100 x101 x102 : AV) (H : AH) : Prop :=
  outP C26 H (w_eq PP .eql 30 false true H x17 .nilIface) fun v1 H1 =>
  condP v1
  (outP C26 H1 (w_int .gtr H1 x14 (.int .i64 0)) fun v2 H2 =>
  guardP (boolIs false v2) H2 (outP C26 H2 (w_load (some 11) H2 x16)) fun v3 H3 =>
  guardP (boolIs false v2) H3 (outP C26 H3 (some (.val x15 H3))) fun v4 H4 =>
  guardP (boolIs false v2) H4 (outP C26 H4 (w_conv .text H4 v4 none)) fun v5 H5 =>
  guardP (boolIs false v2) H5 (outP C26 H5 (some (.enter 12 [v3]))) fun v6 H6 =>
  ckP (reC (boolIs false v2) (w_conv .text H6 v4 none) v5) <|
  guardP (boolIs false v2) H6 (outP C26 H6 (w_conv .text H6 v6 none)) fun v7 H7 =>
  guardP (boolIs false v2) H7 (outP C26 H7 (w_str .neq H7 v7 v5)) fun v8 H8 =>
  outP C26 H8 (w_pick H8 v2 (.bool true) v8) fun v9 H9 =>
  guardP (boolIs false v9) H9 (outP C26 H9 (w_load (some 11) H9 x16)) fun v10 H10 =>
  guardP (boolIs false v9) H10 (outP C26 H10 (some (.enter 9 [v10]))) fun v11 H11 =>
  guardP (boolIs false v9) H11 (outP C26 H11 (w_un .not H11 v11)) fun v12 H12 =>
  outP C26 H12 (w_pick H12 v9 (.bool true) v12) fun v13 H13 =>
  condP v13
  (K (.bool false) H13)
  (outP C26 H13 (w_int .add H13 x102 (.int .i64 1)) fun v14 H14 =>
  r0 (x100, x101, v14) H14))
  (m_fieldfarelaw23_ReqAlltttttttthtbltthbttt K r0 x15 x16 x17 x100 x101 x102 H1)
theorem eQ3_tttttttthtbltthbtt (K : KT) (r0 : (AV × AV × AV) → AH → Prop) (a : TE) (H : AH) : bQ3 [1,1,1,1,1,1,1,1,0,1,0,0,1,1,0,0,1,1] (kQ3_tttttttthtbltth K r0) a H = m_fieldfarelaw23_ReqAlltttttttthtbltthbtt K r0 (a 14) (a 15) (a 16) (a 17) (a 100) (a 101) (a 102) H :=
  eSeq (ca := subC (bodyC PP 3) [1,1,1,1,1,1,1,1,0,1,0,0,1,1,0,0,1,1,0]) (by kernel_rfl) (eQ3_tttttttthtbltthbttt K r0) (by kernel_rfl)
def m_fieldfarelaw23_ReqAlltttttttthtbltthbt (K : KT) (r0 : (AV × AV × AV) → AH → Prop) (x14 x15 x100 x101 x102 : AV) (H : AH) : Prop :=
  outP C26 H (some (.enter 13 [x15])) fun v1 H1 =>
  outP C26 H1 (w_extract 0 H1 v1) fun v2 H2 =>
  outP C26 H2 (w_extract 1 H2 v1) fun v3 H3 =>
  outP C26 H3 (w_alloc 26 [(.int .i64 0), (.str []), (.str []), (.int .i64 0), (.int .i64 0), (.int .i64 0), (.int .i64 0), (.slice none 0 0 true), (.str []), (.int .i64 0), (.int .u32 0)] H3 none) fun v4 H4 =>
  outP C26 H4 (w_store 11 H4 v4 v2) fun _v5 H5 =>
  m_fieldfarelaw23_ReqAlltttttttthtbltthbtt K r0 x14 x15 v4 v3 x100 x101 x102 H5
theorem eQ3_tttttttthtbltthbt (K : KT) (r0 : (AV × AV × AV) → AH → Prop) (a : TE) (H : AH) : bQ3 [1,1,1,1,1,1,1,1,0,1,0,0,1,1,0,0,1] (kQ3_tttttttthtbltth K r0) a H = m_fieldfarelaw23_ReqAlltttttttthtbltthbt K r0 (a 14) (a 15) (a 100) (a 101) (a 102) H :=
  eSeq (ca := subC (bodyC PP 3) [1,1,1,1,1,1,1,1,0,1,0,0,1,1,0,0,1,0]) (by kernel_rfl) (eQ3_tttttttthtbltthbtt K r0) (by kernel_rfl)
def m_fieldfarelaw23_ReqAlltttttttthtbltthb (K : KT) (r0 : (AV × AV × AV) → AH → Prop) (x100 x101 x102 : AV) (H : AH) : Prop :=
  outP C26 H (w_indexAddr (.sl 1) H x100 x102) fun v1 H1 =>
  outP C26 H1 (w_load none H1 v1) fun v2 H2 =>
  m_fieldfarelaw23_ReqAlltttttttthtbltthbt K r0 x102 v2 x100 x101 x102 H2
theorem eQ3_tttttttthtbltthb (K : KT) (r0 : (AV × AV × AV) → AH → Prop) (a : TE) (H : AH) : bQ3 [1,1,1,1,1,1,1,1,0,1,0,0,1,1,0,0] (kQ3_tttttttthtbltth K r0) a H = m_fieldfarelaw23_ReqAlltttttttthtbltthb K r0 (a 100) (a 101) (a 102) H :=
  eSeq (ca := subC (bodyC PP 3) [1,1,1,1,1,1,1,1,0,1,0,0,1,1,0,0,0]) (by kernel_rfl) (eQ3_tttttttthtbltthbt K r0) (by kernel_rfl)
theorem eQ3_tttttttthtbltth (K : KT) (r0 : (AV × AV × AV) → AH → Prop) (a : TE) (H : AH) : bQ3 [1,1,1,1,1,1,1,1,0,1,0,0,1,1,0] (kQ3_tttttttthtbltt K r0) a H = m_fieldfarelaw23_ReqAlltttttttthtbltthb K r0 (a 100) (a 101) (a 102) H :=
  eBlockK 1 (by kernel_rfl) (by kernel_rfl) (eQ3_tttttttthtbltthb K r0 a H)
theorem eQ3_tttttttthtbltt (K : KT) (r0 : (AV × AV × AV) → AH → Prop) (a : TE) (H : AH) : bQ3 [1,1,1,1,1,1,1,1,0,1,0,0,1,1] (kQ3_tttttttthtb K r0) a H = m_fieldfarelaw23_ReqAlltttttttthtbltthb K r0 (a 100) (a 101) (a 102) H :=
  eSeqJ (subC (bodyC PP 3) [1,1,1,1,1,1,1,1,0,1,0,0,1,1,1]) (by kernel_rfl) (by kernel_rfl) (eQ3_tttttttthtbltth K r0 a H)
def m_fieldfarelaw23_ReqAlltttttttthtblt (K : KT) (r0 : (AV × AV × AV) → AH → Prop) (x100 x101 x102 x103 : AV) (H : AH) : Prop :=
  condP x103
  (m_fieldfarelaw23_ReqAlltttttttthtbltthb K r0 x100 x101 x102 H)
  (K (.bool true) H)
theorem eQ3_tttttttthtblt (K : KT) (r0 : (AV × AV × AV) → AH → Prop) (a : TE) (H : AH) : bQ3 [1,1,1,1,1,1,1,1,0,1,0,0,1] (kQ3_tttttttthtb K r0) a H = m_fieldfarelaw23_ReqAlltttttttthtblt K r0 (a 100) (a 101) (a 102) (a 103) H :=
  eSeq (ca := subC (bodyC PP 3) [1,1,1,1,1,1,1,1,0,1,0,0,1,0]) (by kernel_rfl) (eQ3_tttttttthtbltt K r0) (by kernel_rfl)
def m_fieldfarelaw23_ReqAlltttttttthtbl (K : KT) (r0 : (AV × AV × AV) → AH → Prop) (x100 x101 x102 : AV) (H : AH) : Prop :=
  outP C26 H (w_int .lss H x102 x101) fun v1 H1 =>
  m_fieldfarelaw23_ReqAlltttttttthtblt K r0 x100 x101 x102 v1 H1
theorem eQ3_tttttttthtbl (K : KT) (r0 : (AV × AV × AV) → AH → Prop) (a : TE) (H : AH) : bQ3 [1,1,1,1,1,1,1,1,0,1,0,0] (kQ3_tttttttthtb K r0) a H = m_fieldfarelaw23_ReqAlltttttttthtbl K r0 (a 100) (a 101) (a 102) H :=
  eSeq (ca := subC (bodyC PP 3) [1,1,1,1,1,1,1,1,0,1,0,0,0]) (by kernel_rfl) (eQ3_tttttttthtblt K r0) (by kernel_rfl)
def m_fieldfarelaw23_ReqAlltttttttthtb (K : KT) (x100 x101 x102 : AV) (H : AH) : Prop :=
  loopP (fun (r0 : (AV × AV × AV) → AH → Prop) (s : (AV × AV × AV)) (H : AH) => m_fieldfarelaw23_ReqAlltttttttthtbl K r0 s.1 s.2.1 s.2.2 H) (x100, x101, x102) H
theorem eQ3_tttttttthtb (K : KT) (a : TE) (H : AH) : bQ3 [1,1,1,1,1,1,1,1,0,1,0] (kQ3_ttttttttht K) a H = m_fieldfarelaw23_ReqAlltttttttthtb K (a 100) (a 101) (a 102) H :=
  eLoopK (S := (AV × AV × AV)) (fun a => (a 100, a 101, a 102)) (fun r0 s H => m_fieldfarelaw23_ReqAlltttttttthtbl K r0 s.1 s.2.1 s.2.2 H) (by kernel_rfl) (fun r => by kernel_rfl) (eQ3_tttttttthtbl K)
theorem eQ3_ttttttttht (K : KT) (a : TE) (H : AH) : bQ3 [1,1,1,1,1,1,1,1,0,1] (kQ3_tttttttt K) a H = m_fieldfarelaw23_ReqAlltttttttthtb K (a 100) (a 101) (a 102) H :=
  eBlockK 0 (by kernel_rfl) (by kernel_rfl) (eQ3_tttttttthtb K a H)
def m_fieldfarelaw23_ReqAlltttttttth (K : KT) (x11 : AV) (H : AH) : Prop :=
  outP C26 H (w_len PP 36 H x11) fun v1 H1 =>
  m_fieldfarelaw23_ReqAlltttttttthtb K x11 v1 (.int .i64 0) H1
theorem eQ3_tttttttth (K : KT) (a : TE) (H : AH) : bQ3 [1,1,1,1,1,1,1,1,0] (kQ3_tttttttt K) a H = m_fieldfarelaw23_ReqAlltttttttth K (a 11) H :=
  eSeq (ca := subC (bodyC PP 3) [1,1,1,1,1,1,1,1,0,0]) (by kernel_rfl) (eQ3_ttttttttht K) (by kernel_rfl)
theorem eQ3_tttttttt (K : KT) (a : TE) (H : AH) : bQ3 [1,1,1,1,1,1,1,1] (kQ3 K) a H = m_fieldfarelaw23_ReqAlltttttttth K (a 11) H :=
  eSeqJ (subC (bodyC PP 3) [1,1,1,1,1,1,1,1,1]) (by kernel_rfl) (by kernel_rfl) (eQ3_tttttttth K a H)
def m_fieldfarelaw23_ReqAllttttttt (K : KT) (x1 x3 x8 x10 x11 : AV) (H : AH) : Prop :=
  condP x10
  (outP C26 H (w_conv .text H x8 none) fun v1 H1 =>
  outP C26 H1 (w_load (some 11) H1 x3) fun v2 H2 =>
  outP C26 H2 (some (.enter 12 [v2])) fun v3 H3 =>
  ckP (reC true (w_conv .text H3 x8 none) v1) <|
  outP C26 H3 (w_conv .text H3 v3 none) fun v4 H4 =>
  outP C26 H4 (w_str .neq H4 v1 v4) fun v5 H5 =>
  condP v5
  (K (.bool false) H5)
  (outP C26 H5 (some (.enter 13 [x8])) fun v6 H6 =>
  outP C26 H6 (w_extract 0 H6 v6) fun v7 H7 =>
  outP C26 H7 (w_extract 1 H7 v6) fun v8 H8 =>
  outP C26 H8 (w_alloc 26 [(.int .i64 0), (.str []), (.str []), (.int .i64 0), (.int .i64 0), (.int .i64 0), (.int .i64 0), (.slice none 0 0 true), (.str []), (.int .i64 0), (.int .u32 0)] H8 none) fun v9 H9 =>
  outP C26 H9 (w_store 11 H9 v9 v7) fun _v10 H10 =>
  outP C26 H10 (w_eq PP .neq 30 false true H10 v8 .nilIface) fun v11 H11 =>
  guardP (boolIs false v11) H11 (outP C26 H11 (w_load (some 11) H11 v9)) fun v12 H12 =>
  guardP (boolIs false v11) H12 (outP C26 H12 (w_load (some 11) H12 x3)) fun v13 H13 =>
  guardP (boolIs false v11) H13 (outP C26 H13 (some (.enter 14 [v12, v13]))) fun v14 H14 =>
  guardP (boolIs false v11) H14 (outP C26 H14 (w_un .not H14 v14)) fun v15 H15 =>
  outP C26 H15 (w_pick H15 v11 (.bool true) v15) fun v16 H16 =>
  condP v16
  (K (.bool false) H16)
  (outP C26 (H16.more 2) (w_len PP 27 (H16.more 2) x8) fun v17 H17 =>
  outP C26 H17 (w_int .rem H17 x1 v17) fun v18 H18 =>
  outP C26 H18 (w_len PP 27 H18 x8) fun v19 H19 =>
  outP C26 H19 (w_int .add H19 v18 v19) fun v20 H20 =>
  outP C26 H20 (w_len PP 27 H20 x8) fun v21 H21 =>
  outP C26 H21 (w_int .rem H21 v20 v21) fun v22 H22 =>
  outP C26 H22 (w_slice (.sl 1) true false H22 x8 none (some v22) none) fun v23 H23 =>
  outP C26 H23 (w_append 5 1 1 H23 (.slice none 0 0 true) x8 none) fun v24 H24 =>
  ckP (reC true (w_len PP 27 H24 x8) v17) <|
  ckP (reC true (w_len PP 27 H24 x8) v19) <|
  ckP (reC true (w_len PP 27 H24 x8) v21) <|
  outP C26 H24 (w_buildSlice PP 5 1 H24 [(0, (.int .u8 0))] (some (Nat.add H16.next 0))) fun v25 H25 =>
  outP C26 H25 (w_append 5 1 1 H25 v24 v25 none) fun v26 H26 =>
  ckP (reC true (w_len PP 27 H26 x8) v17) <|
  ckP (reC true (w_len PP 27 H26 x8) v19) <|
  ckP (reC true (w_len PP 27 H26 x8) v21) <|
  outP C26 H26 (w_buildSlice PP 27 2 H26 [(0, v23), (1, v26)] (some (Nat.add H16.next 1))) fun v27 H27 =>
  outP C26 H27 (w_append 27 1 24 H27 x11 v27 none) fun v28 H28 =>
  m_fieldfarelaw23_ReqAlltttttttth K v28 H28)))
  (m_fieldfarelaw23_ReqAlltttttttth K x11 H)
theorem eQ3_ttttttt (K : KT) (a : TE) (H : AH) : bQ3 [1,1,1,1,1,1,1] (kQ3 K) a H = m_fieldfarelaw23_ReqAllttttttt K (a 1) (a 3) (a 8) (a 10) (a 11) H :=
  eSeq (ca := subC (bodyC PP 3) [1,1,1,1,1,1,1,0]) (by kernel_rfl) (eQ3_tttttttt K) (by kernel_rfl)
def m_fieldfarelaw23_ReqAlltttttt (K : KT) (x1 x2 x3 x8 x10 : AV) (H : AH) : Prop :=
  outP C26 H (w_len PP 27 H x2) fun v1 H1 =>
  outP C26 H1 (w_min2 H1 v1 (.int .i64 500)) fun v2 H2 =>
  outP C26 H2 (w_slice (.sl 1) true false H2 x2 none (some v2) none) fun v3 H3 =>
  outP C26 H3 (w_buildSlice PP 27 1 H3 [(0, v3)] none) fun v4 H4 =>
  m_fieldfarelaw23_ReqAllttttttt K x1 x3 x8 x10 v4 H4
theorem eQ3_tttttt (K : KT) (a : TE) (H : AH) : bQ3 [1,1,1,1,1,1] (kQ3 K) a H = m_fieldfarelaw23_ReqAlltttttt K (a 1) (a 2) (a 3) (a 8) (a 10) H :=
  eSeq (ca := subC (bodyC PP 3) [1,1,1,1,1,1,0]) (by kernel_rfl) (eQ3_ttttttt K) (by kernel_rfl)
def m_fieldfarelaw23_ReqAllttttt (K : KT) (x1 x2 x3 x8 x9 x10 : AV) (H : AH) : Prop :=
  outP C26 H (w_load (some 11) H x3) fun v1 H1 =>
  outP C26 H1 (some (.enter 10 [v1])) fun v2 H2 =>
  outP C26 H2 (w_eq PP .neq 4 false false H2 v2 x10) fun v3 H3 =>
  guardP (boolIs false v3) H3 (outP C26 H3 (some (.val x9 H3))) fun v4 H4 =>
  guardP (boolIs false v3) H4 (outP C26 H4 (w_eq PP .eql 30 false true H4 v4 .nilIface)) fun v5 H5 =>
  guardP (boolIs false v3) H5 (outP C26 H5 (some (.val x10 H5))) fun v6 H6 =>
  guardP (boolIs false v3) H6 (outP C26 H6 (w_eq PP .neq 4 false false H6 v5 v6)) fun v7 H7 =>
  outP C26 H7 (w_pick H7 v3 (.bool true) v7) fun v8 H8 =>
  guardP (boolIs false v8) H8 (outP C26 H8 (some (.val x9 H8))) fun v9 H9 =>
  guardP (boolIs false v8) H9 (outP C26 H9 (w_eq PP .neq 30 false true H9 v9 .nilIface)) fun v10 H10 =>
  guardP (boolIs false v8) H10 (outP C26 H10 (some (.val v10 H10))) fun v11 H11 =>
  guardP (boolIs true v11) H11 (outP C26 H11 (some (.val x9 H11))) fun v12 H12 =>
  guardP (boolIs true v11) H12 (outP C26 H12 (some (.enter 11 [v12]))) fun v13 H13 =>
  guardP (boolIs true v11) H13 (outP C26 H13 (w_int .neq H13 v13 (.int .i64 1))) fun v14 H14 =>
  guardP (boolIs true v11) H14 (outP C26 H14 (some (.val v14 H14))) fun v15 H15 =>
  guardP (boolIs false v15) H15 (outP C26 H15 (some (.val x8 H15))) fun v16 H16 =>
  guardP (boolIs false v15) H16 (outP C26 H16 (w_len PP 27 H16 v16)) fun v17 H17 =>
  guardP (boolIs false v15) H17 (outP C26 H17 (w_int .neq H17 v17 (.int .i64 0))) fun v18 H18 =>
  guardP (boolIs true v11) H18 (outP C26 H18 (w_pick H18 v15 (.bool true) v18)) fun v19 H19 =>
  guardP (boolIs false v8) H19 (outP C26 H19 (w_pick H19 v11 v19 (.bool false))) fun v20 H20 =>
  outP C26 H20 (w_pick H20 v8 (.bool true) v20) fun v21 H21 =>
  condP v21
  (K (.bool false) H21)
  (m_fieldfarelaw23_ReqAlltttttt K x1 x2 x3 x8 x10 H21)
theorem eQ3_ttttt (K : KT) (a : TE) (H : AH) : bQ3 [1,1,1,1,1] (kQ3 K) a H = m_fieldfarelaw23_ReqAllttttt K (a 1) (a 2) (a 3) (a 8) (a 9) (a 10) H :=
  eSeq (ca := subC (bodyC PP 3) [1,1,1,1,1,0]) (by kernel_rfl) (eQ3_tttttt K) (by kernel_rfl)
def m_fieldfarelaw23_ReqAlltttt (K : KT) (x1 x2 x3 x8 x9 : AV) (H : AH) : Prop :=
  outP C26 H (w_load (some 11) H x3) fun v1 H1 =>
  outP C26 H1 (some (.enter 9 [v1])) fun v2 H2 =>
  m_fieldfarelaw23_ReqAllttttt K x1 x2 x3 x8 x9 v2 H2
theorem eQ3_tttt (K : KT) (a : TE) (H : AH) : bQ3 [1,1,1,1] (kQ3 K) a H = m_fieldfarelaw23_ReqAlltttt K (a 1) (a 2) (a 3) (a 8) (a 9) H :=
  eSeq (ca := subC (bodyC PP 3) [1,1,1,1,0]) (by kernel_rfl) (eQ3_ttttt K) (by kernel_rfl)
def m_fieldfarelaw23_ReqAllttt (K : KT) (x1 x2 x3 : AV) (H : AH) : Prop :=
  outP C26 H (w_load (some 11) H x3) fun v1 H1 =>
  outP C26 H1 (some (.enter 8 [v1])) fun v2 H2 =>
  outP C26 H2 (w_extract 0 H2 v2) fun v3 H3 =>
  outP C26 H3 (w_extract 1 H3 v2) fun v4 H4 =>
  m_fieldfarelaw23_ReqAlltttt K x1 x2 x3 v3 v4 H4
theorem eQ3_ttt (K : KT) (a : TE) (H : AH) : bQ3 [1,1,1] (kQ3 K) a H = m_fieldfarelaw23_ReqAllttt K (a 1) (a 2) (a 3) H :=
  eSeq (ca := subC (bodyC PP 3) [1,1,1,0]) (by kernel_rfl) (eQ3_tttt K) (by kernel_rfl)
def m_fieldfarelaw23_ReqAlltt (K : KT) (x1 x2 x3 x7 : AV) (H : AH) : Prop :=
  outP C26 H (w_un .not H x7) fun v1 H1 =>
  condP v1
  (K (.bool false) H1)
  (m_fieldfarelaw23_ReqAllttt K x1 x2 x3 H1)
theorem eQ3_tt (K : KT) (a : TE) (H : AH) : bQ3 [1,1] (kQ3 K) a H = m_fieldfarelaw23_ReqAlltt K (a 1) (a 2) (a 3) (a 7) H :=
  eSeq (ca := subC (bodyC PP 3) [1,1,0]) (by kernel_rfl) (eQ3_ttt K) (by kernel_rfl)
def m_fieldfarelaw23_ReqAllt (K : KT) (x1 x2 x3 : AV) (H : AH) : Prop :=
  outP C26 H (some (.enter 7 [])) fun v1 H1 =>
  m_fieldfarelaw23_ReqAlltt K x1 x2 x3 v1 H1
theorem eQ3_t (K : KT) (a : TE) (H : AH) : bQ3 [1] (kQ3 K) a H = m_fieldfarelaw23_ReqAllt K (a 1) (a 2) (a 3) H :=
  eSeq (ca := subC (bodyC PP 3) [1,0]) (by kernel_rfl) (eQ3_tt K) (by kernel_rfl)
def m_fieldfarelaw23_ReqAll (K : KT) (x0 x1 x2 : AV) (H : AH) : Prop :=
  outP C26 H (w_box 26 H x0 none) fun v1 H1 =>
  m_fieldfarelaw23_ReqAllt K x1 x2 v1 H1
theorem eQ3_ (K : KT) (a : TE) (H : AH) : bQ3 [] (kQ3 K) a H = m_fieldfarelaw23_ReqAll K (a 0) (a 1) (a 2) H :=
  eSeq (ca := subC (bodyC PP 3) [0]) (by kernel_rfl) (eQ3_t K) (by kernel_rfl)
theorem m_fieldfarelaw23_ReqAll_ok (x0 x1 x2 : AV) (H : AH) (K : KT) (h : m_fieldfarelaw23_ReqAll K x0 x1 x2 H) : C26.call 3 [x0, x1, x2] H K :=
  have h1 : funP PP C26 3 [x0, x1, x2] H K = bQ3 [] (kQ3 K) (argE [x0, x1, x2]) H := by kernel_rfl
  have h2 : m_fieldfarelaw23_ReqAll K (argE [x0, x1, x2] 0) (argE [x0, x1, x2] 1) (argE [x0, x1, x2] 2) H = m_fieldfarelaw23_ReqAll K x0 x1 x2 H := by kernel_rfl
  funP_ok (P := PP) (by kernel_rfl) (by kernel_rfl) ((h1.trans ((eQ3_ K (argE [x0, x1, x2]) H).trans h2)).mpr h)

end
end Go.Ab
