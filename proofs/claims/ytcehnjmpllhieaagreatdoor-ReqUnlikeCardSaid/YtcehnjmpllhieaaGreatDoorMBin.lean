/- What functions do, said as what the evaluator does. Printed by a program. -/
import Derived.Test.YtcehnjmpllhieaaGreatDoorBeg
import Derived.Test.YtcehnjmpllhieaaGreatDoorMir
namespace Go.Ab
noncomputable section
open Go.Proofs
set_option maxRecDepth 100000



/-! 104: fieldfare/bin.size -/
abbrev b104 (p : List Nat) (k : KP) : KE := codeP PP CC (subC (bodyC PP 104) p) k
abbrev k104 (K : KT) : KP := finP PP (resC PP 104) K
abbrev k104_ttt (K : KT) : KP := exP (b104 [1,1,1,1] (k104 K)) (k104 K)
abbrev k104_ttth (K : KT) : KP := blockP 0 (k104_ttt K)
abbrev k104_ttthb (K : KT) (r0 : (AV × AV) → AH → Prop) : KP := exP (fun (a : TE) (H : AH) => r0 (a 0, a 3) H) (k104_ttth K)
def m_bin_sizettthbl (K : KT) (r0 : (AV × AV) → AH → Prop) (x0 x3 : AV) (H : AH) : Prop :=
  outP CC H (w_int .lss H x3 (.int .i64 8)) fun v1 H1 =>
  guardP (boolIs true v1) H1 (outP CC H1 (some (.val x0 H1))) fun v2 H2 =>
  guardP (boolIs true v1) H2 (outP CC H2 (some (.val x0 H2))) fun v3 H3 =>
  guardP (boolIs true v1) H3 (outP CC H3 (some (.val x3 H3))) fun v4 H4 =>
  guardP (boolIs true v1) H4 (outP CC H4 (w_int .sub H4 (.int .i64 8) v4)) fun v5 H5 =>
  guardP (boolIs true v1) H5 (outP CC H5 (w_int .mul H5 (.int .i64 8) v5)) fun v6 H6 =>
  guardP (boolIs true v1) H6 (outP CC H6 (w_sh .shl H6 v3 v6)) fun v7 H7 =>
  guardP (boolIs true v1) H7 (outP CC H7 (some (.val x3 H7))) fun v8 H8 =>
  guardP (boolIs true v1) H8 (outP CC H8 (w_int .sub H8 (.int .i64 8) v8)) fun v9 H9 =>
  guardP (boolIs true v1) H9 (outP CC H9 (w_int .mul H9 (.int .i64 8) v9)) fun v10 H10 =>
  guardP (boolIs true v1) H10 (outP CC H10 (w_sh .shr H10 v7 v10)) fun v11 H11 =>
  guardP (boolIs true v1) H11 (outP CC H11 (w_int .neq H11 v2 v11)) fun v12 H12 =>
  outP CC H12 (w_pick H12 v1 v12 (.bool false)) fun v13 H13 =>
  condP v13
  (outP CC H13 (w_int .add H13 x3 (.int .i64 1)) fun v14 H14 =>
  r0 (x0, v14) H14)
  (K x3 H13)
theorem e104_ttthbl (K : KT) (r0 : (AV × AV) → AH → Prop) (a : TE) (H : AH) : b104 [1,1,1,0,0,0] (k104_ttthb K r0) a H = m_bin_sizettthbl K r0 (a 0) (a 3) H :=
  by kernel_rfl
def m_bin_sizettthb (K : KT) (x0 x3 : AV) (H : AH) : Prop :=
  loopP (fun (r0 : (AV × AV) → AH → Prop) (s : (AV × AV)) (H : AH) => m_bin_sizettthbl K r0 s.1 s.2 H) (x0, x3) H
theorem e104_ttthb (K : KT) (a : TE) (H : AH) : b104 [1,1,1,0,0] (k104_ttth K) a H = m_bin_sizettthb K (a 0) (a 3) H :=
  eLoop (S := (AV × AV)) (fun a => (a 0, a 3)) (fun r0 s H => m_bin_sizettthbl K r0 s.1 s.2 H) (by kernel_rfl) (e104_ttthbl K)
theorem e104_ttth (K : KT) (a : TE) (H : AH) : b104 [1,1,1,0] (k104_ttt K) a H = m_bin_sizettthb K (a 0) (a 3) H :=
  eBlock (by kernel_rfl) (e104_ttthb K a H)
theorem e104_ttt (K : KT) (a : TE) (H : AH) : b104 [1,1,1] (k104 K) a H = m_bin_sizettthb K (a 0) (a 3) H :=
  eSeq0 (by kernel_rfl) (e104_ttth K a H)
abbrev k104_tt (K : KT) : KP := exP (fun (a : TE) (H : AH) => m_bin_sizettthb K (a 0) (a 3) H) (k104 K)
def m_bin_sizett (K : KT) (x0 : AV) (H : AH) : Prop :=
  m_bin_sizettthb K x0 (.int .i64 1) H
theorem e104_tt (K : KT) (a : TE) (H : AH) : b104 [1,1] (k104 K) a H = m_bin_sizett K (a 0) H :=
  eSeq (ca := subC (bodyC PP 104) [1,1,0]) (by kernel_rfl) (e104_ttt K) (by kernel_rfl)
abbrev k104_t (K : KT) : KP := exP (fun (a : TE) (H : AH) => m_bin_sizett K (a 0) H) (k104 K)
def m_bin_sizet (K : KT) (x0 : AV) (H : AH) : Prop :=
  outP CC H (w_int .eql H x0 (.int .i64 0)) fun v1 H1 =>
  condP v1
  (K (.int .i64 0) H1)
  (m_bin_sizett K x0 H1)
theorem e104_t (K : KT) (a : TE) (H : AH) : b104 [1] (k104 K) a H = m_bin_sizet K (a 0) H :=
  eSeq (ca := subC (bodyC PP 104) [1,0]) (by kernel_rfl) (e104_tt K) (by kernel_rfl)
abbrev k104_ (K : KT) : KP := exP (fun (a : TE) (H : AH) => m_bin_sizet K (a 0) H) (k104 K)
def m_bin_size (K : KT) (x0 : AV) (H : AH) : Prop :=
  m_bin_sizet K x0 H
theorem e104_ (K : KT) (a : TE) (H : AH) : b104 [] (k104 K) a H = m_bin_size K (a 0) H :=
  eSeq (ca := subC (bodyC PP 104) [0]) (by kernel_rfl) (e104_t K) (by kernel_rfl)
theorem m_bin_size_ok (x0 : AV) (H : AH) (K : KT) (h : m_bin_size K x0 H) : CC.call 104 [x0] H K :=
  okM (P := PP) (by kernel_rfl) (by kernel_rfl) (by kernel_rfl) ((e104_ K (argE [x0]) H).trans (by kernel_rfl)) h

/-! 42: (*fieldfare/bin.Writer).Int -/
abbrev b42 (p : List Nat) (k : KP) : KE := codeP PP CC (subC (bodyC PP 42) p) k
abbrev k42 (K : KT) : KP := finP PP (resC PP 42) K
abbrev k42_tt (K : KT) : KP := blockP 0 (k42 K)
abbrev k42_ttb (K : KT) (r0 : (AV × AV × AV × AV) → AH → Prop) : KP := exP (fun (a : TE) (H : AH) => r0 (a 0, a 10, a 11, a 12) H) (k42_tt K)
abbrev k42_ttbltt (K : KT) (r0 : (AV × AV × AV × AV) → AH → Prop) : KP := exP (b42 [1,1,0,0,1,1,1] (k42_ttb K r0)) (k42_ttb K r0)
abbrev k42_ttbltth (K : KT) (r0 : (AV × AV × AV × AV) → AH → Prop) : KP := blockP 1 (k42_ttbltt K r0)
abbrev k42_ttbltthbtttt (K : KT) (r0 : (AV × AV × AV × AV) → AH → Prop) : KP := blockP 2 (k42_ttbltth K r0)
abbrev k42_ttbltthbttttb (K : KT) (r0 : (AV × AV × AV × AV) → AH → Prop) (r1 : (AV × AV × AV × AV × AV × AV × AV) → AH → Prop) : KP := exP (fun (a : TE) (H : AH) => r1 (a 0, a 5, a 10, a 11, a 12, a 29, a 30) H) (k42_ttbltthbtttt K r0)
def m_bin_Writer_Intttbltthbttttbl (_K : KT) (r0 : (AV × AV × AV × AV) → AH → Prop) (r1 : (AV × AV × AV × AV × AV × AV × AV) → AH → Prop) (x0 x5 x10 x11 x12 x29 x30 : AV) (H : AH) : Prop :=
  outP CC H (w_int .lss H x30 x29) fun v1 H1 =>
  condP v1
  (outP CC (H1.more 1) (w_nil (H1.more 1) x0) fun v2 H2 =>
  outP CC H2 (w_fieldAddr 0 H2 v2) fun v3 H3 =>
  outP CC H3 (w_load none H3 v3) fun v4 H4 =>
  outP CC H4 (w_int .mul H4 (.int .i64 8) x30) fun v5 H5 =>
  outP CC H5 (w_sh .shr H5 x5 v5) fun v6 H6 =>
  outP CC H6 (w_conv (.int .u8) H6 v6 none) fun v7 H7 =>
  outP CC H7 (w_buildSlice PP 5 1 H7 [(0, v7)] (some (Nat.add H1.next 0))) fun v8 H8 =>
  outP CC H8 (w_append 5 1 1 H8 v4 v8 none) fun v9 H9 =>
  outP CC H9 (w_nil H9 x0) fun v10 H10 =>
  outP CC H10 (w_fieldAddr 0 H10 v10) fun v11 H11 =>
  outP CC H11 (w_store 1 H11 v11 v9) fun _v12 H12 =>
  outP CC H12 (w_int .add H12 x30 (.int .i64 1)) fun v13 H13 =>
  r1 (x0, x5, x10, x11, x12, x29, v13) H13)
  (outP CC H1 (w_int .add H1 x12 (.int .i64 1)) fun v14 H14 =>
  r0 (x0, x10, x11, v14) H14)
theorem e42_ttbltthbttttbl (K : KT) (r0 : (AV × AV × AV × AV) → AH → Prop) (r1 : (AV × AV × AV × AV × AV × AV × AV) → AH → Prop) (a : TE) (H : AH) : b42 [1,1,0,0,1,1,0,0,1,1,1,1,0,0] (k42_ttbltthbttttb K r0 r1) a H = m_bin_Writer_Intttbltthbttttbl K r0 r1 (a 0) (a 5) (a 10) (a 11) (a 12) (a 29) (a 30) H :=
  by kernel_rfl
def m_bin_Writer_Intttbltthbttttb (K : KT) (r0 : (AV × AV × AV × AV) → AH → Prop) (x0 x5 x10 x11 x12 x29 x30 : AV) (H : AH) : Prop :=
  loopP (fun (r1 : (AV × AV × AV × AV × AV × AV × AV) → AH → Prop) (s : (AV × AV × AV × AV × AV × AV × AV)) (H : AH) => m_bin_Writer_Intttbltthbttttbl K r0 r1 s.1 s.2.1 s.2.2.1 s.2.2.2.1 s.2.2.2.2.1 s.2.2.2.2.2.1 s.2.2.2.2.2.2 H) (x0, x5, x10, x11, x12, x29, x30) H
theorem e42_ttbltthbttttb (K : KT) (r0 : (AV × AV × AV × AV) → AH → Prop) (a : TE) (H : AH) : b42 [1,1,0,0,1,1,0,0,1,1,1,1,0] (k42_ttbltthbtttt K r0) a H = m_bin_Writer_Intttbltthbttttb K r0 (a 0) (a 5) (a 10) (a 11) (a 12) (a 29) (a 30) H :=
  eLoop (S := (AV × AV × AV × AV × AV × AV × AV)) (fun a => (a 0, a 5, a 10, a 11, a 12, a 29, a 30)) (fun r1 s H => m_bin_Writer_Intttbltthbttttbl K r0 r1 s.1 s.2.1 s.2.2.1 s.2.2.2.1 s.2.2.2.2.1 s.2.2.2.2.2.1 s.2.2.2.2.2.2 H) (by kernel_rfl) (e42_ttbltthbttttbl K r0)
theorem e42_ttbltthbtttt (K : KT) (r0 : (AV × AV × AV × AV) → AH → Prop) (a : TE) (H : AH) : b42 [1,1,0,0,1,1,0,0,1,1,1,1] (k42_ttbltth K r0) a H = m_bin_Writer_Intttbltthbttttb K r0 (a 0) (a 5) (a 10) (a 11) (a 12) (a 29) (a 30) H :=
  eBlock (by kernel_rfl) (e42_ttbltthbttttb K r0 a H)
abbrev k42_ttbltthbttt (K : KT) (r0 : (AV × AV × AV × AV) → AH → Prop) : KP := exP (fun (a : TE) (H : AH) => m_bin_Writer_Intttbltthbttttb K r0 (a 0) (a 5) (a 10) (a 11) (a 12) (a 29) (a 30) H) (k42_ttbltth K r0)
def m_bin_Writer_Intttbltthbttt (K : KT) (r0 : (AV × AV × AV × AV) → AH → Prop) (x0 x5 x6 x10 x11 x12 : AV) (H : AH) : Prop :=
  m_bin_Writer_Intttbltthbttttb K r0 x0 x5 x10 x11 x12 x6 (.int .i64 0) H
theorem e42_ttbltthbttt (K : KT) (r0 : (AV × AV × AV × AV) → AH → Prop) (a : TE) (H : AH) : b42 [1,1,0,0,1,1,0,0,1,1,1] (k42_ttbltth K r0) a H = m_bin_Writer_Intttbltthbttt K r0 (a 0) (a 5) (a 6) (a 10) (a 11) (a 12) H :=
  eSeq (ca := subC (bodyC PP 42) [1,1,0,0,1,1,0,0,1,1,1,0]) (by kernel_rfl) (e42_ttbltthbtttt K r0) (by kernel_rfl)
abbrev k42_ttbltthbtt (K : KT) (r0 : (AV × AV × AV × AV) → AH → Prop) : KP := exP (fun (a : TE) (H : AH) => m_bin_Writer_Intttbltthbttt K r0 (a 0) (a 5) (a 6) (a 10) (a 11) (a 12) H) (k42_ttbltth K r0)
def m_bin_Writer_Intttbltthbtt (K : KT) (r0 : (AV × AV × AV × AV) → AH → Prop) (x0 x5 x6 x10 x11 x12 : AV) (H : AH) : Prop :=
  outP CC H (w_nil H x0) fun v1 H1 =>
  outP CC H1 (w_fieldAddr 0 H1 v1) fun v2 H2 =>
  outP CC H2 (w_load none H2 v2) fun v3 H3 =>
  outP CC H3 (w_conv (.int .u8) H3 x6 none) fun v4 H4 =>
  outP CC H4 (w_buildSlice PP 5 1 H4 [(0, v4)] none) fun v5 H5 =>
  outP CC H5 (w_append 5 1 1 H5 v3 v5 none) fun v6 H6 =>
  outP CC H6 (w_nil H6 x0) fun v7 H7 =>
  outP CC H7 (w_fieldAddr 0 H7 v7) fun v8 H8 =>
  outP CC H8 (w_store 1 H8 v8 v6) fun _v9 H9 =>
  m_bin_Writer_Intttbltthbttt K r0 x0 x5 x6 x10 x11 x12 H9
theorem e42_ttbltthbtt (K : KT) (r0 : (AV × AV × AV × AV) → AH → Prop) (a : TE) (H : AH) : b42 [1,1,0,0,1,1,0,0,1,1] (k42_ttbltth K r0) a H = m_bin_Writer_Intttbltthbtt K r0 (a 0) (a 5) (a 6) (a 10) (a 11) (a 12) H :=
  eSeq (ca := subC (bodyC PP 42) [1,1,0,0,1,1,0,0,1,1,0]) (by kernel_rfl) (e42_ttbltthbttt K r0) (by kernel_rfl)
abbrev k42_ttbltthbt (K : KT) (r0 : (AV × AV × AV × AV) → AH → Prop) : KP := exP (fun (a : TE) (H : AH) => m_bin_Writer_Intttbltthbtt K r0 (a 0) (a 5) (a 6) (a 10) (a 11) (a 12) H) (k42_ttbltth K r0)
def m_bin_Writer_Intttbltthbt (K : KT) (r0 : (AV × AV × AV × AV) → AH → Prop) (x0 x5 x10 x11 x12 : AV) (H : AH) : Prop :=
  outP CC H (some (.enter 104 [x5])) fun v1 H1 =>
  m_bin_Writer_Intttbltthbtt K r0 x0 x5 v1 x10 x11 x12 H1
theorem e42_ttbltthbt (K : KT) (r0 : (AV × AV × AV × AV) → AH → Prop) (a : TE) (H : AH) : b42 [1,1,0,0,1,1,0,0,1] (k42_ttbltth K r0) a H = m_bin_Writer_Intttbltthbt K r0 (a 0) (a 5) (a 10) (a 11) (a 12) H :=
  eSeq (ca := subC (bodyC PP 42) [1,1,0,0,1,1,0,0,1,0]) (by kernel_rfl) (e42_ttbltthbtt K r0) (by kernel_rfl)
abbrev k42_ttbltthb (K : KT) (r0 : (AV × AV × AV × AV) → AH → Prop) : KP := exP (fun (a : TE) (H : AH) => m_bin_Writer_Intttbltthbt K r0 (a 0) (a 5) (a 10) (a 11) (a 12) H) (k42_ttbltth K r0)
def m_bin_Writer_Intttbltthb (K : KT) (r0 : (AV × AV × AV × AV) → AH → Prop) (x0 x10 x11 x12 : AV) (H : AH) : Prop :=
  outP CC H (w_indexAddr (.sl 1) H x10 x12) fun v1 H1 =>
  outP CC H1 (w_load none H1 v1) fun v2 H2 =>
  m_bin_Writer_Intttbltthbt K r0 x0 v2 x10 x11 x12 H2
theorem e42_ttbltthb (K : KT) (r0 : (AV × AV × AV × AV) → AH → Prop) (a : TE) (H : AH) : b42 [1,1,0,0,1,1,0,0] (k42_ttbltth K r0) a H = m_bin_Writer_Intttbltthb K r0 (a 0) (a 10) (a 11) (a 12) H :=
  eSeq (ca := subC (bodyC PP 42) [1,1,0,0,1,1,0,0,0]) (by kernel_rfl) (e42_ttbltthbt K r0) (by kernel_rfl)
theorem e42_ttbltth (K : KT) (r0 : (AV × AV × AV × AV) → AH → Prop) (a : TE) (H : AH) : b42 [1,1,0,0,1,1,0] (k42_ttbltt K r0) a H = m_bin_Writer_Intttbltthb K r0 (a 0) (a 10) (a 11) (a 12) H :=
  eBlock (by kernel_rfl) (e42_ttbltthb K r0 a H)
theorem e42_ttbltt (K : KT) (r0 : (AV × AV × AV × AV) → AH → Prop) (a : TE) (H : AH) : b42 [1,1,0,0,1,1] (k42_ttb K r0) a H = m_bin_Writer_Intttbltthb K r0 (a 0) (a 10) (a 11) (a 12) H :=
  eSeq0 (by kernel_rfl) (e42_ttbltth K r0 a H)
abbrev k42_ttblt (K : KT) (r0 : (AV × AV × AV × AV) → AH → Prop) : KP := exP (fun (a : TE) (H : AH) => m_bin_Writer_Intttbltthb K r0 (a 0) (a 10) (a 11) (a 12) H) (k42_ttb K r0)
def m_bin_Writer_Intttblt (K : KT) (r0 : (AV × AV × AV × AV) → AH → Prop) (x0 x10 x11 x12 x13 : AV) (H : AH) : Prop :=
  condP x13
  (m_bin_Writer_Intttbltthb K r0 x0 x10 x11 x12 H)
  (K (.tup []) H)
theorem e42_ttblt (K : KT) (r0 : (AV × AV × AV × AV) → AH → Prop) (a : TE) (H : AH) : b42 [1,1,0,0,1] (k42_ttb K r0) a H = m_bin_Writer_Intttblt K r0 (a 0) (a 10) (a 11) (a 12) (a 13) H :=
  eSeq (ca := subC (bodyC PP 42) [1,1,0,0,1,0]) (by kernel_rfl) (e42_ttbltt K r0) (by kernel_rfl)
abbrev k42_ttbl (K : KT) (r0 : (AV × AV × AV × AV) → AH → Prop) : KP := exP (fun (a : TE) (H : AH) => m_bin_Writer_Intttblt K r0 (a 0) (a 10) (a 11) (a 12) (a 13) H) (k42_ttb K r0)
def m_bin_Writer_Intttbl (K : KT) (r0 : (AV × AV × AV × AV) → AH → Prop) (x0 x10 x11 x12 : AV) (H : AH) : Prop :=
  outP CC H (w_int .lss H x12 x11) fun v1 H1 =>
  m_bin_Writer_Intttblt K r0 x0 x10 x11 x12 v1 H1
theorem e42_ttbl (K : KT) (r0 : (AV × AV × AV × AV) → AH → Prop) (a : TE) (H : AH) : b42 [1,1,0,0] (k42_ttb K r0) a H = m_bin_Writer_Intttbl K r0 (a 0) (a 10) (a 11) (a 12) H :=
  eSeq (ca := subC (bodyC PP 42) [1,1,0,0,0]) (by kernel_rfl) (e42_ttblt K r0) (by kernel_rfl)
def m_bin_Writer_Intttb (K : KT) (x0 x10 x11 x12 : AV) (H : AH) : Prop :=
  loopP (fun (r0 : (AV × AV × AV × AV) → AH → Prop) (s : (AV × AV × AV × AV)) (H : AH) => m_bin_Writer_Intttbl K r0 s.1 s.2.1 s.2.2.1 s.2.2.2 H) (x0, x10, x11, x12) H
theorem e42_ttb (K : KT) (a : TE) (H : AH) : b42 [1,1,0] (k42_tt K) a H = m_bin_Writer_Intttb K (a 0) (a 10) (a 11) (a 12) H :=
  eLoop (S := (AV × AV × AV × AV)) (fun a => (a 0, a 10, a 11, a 12)) (fun r0 s H => m_bin_Writer_Intttbl K r0 s.1 s.2.1 s.2.2.1 s.2.2.2 H) (by kernel_rfl) (e42_ttbl K)
theorem e42_tt (K : KT) (a : TE) (H : AH) : b42 [1,1] (k42 K) a H = m_bin_Writer_Intttb K (a 0) (a 10) (a 11) (a 12) H :=
  eBlock (by kernel_rfl) (e42_ttb K a H)
abbrev k42_t (K : KT) : KP := exP (fun (a : TE) (H : AH) => m_bin_Writer_Intttb K (a 0) (a 10) (a 11) (a 12) H) (k42 K)
def m_bin_Writer_Intt (K : KT) (x0 x1 : AV) (H : AH) : Prop :=
  outP CC H (w_len PP 179 H x1) fun v1 H1 =>
  m_bin_Writer_Intttb K x0 x1 v1 (.int .i64 0) H1
theorem e42_t (K : KT) (a : TE) (H : AH) : b42 [1] (k42 K) a H = m_bin_Writer_Intt K (a 0) (a 1) H :=
  eSeq (ca := subC (bodyC PP 42) [1,0]) (by kernel_rfl) (e42_tt K) (by kernel_rfl)
abbrev k42_ (K : KT) : KP := exP (fun (a : TE) (H : AH) => m_bin_Writer_Intt K (a 0) (a 1) H) (k42 K)
def m_bin_Writer_Int (K : KT) (x0 x1 : AV) (H : AH) : Prop :=
  outP CC H (w_eq PP .eql 87 false true H x0 (.ptr none)) fun v1 H1 =>
  condP v1
  (K (.tup []) H1)
  (m_bin_Writer_Intt K x0 x1 H1)
theorem e42_ (K : KT) (a : TE) (H : AH) : b42 [] (k42 K) a H = m_bin_Writer_Int K (a 0) (a 1) H :=
  eSeq (ca := subC (bodyC PP 42) [0]) (by kernel_rfl) (e42_t K) (by kernel_rfl)
theorem m_bin_Writer_Int_ok (x0 x1 : AV) (H : AH) (K : KT) (h : m_bin_Writer_Int K x0 x1 H) : CC.call 42 [x0, x1] H K :=
  okM (P := PP) (by kernel_rfl) (by kernel_rfl) (by kernel_rfl) ((e42_ K (argE [x0, x1]) H).trans (by kernel_rfl)) h

/-! 105: fieldfare/vect.Put -/
abbrev b105 (p : List Nat) (k : KP) : KE := codeP PP CC (subC (bodyC PP 105) p) k
abbrev k105 (K : KT) : KP := finP PP (resC PP 105) K
abbrev k105_tt (K : KT) : KP := blockP 0 (k105 K)
abbrev k105_ttb (K : KT) (r0 : (AV × AV × AV × AV) → AH → Prop) : KP := exP (fun (a : TE) (H : AH) => r0 (a 0, a 11, a 12, a 13) H) (k105_tt K)
def m_vect_Putttbl (K : KT) (r0 : (AV × AV × AV × AV) → AH → Prop) (x0 x11 x12 x13 : AV) (H : AH) : Prop :=
  outP CC H (w_int .lss H x13 x12) fun v1 H1 =>
  condP v1
  (outP CC H1 (w_indexAddr (.sl 1) H1 x11 x13) fun v2 H2 =>
  outP CC H2 (w_load none H2 v2) fun v3 H3 =>
  outP CC H3 (w_conv (.int .i64) H3 v3 none) fun v4 H4 =>
  outP CC H4 (w_buildSlice PP 2 1 H4 [(0, v4)] none) fun v5 H5 =>
  outP CC H5 (some (.enter 42 [x0, v5])) fun _v6 H6 =>
  outP CC H6 (w_int .add H6 x13 (.int .i64 1)) fun v7 H7 =>
  r0 (x0, x11, x12, v7) H7)
  (K (.tup []) H1)
theorem e105_ttbl (K : KT) (r0 : (AV × AV × AV × AV) → AH → Prop) (a : TE) (H : AH) : b105 [1,1,0,0] (k105_ttb K r0) a H = m_vect_Putttbl K r0 (a 0) (a 11) (a 12) (a 13) H :=
  by kernel_rfl
def m_vect_Putttb (K : KT) (x0 x11 x12 x13 : AV) (H : AH) : Prop :=
  loopP (fun (r0 : (AV × AV × AV × AV) → AH → Prop) (s : (AV × AV × AV × AV)) (H : AH) => m_vect_Putttbl K r0 s.1 s.2.1 s.2.2.1 s.2.2.2 H) (x0, x11, x12, x13) H
theorem e105_ttb (K : KT) (a : TE) (H : AH) : b105 [1,1,0] (k105_tt K) a H = m_vect_Putttb K (a 0) (a 11) (a 12) (a 13) H :=
  eLoop (S := (AV × AV × AV × AV)) (fun a => (a 0, a 11, a 12, a 13)) (fun r0 s H => m_vect_Putttbl K r0 s.1 s.2.1 s.2.2.1 s.2.2.2 H) (by kernel_rfl) (e105_ttbl K)
theorem e105_tt (K : KT) (a : TE) (H : AH) : b105 [1,1] (k105 K) a H = m_vect_Putttb K (a 0) (a 11) (a 12) (a 13) H :=
  eBlock (by kernel_rfl) (e105_ttb K a H)
abbrev k105_t (K : KT) : KP := exP (fun (a : TE) (H : AH) => m_vect_Putttb K (a 0) (a 11) (a 12) (a 13) H) (k105 K)
def m_vect_Putt (K : KT) (x0 x1 : AV) (H : AH) : Prop :=
  outP CC H (w_len PP 23 H x1) fun v1 H1 =>
  m_vect_Putttb K x0 x1 v1 (.int .i64 0) H1
theorem e105_t (K : KT) (a : TE) (H : AH) : b105 [1] (k105 K) a H = m_vect_Putt K (a 0) (a 1) H :=
  eSeq (ca := subC (bodyC PP 105) [1,0]) (by kernel_rfl) (e105_tt K) (by kernel_rfl)
abbrev k105_ (K : KT) : KP := exP (fun (a : TE) (H : AH) => m_vect_Putt K (a 0) (a 1) H) (k105 K)
def m_vect_Put (K : KT) (x0 x1 : AV) (H : AH) : Prop :=
  outP CC H (w_len PP 23 H x1) fun v1 H1 =>
  outP CC H1 (w_buildSlice PP 2 1 H1 [(0, v1)] none) fun v2 H2 =>
  outP CC H2 (some (.enter 42 [x0, v2])) fun _v3 H3 =>
  m_vect_Putt K x0 x1 H3
theorem e105_ (K : KT) (a : TE) (H : AH) : b105 [] (k105 K) a H = m_vect_Put K (a 0) (a 1) H :=
  eSeq (ca := subC (bodyC PP 105) [0]) (by kernel_rfl) (e105_t K) (by kernel_rfl)
theorem m_vect_Put_ok (x0 x1 : AV) (H : AH) (K : KT) (h : m_vect_Put K x0 x1 H) : CC.call 105 [x0, x1] H K :=
  okM (P := PP) (by kernel_rfl) (by kernel_rfl) (by kernel_rfl) ((e105_ K (argE [x0, x1]) H).trans (by kernel_rfl)) h

/-! 54: fieldfare/bin.NewReader -/
abbrev b54 (p : List Nat) (k : KP) : KE := codeP PP CC (subC (bodyC PP 54) p) k
abbrev k54 (K : KT) : KP := finP PP (resC PP 54) K
def m_bin_NewReader (K : KT) (x0 : AV) (H : AH) : Prop :=
  outP CC H (w_append 5 1 1 H (.slice none 0 0 true) x0 none) fun v1 H1 =>
  outP CC H1 (w_build PP 194 H1 [(0, v1)]) fun v2 H2 =>
  outP CC H2 (w_box 194 H2 v2 none) fun v3 H3 =>
  K v3 H3
theorem e54_ (K : KT) (a : TE) (H : AH) : b54 [] (k54 K) a H = m_bin_NewReader K (a 0) H :=
  by kernel_rfl
theorem m_bin_NewReader_ok (x0 : AV) (H : AH) (K : KT) (h : m_bin_NewReader K x0 H) : CC.call 54 [x0] H K :=
  okM (P := PP) (by kernel_rfl) (by kernel_rfl) (by kernel_rfl) ((e54_ K (argE [x0]) H).trans (by kernel_rfl)) h

/-! 45: (*fieldfare/bin.Writer).Bytes -/
abbrev b45 (p : List Nat) (k : KP) : KE := codeP PP CC (subC (bodyC PP 45) p) k
abbrev k45 (K : KT) : KP := finP PP (resC PP 45) K
def m_bin_Writer_Bytes (K : KT) (x0 : AV) (H : AH) : Prop :=
  outP CC H (w_eq PP .eql 87 false true H x0 (.ptr none)) fun v1 H1 =>
  condP v1
  (K (.slice none 0 0 true) H1)
  (outP CC H1 (w_nil H1 x0) fun v2 H2 =>
  outP CC H2 (w_fieldAddr 0 H2 v2) fun v3 H3 =>
  outP CC H3 (w_load none H3 v3) fun v4 H4 =>
  outP CC H4 (w_append 5 1 1 H4 (.slice none 0 0 true) v4 none) fun v5 H5 =>
  K v5 H5)
theorem e45_ (K : KT) (a : TE) (H : AH) : b45 [] (k45 K) a H = m_bin_Writer_Bytes K (a 0) H :=
  by kernel_rfl
theorem m_bin_Writer_Bytes_ok (x0 : AV) (H : AH) (K : KT) (h : m_bin_Writer_Bytes K x0 H) : CC.call 45 [x0] H K :=
  okM (P := PP) (by kernel_rfl) (by kernel_rfl) (by kernel_rfl) ((e45_ K (argE [x0]) H).trans (by kernel_rfl)) h

/-! 198: fieldfare/vect.Get -/
abbrev b198 (p : List Nat) (k : KP) : KE := codeP PP CC (subC (bodyC PP 198) p) k
abbrev k198 (K : KT) : KP := finP PP (resC PP 198) K
abbrev k198_tttt (K : KT) : KP := exP (b198 [1,1,1,1,1] (k198 K)) (k198 K)
abbrev k198_ttttht (K : KT) : KP := blockP 0 (k198_tttt K)
abbrev k198_tttthtb (K : KT) (r0 : (AV × AV × AV × AV × AV) → AH → Prop) : KP := exP (fun (a : TE) (H : AH) => r0 (a 0, a 4, a 5, a 24, a 25) H) (k198_ttttht K)
def m_vect_Gettttthtbl (K : KT) (r0 : (AV × AV × AV × AV × AV) → AH → Prop) (x0 x4 x5 x24 x25 : AV) (H : AH) : Prop :=
  outP CC H (w_int .lss H x25 x24) fun v1 H1 =>
  condP v1
  (outP CC H1 (some (.enter 55 [x0])) fun v2 H2 =>
  outP CC H2 (w_conv (.int .i32) H2 v2 none) fun v3 H3 =>
  outP CC H3 (w_indexAddr (.sl 1) H3 x4 x25) fun v4 H4 =>
  outP CC H4 (w_store 1 H4 v4 v3) fun _v5 H5 =>
  guardP (boolIs true x5) H5 (outP CC H5 (some (.val v2 H5))) fun v6 H6 =>
  guardP (boolIs true x5) H6 (outP CC H6 (w_int .geq H6 v6 (.int .i64 (-2147483648)))) fun v7 H7 =>
  outP CC H7 (w_pick H7 x5 v7 (.bool false)) fun v8 H8 =>
  guardP (boolIs true v8) H8 (outP CC H8 (some (.val v2 H8))) fun v9 H9 =>
  guardP (boolIs true v8) H9 (outP CC H9 (w_int .leq H9 v9 (.int .i64 2147483647))) fun v10 H10 =>
  outP CC H10 (w_pick H10 v8 v10 (.bool false)) fun v11 H11 =>
  outP CC H11 (w_int .add H11 x25 (.int .i64 1)) fun v12 H12 =>
  r0 (x0, x4, v11, x24, v12) H12)
  (outP CC H1 (some (.enter 56 [x0])) fun v13 H13 =>
  outP CC H13 (w_int .neq H13 v13 (.int .i64 0)) fun v14 H14 =>
  guardP (boolIs false v14) H14 (outP CC H14 (some (.val x5 H14))) fun v15 H15 =>
  guardP (boolIs false v14) H15 (outP CC H15 (w_un .not H15 v15)) fun v16 H16 =>
  outP CC H16 (w_pick H16 v14 (.bool true) v16) fun v17 H17 =>
  condP v17
  (K (.slice none 0 0 true) H17)
  (K x4 H17))
theorem e198_tttthtbl (K : KT) (r0 : (AV × AV × AV × AV × AV) → AH → Prop) (a : TE) (H : AH) : b198 [1,1,1,1,0,1,0,0] (k198_tttthtb K r0) a H = m_vect_Gettttthtbl K r0 (a 0) (a 4) (a 5) (a 24) (a 25) H :=
  by kernel_rfl
def m_vect_Gettttthtb (K : KT) (x0 x4 x5 x24 x25 : AV) (H : AH) : Prop :=
  loopP (fun (r0 : (AV × AV × AV × AV × AV) → AH → Prop) (s : (AV × AV × AV × AV × AV)) (H : AH) => m_vect_Gettttthtbl K r0 s.1 s.2.1 s.2.2.1 s.2.2.2.1 s.2.2.2.2 H) (x0, x4, x5, x24, x25) H
theorem e198_tttthtb (K : KT) (a : TE) (H : AH) : b198 [1,1,1,1,0,1,0] (k198_ttttht K) a H = m_vect_Gettttthtb K (a 0) (a 4) (a 5) (a 24) (a 25) H :=
  eLoop (S := (AV × AV × AV × AV × AV)) (fun a => (a 0, a 4, a 5, a 24, a 25)) (fun r0 s H => m_vect_Gettttthtbl K r0 s.1 s.2.1 s.2.2.1 s.2.2.2.1 s.2.2.2.2 H) (by kernel_rfl) (e198_tttthtbl K)
theorem e198_ttttht (K : KT) (a : TE) (H : AH) : b198 [1,1,1,1,0,1] (k198_tttt K) a H = m_vect_Gettttthtb K (a 0) (a 4) (a 5) (a 24) (a 25) H :=
  eBlock (by kernel_rfl) (e198_tttthtb K a H)
abbrev k198_tttth (K : KT) : KP := exP (fun (a : TE) (H : AH) => m_vect_Gettttthtb K (a 0) (a 4) (a 5) (a 24) (a 25) H) (k198_tttt K)
def m_vect_Gettttth (K : KT) (x0 x4 x5 : AV) (H : AH) : Prop :=
  outP CC H (w_len PP 23 H x4) fun v1 H1 =>
  m_vect_Gettttthtb K x0 x4 x5 v1 (.int .i64 0) H1
theorem e198_tttth (K : KT) (a : TE) (H : AH) : b198 [1,1,1,1,0] (k198_tttt K) a H = m_vect_Gettttth K (a 0) (a 4) (a 5) H :=
  eSeq (ca := subC (bodyC PP 198) [1,1,1,1,0,0]) (by kernel_rfl) (e198_ttttht K) (by kernel_rfl)
theorem e198_tttt (K : KT) (a : TE) (H : AH) : b198 [1,1,1,1] (k198 K) a H = m_vect_Gettttth K (a 0) (a 4) (a 5) H :=
  eSeq0 (by kernel_rfl) (e198_tttth K a H)
abbrev k198_ttt (K : KT) : KP := exP (fun (a : TE) (H : AH) => m_vect_Gettttth K (a 0) (a 4) (a 5) H) (k198 K)
def m_vect_Getttt (K : KT) (x0 x3 : AV) (H : AH) : Prop :=
  outP CC H (w_makeSlice PP 21 H x3 x3 none) fun v1 H1 =>
  m_vect_Gettttth K x0 v1 (.bool true) H1
theorem e198_ttt (K : KT) (a : TE) (H : AH) : b198 [1,1,1] (k198 K) a H = m_vect_Getttt K (a 0) (a 3) H :=
  eSeq (ca := subC (bodyC PP 198) [1,1,1,0]) (by kernel_rfl) (e198_tttt K) (by kernel_rfl)
abbrev k198_tt (K : KT) : KP := exP (fun (a : TE) (H : AH) => m_vect_Getttt K (a 0) (a 3) H) (k198 K)
def m_vect_Gettt (K : KT) (x0 x3 : AV) (H : AH) : Prop :=
  outP CC H (some (.enter 56 [x0])) fun v1 H1 =>
  outP CC H1 (w_int .neq H1 v1 (.int .i64 0)) fun v2 H2 =>
  guardP (boolIs false v2) H2 (outP CC H2 (some (.val x3 H2))) fun v3 H3 =>
  guardP (boolIs false v2) H3 (outP CC H3 (w_int .lss H3 v3 (.int .i64 0))) fun v4 H4 =>
  outP CC H4 (w_pick H4 v2 (.bool true) v4) fun v5 H5 =>
  guardP (boolIs false v5) H5 (outP CC H5 (some (.val x3 H5))) fun v6 H6 =>
  guardP (boolIs false v5) H6 (outP CC H6 (w_int .gtr H6 v6 (.int .i64 8))) fun v7 H7 =>
  outP CC H7 (w_pick H7 v5 (.bool true) v7) fun v8 H8 =>
  condP v8
  (K (.slice none 0 0 true) H8)
  (m_vect_Getttt K x0 x3 H8)
theorem e198_tt (K : KT) (a : TE) (H : AH) : b198 [1,1] (k198 K) a H = m_vect_Gettt K (a 0) (a 3) H :=
  eSeq (ca := subC (bodyC PP 198) [1,1,0]) (by kernel_rfl) (e198_ttt K) (by kernel_rfl)
abbrev k198_t (K : KT) : KP := exP (fun (a : TE) (H : AH) => m_vect_Gettt K (a 0) (a 3) H) (k198 K)
def m_vect_Gett (K : KT) (x0 : AV) (H : AH) : Prop :=
  outP CC H (some (.enter 55 [x0])) fun v1 H1 =>
  m_vect_Gettt K x0 v1 H1
theorem e198_t (K : KT) (a : TE) (H : AH) : b198 [1] (k198 K) a H = m_vect_Gett K (a 0) H :=
  eSeq (ca := subC (bodyC PP 198) [1,0]) (by kernel_rfl) (e198_tt K) (by kernel_rfl)
abbrev k198_ (K : KT) : KP := exP (fun (a : TE) (H : AH) => m_vect_Gett K (a 0) H) (k198 K)
def m_vect_Get (K : KT) (x0 : AV) (H : AH) : Prop :=
  m_vect_Gett K x0 H
theorem e198_ (K : KT) (a : TE) (H : AH) : b198 [] (k198 K) a H = m_vect_Get K (a 0) H :=
  eSeq (ca := subC (bodyC PP 198) [0]) (by kernel_rfl) (e198_t K) (by kernel_rfl)
theorem m_vect_Get_ok (x0 : AV) (H : AH) (K : KT) (h : m_vect_Get K x0 H) : CC.call 198 [x0] H K :=
  okM (P := PP) (by kernel_rfl) (by kernel_rfl) (by kernel_rfl) ((e198_ K (argE [x0]) H).trans (by kernel_rfl)) h

/-! 55: (*fieldfare/bin.Reader).Int -/
abbrev b55 (p : List Nat) (k : KP) : KE := codeP PP CC (subC (bodyC PP 55) p) k
abbrev k55 (K : KT) : KP := finP PP (resC PP 55) K
def m_bin_Reader_Intttttttt (K : KT) (x0 x3 x4 : AV) (H : AH) : Prop :=
  outP CC H (some (.enter 104 [x4])) fun v1 H1 =>
  outP CC H1 (w_int .neq H1 v1 x3) fun v2 H2 =>
  condP v2
  (outP CC H2 (w_nil H2 x0) fun v3 H3 =>
  outP CC H3 (w_fieldAddr 1 H3 v3) fun v4 H4 =>
  outP CC H4 (w_store 1 H4 v4 (.bool true)) fun _v5 H5 =>
  K (.int .i64 0) H5)
  (outP CC H2 (w_nil H2 x0) fun v6 H6 =>
  outP CC H6 (w_fieldAddr 0 H6 v6) fun v7 H7 =>
  outP CC H7 (w_load none H7 v7) fun v8 H8 =>
  outP CC H8 (w_int .add H8 (.int .i64 1) x3) fun v9 H9 =>
  outP CC H9 (w_slice (.sl 1) false false H9 v8 (some v9) none none) fun v10 H10 =>
  outP CC H10 (w_nil H10 x0) fun v11 H11 =>
  outP CC H11 (w_fieldAddr 0 H11 v11) fun v12 H12 =>
  outP CC H12 (w_store 1 H12 v12 v10) fun _v13 H13 =>
  K x4 H13)
theorem e55_ttttttt (K : KT) (a : TE) (H : AH) : b55 [1,1,1,1,1,1,1] (k55 K) a H = m_bin_Reader_Intttttttt K (a 0) (a 3) (a 4) H :=
  by kernel_rfl
abbrev k55_tttttt (K : KT) : KP := exP (fun (a : TE) (H : AH) => m_bin_Reader_Intttttttt K (a 0) (a 3) (a 4) H) (k55 K)
def m_bin_Reader_Inttttttt (K : KT) (x0 x3 x4 : AV) (H : AH) : Prop :=
  outP CC H (w_int .gtr H x3 (.int .i64 0)) fun v1 H1 =>
  condP v1
  (outP CC H1 (w_int .sub H1 (.int .i64 8) x3) fun v2 H2 =>
  outP CC H2 (w_int .mul H2 (.int .i64 8) v2) fun v3 H3 =>
  outP CC H3 (w_sh .shl H3 x4 v3) fun v4 H4 =>
  outP CC H4 (w_int .sub H4 (.int .i64 8) x3) fun v5 H5 =>
  outP CC H5 (w_int .mul H5 (.int .i64 8) v5) fun v6 H6 =>
  outP CC H6 (w_sh .shr H6 v4 v6) fun v7 H7 =>
  m_bin_Reader_Intttttttt K x0 x3 v7 H7)
  (m_bin_Reader_Intttttttt K x0 x3 x4 H1)
theorem e55_tttttt (K : KT) (a : TE) (H : AH) : b55 [1,1,1,1,1,1] (k55 K) a H = m_bin_Reader_Inttttttt K (a 0) (a 3) (a 4) H :=
  eSeq (ca := subC (bodyC PP 55) [1,1,1,1,1,1,0]) (by kernel_rfl) (e55_ttttttt K) (by kernel_rfl)
abbrev k55_ttttt (K : KT) : KP := exP (fun (a : TE) (H : AH) => m_bin_Reader_Inttttttt K (a 0) (a 3) (a 4) H) (k55 K)
abbrev k55_tttttht (K : KT) : KP := blockP 0 (k55_ttttt K)
abbrev k55_ttttthtb (K : KT) (r0 : (AV × AV × AV × AV × AV) → AH → Prop) : KP := exP (fun (a : TE) (H : AH) => r0 (a 0, a 3, a 4, a 49, a 50) H) (k55_tttttht K)
def m_bin_Reader_Intttttthtbl (K : KT) (r0 : (AV × AV × AV × AV × AV) → AH → Prop) (x0 x3 x4 x49 x50 : AV) (H : AH) : Prop :=
  outP CC H (w_int .lss H x50 x49) fun v1 H1 =>
  condP v1
  (outP CC H1 (w_nil H1 x0) fun v2 H2 =>
  outP CC H2 (w_fieldAddr 0 H2 v2) fun v3 H3 =>
  outP CC H3 (w_load none H3 v3) fun v4 H4 =>
  outP CC H4 (w_int .add H4 (.int .i64 1) x50) fun v5 H5 =>
  outP CC H5 (w_indexAddr (.sl 1) H5 v4 v5) fun v6 H6 =>
  outP CC H6 (w_load none H6 v6) fun v7 H7 =>
  outP CC H7 (w_conv (.int .i64) H7 v7 none) fun v8 H8 =>
  outP CC H8 (w_int .mul H8 (.int .i64 8) x50) fun v9 H9 =>
  outP CC H9 (w_sh .shl H9 v8 v9) fun v10 H10 =>
  outP CC H10 (w_int .or H10 x4 v10) fun v11 H11 =>
  outP CC H11 (w_int .add H11 x50 (.int .i64 1)) fun v12 H12 =>
  r0 (x0, x3, v11, x49, v12) H12)
  (m_bin_Reader_Inttttttt K x0 x3 x4 H1)
theorem e55_ttttthtbl (K : KT) (r0 : (AV × AV × AV × AV × AV) → AH → Prop) (a : TE) (H : AH) : b55 [1,1,1,1,1,0,1,0,0] (k55_ttttthtb K r0) a H = m_bin_Reader_Intttttthtbl K r0 (a 0) (a 3) (a 4) (a 49) (a 50) H :=
  by kernel_rfl
def m_bin_Reader_Intttttthtb (K : KT) (x0 x3 x4 x49 x50 : AV) (H : AH) : Prop :=
  loopP (fun (r0 : (AV × AV × AV × AV × AV) → AH → Prop) (s : (AV × AV × AV × AV × AV)) (H : AH) => m_bin_Reader_Intttttthtbl K r0 s.1 s.2.1 s.2.2.1 s.2.2.2.1 s.2.2.2.2 H) (x0, x3, x4, x49, x50) H
theorem e55_ttttthtb (K : KT) (a : TE) (H : AH) : b55 [1,1,1,1,1,0,1,0] (k55_tttttht K) a H = m_bin_Reader_Intttttthtb K (a 0) (a 3) (a 4) (a 49) (a 50) H :=
  eLoop (S := (AV × AV × AV × AV × AV)) (fun a => (a 0, a 3, a 4, a 49, a 50)) (fun r0 s H => m_bin_Reader_Intttttthtbl K r0 s.1 s.2.1 s.2.2.1 s.2.2.2.1 s.2.2.2.2 H) (by kernel_rfl) (e55_ttttthtbl K)
theorem e55_tttttht (K : KT) (a : TE) (H : AH) : b55 [1,1,1,1,1,0,1] (k55_ttttt K) a H = m_bin_Reader_Intttttthtb K (a 0) (a 3) (a 4) (a 49) (a 50) H :=
  eBlock (by kernel_rfl) (e55_ttttthtb K a H)
abbrev k55_ttttth (K : KT) : KP := exP (fun (a : TE) (H : AH) => m_bin_Reader_Intttttthtb K (a 0) (a 3) (a 4) (a 49) (a 50) H) (k55_ttttt K)
def m_bin_Reader_Intttttth (K : KT) (x0 x3 x4 : AV) (H : AH) : Prop :=
  m_bin_Reader_Intttttthtb K x0 x3 x4 x3 (.int .i64 0) H
theorem e55_ttttth (K : KT) (a : TE) (H : AH) : b55 [1,1,1,1,1,0] (k55_ttttt K) a H = m_bin_Reader_Intttttth K (a 0) (a 3) (a 4) H :=
  eSeq (ca := subC (bodyC PP 55) [1,1,1,1,1,0,0]) (by kernel_rfl) (e55_tttttht K) (by kernel_rfl)
theorem e55_ttttt (K : KT) (a : TE) (H : AH) : b55 [1,1,1,1,1] (k55 K) a H = m_bin_Reader_Intttttth K (a 0) (a 3) (a 4) H :=
  eSeq (by kernel_rfl) (e55_tttttt K) (e55_ttttth K a H)
abbrev k55_tttt (K : KT) : KP := exP (fun (a : TE) (H : AH) => m_bin_Reader_Intttttth K (a 0) (a 3) (a 4) H) (k55 K)
def m_bin_Reader_Inttttt (K : KT) (x0 x3 : AV) (H : AH) : Prop :=
  m_bin_Reader_Intttttth K x0 x3 (.int .i64 0) H
theorem e55_tttt (K : KT) (a : TE) (H : AH) : b55 [1,1,1,1] (k55 K) a H = m_bin_Reader_Inttttt K (a 0) (a 3) H :=
  eSeq (ca := subC (bodyC PP 55) [1,1,1,1,0]) (by kernel_rfl) (e55_ttttt K) (by kernel_rfl)
abbrev k55_ttt (K : KT) : KP := exP (fun (a : TE) (H : AH) => m_bin_Reader_Inttttt K (a 0) (a 3) H) (k55 K)
def m_bin_Reader_Intttt (K : KT) (x0 : AV) (H : AH) : Prop :=
  outP CC H (w_nil H x0) fun v1 H1 =>
  outP CC H1 (w_fieldAddr 0 H1 v1) fun v2 H2 =>
  outP CC H2 (w_load none H2 v2) fun v3 H3 =>
  outP CC H3 (w_indexAddr (.sl 1) H3 v3 (.int .i64 0)) fun v4 H4 =>
  outP CC H4 (w_load none H4 v4) fun v5 H5 =>
  outP CC H5 (w_conv (.int .i64) H5 v5 none) fun v6 H6 =>
  m_bin_Reader_Inttttt K x0 v6 H6
theorem e55_ttt (K : KT) (a : TE) (H : AH) : b55 [1,1,1] (k55 K) a H = m_bin_Reader_Intttt K (a 0) H :=
  eSeq (ca := subC (bodyC PP 55) [1,1,1,0]) (by kernel_rfl) (e55_tttt K) (by kernel_rfl)
abbrev k55_tt (K : KT) : KP := exP (fun (a : TE) (H : AH) => m_bin_Reader_Intttt K (a 0) H) (k55 K)
def m_bin_Reader_Inttt (K : KT) (x0 : AV) (H : AH) : Prop :=
  outP CC H (w_nil H x0) fun v1 H1 =>
  outP CC H1 (w_fieldAddr 0 H1 v1) fun v2 H2 =>
  outP CC H2 (w_load none H2 v2) fun v3 H3 =>
  outP CC H3 (w_len PP 27 H3 v3) fun v4 H4 =>
  outP CC H4 (w_int .eql H4 v4 (.int .i64 0)) fun v5 H5 =>
  guardP (boolIs false v5) H5 (outP CC H5 (some (.val x0 H5))) fun v6 H6 =>
  guardP (boolIs false v5) H6 (outP CC H6 (w_nil H6 v6)) fun v7 H7 =>
  guardP (boolIs false v5) H7 (outP CC H7 (w_fieldAddr 0 H7 v7)) fun v8 H8 =>
  guardP (boolIs false v5) H8 (outP CC H8 (w_load none H8 v8)) fun v9 H9 =>
  guardP (boolIs false v5) H9 (outP CC H9 (w_indexAddr (.sl 1) H9 v9 (.int .i64 0))) fun v10 H10 =>
  guardP (boolIs false v5) H10 (outP CC H10 (w_load none H10 v10)) fun v11 H11 =>
  guardP (boolIs false v5) H11 (outP CC H11 (w_int .gtr H11 v11 (.int .u8 8))) fun v12 H12 =>
  outP CC H12 (w_pick H12 v5 (.bool true) v12) fun v13 H13 =>
  guardP (boolIs false v13) H13 (outP CC H13 (some (.val x0 H13))) fun v14 H14 =>
  guardP (boolIs false v13) H14 (outP CC H14 (w_nil H14 v14)) fun v15 H15 =>
  guardP (boolIs false v13) H15 (outP CC H15 (w_fieldAddr 0 H15 v15)) fun v16 H16 =>
  guardP (boolIs false v13) H16 (outP CC H16 (w_load none H16 v16)) fun v17 H17 =>
  guardP (boolIs false v13) H17 (outP CC H17 (w_len PP 27 H17 v17)) fun v18 H18 =>
  guardP (boolIs false v13) H18 (outP CC H18 (some (.val x0 H18))) fun v19 H19 =>
  guardP (boolIs false v13) H19 (outP CC H19 (w_nil H19 v19)) fun v20 H20 =>
  guardP (boolIs false v13) H20 (outP CC H20 (w_fieldAddr 0 H20 v20)) fun v21 H21 =>
  guardP (boolIs false v13) H21 (outP CC H21 (w_load none H21 v21)) fun v22 H22 =>
  guardP (boolIs false v13) H22 (outP CC H22 (w_indexAddr (.sl 1) H22 v22 (.int .i64 0))) fun v23 H23 =>
  guardP (boolIs false v13) H23 (outP CC H23 (w_load none H23 v23)) fun v24 H24 =>
  guardP (boolIs false v13) H24 (outP CC H24 (w_conv (.int .i64) H24 v24 none)) fun v25 H25 =>
  guardP (boolIs false v13) H25 (outP CC H25 (w_int .leq H25 v18 v25)) fun v26 H26 =>
  outP CC H26 (w_pick H26 v13 (.bool true) v26) fun v27 H27 =>
  condP v27
  (outP CC H27 (w_nil H27 x0) fun v28 H28 =>
  outP CC H28 (w_fieldAddr 1 H28 v28) fun v29 H29 =>
  outP CC H29 (w_store 1 H29 v29 (.bool true)) fun _v30 H30 =>
  K (.int .i64 0) H30)
  (m_bin_Reader_Intttt K x0 H27)
theorem e55_tt (K : KT) (a : TE) (H : AH) : b55 [1,1] (k55 K) a H = m_bin_Reader_Inttt K (a 0) H :=
  eSeq (ca := subC (bodyC PP 55) [1,1,0]) (by kernel_rfl) (e55_ttt K) (by kernel_rfl)
abbrev k55_t (K : KT) : KP := exP (fun (a : TE) (H : AH) => m_bin_Reader_Inttt K (a 0) H) (k55 K)
def m_bin_Reader_Intt (K : KT) (x0 : AV) (H : AH) : Prop :=
  outP CC H (some (.enter 56 [x0])) fun v1 H1 =>
  outP CC H1 (w_int .neq H1 v1 (.int .i64 0)) fun v2 H2 =>
  condP v2
  (K (.int .i64 0) H2)
  (m_bin_Reader_Inttt K x0 H2)
theorem e55_t (K : KT) (a : TE) (H : AH) : b55 [1] (k55 K) a H = m_bin_Reader_Intt K (a 0) H :=
  eSeq (ca := subC (bodyC PP 55) [1,0]) (by kernel_rfl) (e55_tt K) (by kernel_rfl)
abbrev k55_ (K : KT) : KP := exP (fun (a : TE) (H : AH) => m_bin_Reader_Intt K (a 0) H) (k55 K)
def m_bin_Reader_Int (K : KT) (x0 : AV) (H : AH) : Prop :=
  m_bin_Reader_Intt K x0 H
theorem e55_ (K : KT) (a : TE) (H : AH) : b55 [] (k55 K) a H = m_bin_Reader_Int K (a 0) H :=
  eSeq (ca := subC (bodyC PP 55) [0]) (by kernel_rfl) (e55_t K) (by kernel_rfl)
theorem m_bin_Reader_Int_ok (x0 : AV) (H : AH) (K : KT) (h : m_bin_Reader_Int K x0 H) : CC.call 55 [x0] H K :=
  okM (P := PP) (by kernel_rfl) (by kernel_rfl) (by kernel_rfl) ((e55_ K (argE [x0]) H).trans (by kernel_rfl)) h

/-! 60: (*fieldfare/bin.Reader).End -/
abbrev b60 (p : List Nat) (k : KP) : KE := codeP PP CC (subC (bodyC PP 60) p) k
abbrev k60 (K : KT) : KP := finP PP (resC PP 60) K
def m_bin_Reader_End (K : KT) (x0 : AV) (H : AH) : Prop :=
  outP CC H (some (.enter 56 [x0])) fun v1 H1 =>
  outP CC H1 (w_int .neq H1 v1 (.int .i64 0)) fun v2 H2 =>
  guardP (boolIs false v2) H2 (outP CC H2 (some (.val x0 H2))) fun v3 H3 =>
  guardP (boolIs false v2) H3 (outP CC H3 (w_nil H3 v3)) fun v4 H4 =>
  guardP (boolIs false v2) H4 (outP CC H4 (w_fieldAddr 0 H4 v4)) fun v5 H5 =>
  guardP (boolIs false v2) H5 (outP CC H5 (w_load none H5 v5)) fun v6 H6 =>
  guardP (boolIs false v2) H6 (outP CC H6 (w_len PP 27 H6 v6)) fun v7 H7 =>
  guardP (boolIs false v2) H7 (outP CC H7 (w_int .gtr H7 v7 (.int .i64 0))) fun v8 H8 =>
  outP CC H8 (w_pick H8 v2 (.bool true) v8) fun v9 H9 =>
  condP v9
  (K (.int .i64 1) H9)
  (K (.int .i64 0) H9)
theorem e60_ (K : KT) (a : TE) (H : AH) : b60 [] (k60 K) a H = m_bin_Reader_End K (a 0) H :=
  by kernel_rfl
theorem m_bin_Reader_End_ok (x0 : AV) (H : AH) (K : KT) (h : m_bin_Reader_End K x0 H) : CC.call 60 [x0] H K :=
  okM (P := PP) (by kernel_rfl) (by kernel_rfl) (by kernel_rfl) ((e60_ K (argE [x0]) H).trans (by kernel_rfl)) h

/-! 56: (*fieldfare/bin.Reader).Err -/
abbrev b56 (p : List Nat) (k : KP) : KE := codeP PP CC (subC (bodyC PP 56) p) k
abbrev k56 (K : KT) : KP := finP PP (resC PP 56) K
def m_bin_Reader_Err (K : KT) (x0 : AV) (H : AH) : Prop :=
  outP CC H (w_eq PP .eql 97 false true H x0 (.ptr none)) fun v1 H1 =>
  guardP (boolIs false v1) H1 (outP CC H1 (some (.val x0 H1))) fun v2 H2 =>
  guardP (boolIs false v1) H2 (outP CC H2 (w_nil H2 v2)) fun v3 H3 =>
  guardP (boolIs false v1) H3 (outP CC H3 (w_fieldAddr 1 H3 v3)) fun v4 H4 =>
  guardP (boolIs false v1) H4 (outP CC H4 (w_load none H4 v4)) fun v5 H5 =>
  outP CC H5 (w_pick H5 v1 (.bool true) v5) fun v6 H6 =>
  condP v6
  (K (.int .i64 1) H6)
  (K (.int .i64 0) H6)
theorem e56_ (K : KT) (a : TE) (H : AH) : b56 [] (k56 K) a H = m_bin_Reader_Err K (a 0) H :=
  by kernel_rfl
theorem m_bin_Reader_Err_ok (x0 : AV) (H : AH) (K : KT) (h : m_bin_Reader_Err K x0 H) : CC.call 56 [x0] H K :=
  okM (P := PP) (by kernel_rfl) (by kernel_rfl) (by kernel_rfl) ((e56_ K (argE [x0]) H).trans (by kernel_rfl)) h

end
end Go.Ab
