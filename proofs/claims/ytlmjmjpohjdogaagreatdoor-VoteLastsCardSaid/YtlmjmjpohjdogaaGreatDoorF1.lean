/- A part of the proofs of the Vote laws: functions of the program in the evaluator's form, printed by a program of the prover's, each equation checked by the kernel. -/
import Derived.Test.YtlmjmjpohjdogaaGreatDoorF0
set_option linter.unusedVariables false
set_option linter.unusedSimpArgs false
/- PRINTED by gen.py. -/
set_option maxRecDepth 100000
namespace Go.Proofs.Vt
open Go Go.Rx Go.Proofs
/-! 66: sealchain/wal.Scan -/
abbrev N_wal_Scan : FuncId := 66
def L66 (f71 : V → M) (f72 : V → V → M) (f106 : V → M) (f105 : V → V → M) (f107 : V → M) : List (Nat × (List V → M)) := [(71, F1 f71), (72, F2 f72), (106, F1 f106), (105, F2 f105), (107, F1 f107)]
def E66 (f71 : V → M) (f72 : V → V → M) (f106 : V → M) (f105 : V → V → M) (f107 : V → M) : Env := ⟨ty, tabC (L66 f71 f72 f106 f105 f107), meth, tabL [(1, [0, 2, 3])], tabL [(1, [2, 3, 4])]⟩
noncomputable def wal_Scan_L1 (f71 : V → M) (f72 : V → V → M) (f106 : V → M) (f105 : V → V → M) (f107 : V → M) (t0 t2 t3 : V) : AS → KX → Prop := fun s K =>
 (optK (lenV (some (Kd.slice 5)) t0) s fun t9 s => (optK (binV .sub (some (Kd.int .i64)) false t9 t3) s fun t11 s => (optK (binV .geq (some (Kd.int .i64)) true t11 (V.int .i64 4)) s fun t12 s => (condV t12
 (optK (binV .add (some (Kd.int .i64)) true t3 (V.int .i64 4)) s fun t16 s => (optK (sliceSl 1 t0 (some t3) (some t16) none) s fun t17 s => ((f71 t17) s fun t18 s =>
 ((f72 t18 (V.int .i64 2)) s fun t20 s =>
 ((f72 t18 (V.int .i64 2)) s fun t22 s =>
 (optK (binV .sub (some (Kd.int .i64)) true (V.int .i64 65535) t20) s fun t24 s => (optK (binV .neq (some (Kd.int .i64)) false t22 t24) s fun t25 s => (condV t25
 (K .ret [V.junk, V.junk, t2, t3, (V.int .i64 140), V.junk, V.junk, V.junk, V.junk, V.junk, V.junk, V.junk, V.junk, V.junk, V.junk, V.junk, V.junk, V.junk, V.junk, V.junk, V.junk, V.junk, V.junk, V.junk, V.junk, V.junk, V.junk, V.junk, V.junk, V.junk, V.junk, V.junk, V.junk, V.junk, V.junk, V.junk, V.junk, V.junk, V.junk, V.junk, V.junk, V.junk, V.junk, V.junk, V.junk, V.junk, V.junk, V.junk, V.junk, V.junk, V.junk, V.junk, V.junk, V.junk, V.junk, V.junk, V.junk, V.junk, V.junk, V.junk, V.junk, V.junk, V.junk, V.junk, V.junk, V.junk, V.junk, V.junk] s)
 (optK (binV .add (some (Kd.int .i64)) true t3 (V.int .i64 4)) s fun t29 s => (optK (binV .add (some (Kd.int .i64)) false t29 t20) s fun t31 s => (optK (binV .add (some (Kd.int .i64)) true t31 (V.int .i64 4)) s fun t33 s => (optK (lenV (some (Kd.slice 5)) t0) s fun t35 s => (optK (binV .gtr (some (Kd.int .i64)) false t33 t35) s fun t36 s => (condV t36
 (K (.exit 0) [V.junk, V.junk, t2, t3, V.junk, V.junk, V.junk, V.junk, V.junk, V.junk, V.junk, V.junk, V.junk, V.junk, V.junk, V.junk, V.junk, V.junk, V.junk, V.junk, V.junk, V.junk, V.junk, V.junk, V.junk, V.junk, V.junk, V.junk, V.junk, V.junk, V.junk, V.junk, V.junk, V.junk, V.junk, V.junk, V.junk, V.junk, V.junk, V.junk, V.junk, V.junk, V.junk, V.junk, V.junk, V.junk, V.junk, V.junk, V.junk, V.junk, V.junk, V.junk, V.junk, V.junk, V.junk, V.junk, V.junk, V.junk, V.junk, V.junk, V.junk, V.junk, V.junk, V.junk, V.junk, V.junk, V.junk, V.junk] s)
 (optK (binV .gtr (some (Kd.int .i64)) true t20 (V.int .i64 40000)) s fun t38 s => (grd t38
 (K .ret [V.junk, V.junk, t2, t3, (V.int .i64 140), V.junk, V.junk, V.junk, V.junk, V.junk, V.junk, V.junk, V.junk, V.junk, V.junk, V.junk, V.junk, V.junk, V.junk, V.junk, V.junk, V.junk, V.junk, V.junk, V.junk, V.junk, V.junk, V.junk, V.junk, V.junk, V.junk, V.junk, V.junk, V.junk, V.junk, V.junk, V.junk, V.junk, V.junk, V.junk, V.junk, V.junk, V.junk, V.junk, V.junk, V.junk, V.junk, V.junk, V.junk, V.junk, V.junk, V.junk, V.junk, V.junk, V.junk, V.junk, V.junk, V.junk, V.junk, V.junk, V.junk, V.junk, V.junk, V.junk, V.junk, V.junk, V.junk, V.junk] s)
 (optK (sliceSl 1 t0 (some t3) (some t31) none) s fun t43 s => ((f106 t43) s fun t44 s1 =>
 (optK (binV .add (some (Kd.int .i64)) true t31 (V.int .i64 4)) s1 fun t48 s1 => (optK (sliceSl 1 t0 (some t31) (some t48) none) s1 fun t49 s1 => ((f105 t44 t49) s1 fun t50 s2 =>
 (optK (unV .not t50) s2 fun t51 s2 => (condV t51
 (K .ret [V.junk, V.junk, t2, t3, (V.int .i64 140), V.junk, V.junk, V.junk, V.junk, V.junk, V.junk, V.junk, V.junk, V.junk, V.junk, V.junk, V.junk, V.junk, V.junk, V.junk, V.junk, V.junk, V.junk, V.junk, V.junk, V.junk, V.junk, V.junk, V.junk, V.junk, V.junk, V.junk, V.junk, V.junk, V.junk, V.junk, V.junk, V.junk, V.junk, V.junk, V.junk, V.junk, V.junk, V.junk, V.junk, V.junk, V.junk, V.junk, V.junk, V.junk, V.junk, V.junk, V.junk, V.junk, V.junk, V.junk, V.junk, V.junk, V.junk, V.junk, V.junk, V.junk, V.junk, V.junk, V.junk, V.junk, V.junk, V.junk] s2)
 (optK (binV .add (some (Kd.int .i64)) true t3 (V.int .i64 4)) s2 fun t58 s2 => (optK (sliceSl 1 t0 (some t58) (some t31) none) s2 fun t60 s2 => ((f107 t60) s2 fun t61 s2 =>
 ((bsl 1 [(V.slice none 0 0 true)] 1 [(0, t61)]) s2 fun t62 s2 =>
 ((app 1 24 t2 t62) s2 fun t63 s2 =>
 (optK (binV .add (some (Kd.int .i64)) true t31 (V.int .i64 4)) s2 fun t65 s2 => (K .nrm [t0, V.junk, t63, t65, V.junk, V.junk, V.junk, V.junk, V.junk, V.junk, V.junk, V.junk, V.junk, V.junk, V.junk, V.junk, V.junk, V.junk, V.junk, V.junk, V.junk, V.junk, V.junk, V.junk, V.junk, V.junk, V.junk, V.junk, V.junk, V.junk, V.junk, V.junk, V.junk, V.junk, V.junk, V.junk, V.junk, V.junk, V.junk, V.junk, V.junk, V.junk, V.junk, V.junk, V.junk, V.junk, V.junk, V.junk, V.junk, V.junk, V.junk, V.junk, V.junk, V.junk, V.junk, V.junk, V.junk, V.junk, V.junk, V.junk, V.junk, V.junk, V.junk, V.junk, V.junk, V.junk, V.junk, V.junk] s2))))))))))))))
 False))))))))))))))))
 (K (.exit 0) [V.junk, V.junk, t2, t3, V.junk, V.junk, V.junk, V.junk, V.junk, V.junk, V.junk, V.junk, V.junk, V.junk, V.junk, V.junk, V.junk, V.junk, V.junk, V.junk, V.junk, V.junk, V.junk, V.junk, V.junk, V.junk, V.junk, V.junk, V.junk, V.junk, V.junk, V.junk, V.junk, V.junk, V.junk, V.junk, V.junk, V.junk, V.junk, V.junk, V.junk, V.junk, V.junk, V.junk, V.junk, V.junk, V.junk, V.junk, V.junk, V.junk, V.junk, V.junk, V.junk, V.junk, V.junk, V.junk, V.junk, V.junk, V.junk, V.junk, V.junk, V.junk, V.junk, V.junk, V.junk, V.junk, V.junk, V.junk] s)))))
noncomputable def wal_Scan_q (f71 : V → M) (f72 : V → V → M) (f106 : V → M) (f105 : V → V → M) (f107 : V → M) (t0 : V) : M := fun s K =>
 (loopN LOOPS (fun tm s K => wal_Scan_L1 f71 f72 f106 f105 f107 (tm.getD 0 .junk) (tm.getD 2 .junk) (tm.getD 3 .junk) s K) [t0, V.junk, (V.slice none 0 0 true), (V.int .i64 0), V.junk, V.junk, V.junk, V.junk, V.junk, V.junk, V.junk, V.junk, V.junk, V.junk, V.junk, V.junk, V.junk, V.junk, V.junk, V.junk, V.junk, V.junk, V.junk, V.junk, V.junk, V.junk, V.junk, V.junk, V.junk, V.junk, V.junk, V.junk, V.junk, V.junk, V.junk, V.junk, V.junk, V.junk, V.junk, V.junk, V.junk, V.junk, V.junk, V.junk, V.junk, V.junk, V.junk, V.junk, V.junk, V.junk, V.junk, V.junk, V.junk, V.junk, V.junk, V.junk, V.junk, V.junk, V.junk, V.junk, V.junk, V.junk, V.junk, V.junk, V.junk, V.junk, V.junk, V.junk] s (fun e tm s => exX e (fun j1 => (exB (j1 == 0)
 (K (V.tuple [(tm.getD 2 .junk), (tm.getD 3 .junk), (V.int .i64 0)]) s)
 False)) (K (V.tuple [(tm.getD 2 .junk), (tm.getD 3 .junk), (tm.getD 4 .junk)]) s)))
noncomputable def wal_Scan : V → M := wal_Scan_q num_Read num_Reader_Num wal_sums bytes_Equal slices_CloneB
theorem wal_Scan_qe (f71 : V → M) (f72 : V → V → M) (f106 : V → M) (f105 : V → V → M) (f107 : V → M) (t0 : V) : wal_Scan_q f71 f72 f106 f105 f107 t0 = evF (E66 f71 f72 f106 f105 f107) Tryz.f66 [t0] := by kernel_rfl
theorem wal_Scan_s : SP Tryz.prog 66 (F1 wal_Scan) := mk1 (mkEnv tab (L := L66 num_Read num_Reader_Num wal_sums bytes_Equal slices_CloneB) ⟨num_Read_s, num_Reader_Num_s, wal_sums_s, bytes_Equal_s, slices_CloneB_s, trivial⟩) Tryz.func66 (by kernel_rfl) (wal_Scan_qe num_Read num_Reader_Num wal_sums bytes_Equal slices_CloneB)

/-! 34: sealchain/wal.Open -/
abbrev N_wal_Open : FuncId := 34
def L34 (f65 : V → V → M) (f60 : V → M) (f66 : V → M) : List (Nat × (List V → M)) := [(65, F2 f65), (60, F1 f60), (66, F1 f66)]
def E34 (f65 : V → V → M) (f60 : V → M) (f66 : V → M) : Env := ⟨ty, tabC (L34 f65 f60 f66), meth, tabL [], tabL []⟩
noncomputable def wal_Open_q (f65 : V → V → M) (f60 : V → M) (f66 : V → M) (t0 : V) : M := fun s K =>
 ((f65 t0 (V.int .i64 (-1))) s fun t10 s =>
 (optK (binV .neq (some (Kd.int .i64)) true t10 (V.int .i64 9)) s fun t12 s => (condV t12
 (K (V.tuple [(V.ptr none), t10]) s)
 ((f60 t0) s fun t16 s =>
 ((f66 t16) s fun t17 s =>
 (optK (extractV t17 0) s fun t18 s => (optK (extractV t17 1) s fun t19 s => (optK (extractV t17 2) s fun t20 s => (optK (binV .neq (some (Kd.int .i64)) true t20 (V.int .i64 0)) s fun t22 s => (condV t22
 (K (V.tuple [(V.ptr none), t20]) s)
 ((f65 t0 t19) s fun t26 s =>
 (optK (binV .neq (some (Kd.int .i64)) true t26 (V.int .i64 0)) s fun t28 s => (condV t28
 (K (V.tuple [(V.ptr none), t26]) s)
 (optK (aggO (fillV (placeS [(0, 27), (1, 52), (2, 4)] ty) [(V.ptr none), (V.slice none 0 0 true), (V.bool false)] [(0, t0), (1, t18)])) s fun t32 s => ((boxV t32) s fun t33 s =>
 (K (V.tuple [t33, (V.int .i64 0)]) s))))))))))))))))
noncomputable def wal_Open : V → M := wal_Open_q disk_Disk_Cut disk_Disk_Read wal_Scan
theorem wal_Open_qe (f65 : V → V → M) (f60 : V → M) (f66 : V → M) (t0 : V) : wal_Open_q f65 f60 f66 t0 = evF (E34 f65 f60 f66) Tryz.f34 [t0] := by kernel_rfl
theorem wal_Open_s : SP Tryz.prog 34 (F1 wal_Open) := mk1 (mkEnv tab (L := L34 disk_Disk_Cut disk_Disk_Read wal_Scan) ⟨disk_Disk_Cut_s, disk_Disk_Read_s, wal_Scan_s, trivial⟩) Tryz.func34 (by kernel_rfl) (wal_Open_qe disk_Disk_Cut disk_Disk_Read wal_Scan)

/-! 67: (*sealchain/wal.Log).none -/
abbrev N_wal_Log_none : FuncId := 67
def L67 : List (Nat × (List V → M)) := []
def E67 : Env := ⟨ty, tabC (L67), meth, tabL [], tabL []⟩
noncomputable def wal_Log_none_q (t0 : V) : M := fun s K =>
 (optK (binV .eql (some (Kd.ptr 116)) true t0 (V.ptr none)) s fun t4 s => (grd t4
 (K (V.bool true) s)
 (optK (nilV t0) s fun t7 s => (optK (fp 0 t7) s fun t8 s => ((ld1 t8) s fun t9 s =>
 (optK (binV .eql (some (Kd.ptr 87)) true t9 (V.ptr none)) s fun t10 s => (K t10 s)))))
 False))
noncomputable def wal_Log_none : V → M := wal_Log_none_q
theorem wal_Log_none_qe (t0 : V) : wal_Log_none_q t0 = evF (E67) Tryz.f67 [t0] := by kernel_rfl
theorem wal_Log_none_s : SP Tryz.prog 67 (F1 wal_Log_none) := mk1 (mkEnv tab (L := L67) trivial) Tryz.func67 (by kernel_rfl) (wal_Log_none_qe)

/-! 68: sealchain/wal.copied -/
abbrev N_wal_copied : FuncId := 68
def L68 (f107 : V → M) : List (Nat × (List V → M)) := [(107, F1 f107)]
def E68 (f107 : V → M) : Env := ⟨ty, tabC (L68 f107), meth, tabL [(2, [2, 5, 6, 7])], tabL [(2, [2])]⟩
noncomputable def wal_copied_L1 (f107 : V → M) (t2 t5 t6 t7 : V) : AS → KX → Prop := fun s K =>
 (optK (binV .lss (some (Kd.int .i64)) false t7 t6) s fun t8 s => (condV t8
 (optK (elemPtr none 1 t5 t7) s fun t9 s => ((ld1 t9) s fun t10 s =>
 ((f107 t10) s fun t13 s =>
 ((bsl 1 [(V.slice none 0 0 true)] 1 [(0, t13)]) s fun t14 s =>
 ((app 1 24 t2 t14) s fun t15 s =>
 (optK (binV .add (some (Kd.int .i64)) true t7 (V.int .i64 1)) s fun t16 s => (K .nrm [V.junk, V.junk, t15, V.junk, V.junk, t5, t6, t16, V.junk, V.junk, V.junk, V.junk, V.junk, V.junk, V.junk, V.junk, V.junk, V.junk] s)))))))
 (K (.exit 0) [V.junk, V.junk, t2, V.junk, V.junk, V.junk, V.junk, V.junk, V.junk, V.junk, V.junk, V.junk, V.junk, V.junk, V.junk, V.junk, V.junk, V.junk] s)))
noncomputable def wal_copied_q (f107 : V → M) (t0 : V) : M := fun s K =>
 (optK (lenV (some (Kd.slice 59)) t0) s fun t6 s => (loopN LOOPS (fun tm s K => wal_copied_L1 f107 (tm.getD 2 .junk) (tm.getD 5 .junk) (tm.getD 6 .junk) (tm.getD 7 .junk) s K) [V.junk, V.junk, (V.slice none 0 0 true), V.junk, V.junk, t0, t6, (V.int .i64 0), V.junk, V.junk, V.junk, V.junk, V.junk, V.junk, V.junk, V.junk, V.junk, V.junk] s (fun e tm s => exX e (fun j1 => (exB (j1 == 0)
 (K (tm.getD 2 .junk) s)
 False)) (K (tm.getD 2 .junk) s))))
noncomputable def wal_copied : V → M := wal_copied_q slices_CloneB
theorem wal_copied_qe (f107 : V → M) (t0 : V) : wal_copied_q f107 t0 = evF (E68 f107) Tryz.f68 [t0] := by kernel_rfl
theorem wal_copied_s : SP Tryz.prog 68 (F1 wal_copied) := mk1 (mkEnv tab (L := L68 slices_CloneB) ⟨slices_CloneB_s, trivial⟩) Tryz.func68 (by kernel_rfl) (wal_copied_qe slices_CloneB)

/-! 35: (*sealchain/wal.Log).Rows -/
abbrev N_wal_Log_Rows : FuncId := 35
def L35 (f67 : V → M) (f68 : V → M) : List (Nat × (List V → M)) := [(67, F1 f67), (68, F1 f68)]
def E35 (f67 : V → M) (f68 : V → M) : Env := ⟨ty, tabC (L35 f67 f68), meth, tabL [], tabL []⟩
noncomputable def wal_Log_Rows_q (f67 : V → M) (f68 : V → M) (t0 : V) : M := fun s K =>
 ((f67 t0) s fun t4 s =>
 (condV t4
 (K (V.slice none 0 0 true) s)
 (optK (nilV t0) s fun t6 s => (optK (fp 1 t6) s fun t7 s => ((ld1 t7) s fun t8 s =>
 ((f68 t8) s fun t9 s =>
 (K t9 s)))))))
noncomputable def wal_Log_Rows : V → M := wal_Log_Rows_q wal_Log_none wal_copied
theorem wal_Log_Rows_qe (f67 : V → M) (f68 : V → M) (t0 : V) : wal_Log_Rows_q f67 f68 t0 = evF (E35 f67 f68) Tryz.f35 [t0] := by kernel_rfl
theorem wal_Log_Rows_s : SP Tryz.prog 35 (F1 wal_Log_Rows) := mk1 (mkEnv tab (L := L35 wal_Log_none wal_copied) ⟨wal_Log_none_s, wal_copied_s, trivial⟩) Tryz.func35 (by kernel_rfl) (wal_Log_Rows_qe wal_Log_none wal_copied)

/-! 73: (*sealchain/num.Reader).Count -/
abbrev N_num_Reader_Count : FuncId := 73
def L73 (f111 : V → V → M) (f110 : V → V → M) : List (Nat × (List V → M)) := [(111, F2 f111), (110, F2 f110)]
def E73 (f111 : V → V → M) (f110 : V → V → M) : Env := ⟨ty, tabC (L73 f111 f110), meth, tabL [(2, [0, 1, 4, 8])], tabL [(2, [0, 4])]⟩
noncomputable def num_Reader_Count_L1 (f111 : V → V → M) (f110 : V → V → M) (t0 t1 t4 t8 : V) : AS → KX → Prop := fun s K =>
 (optK (binV .lss (some (Kd.int .i64)) true t8 (V.int .i64 8)) s fun t9 s => (condV t9
 ((f111 t0 (V.int .i64 1)) s fun t12 s =>
 (optK (lenV (some (Kd.slice 5)) t12) s fun t14 s => (optK (binV .eql (some (Kd.int .i64)) true t14 (V.int .i64 0)) s fun t15 s => (condV t15
 (K .ret [t0, V.junk, V.junk, V.junk, (V.int .i64 0), V.junk, V.junk, V.junk, V.junk, V.junk, V.junk, V.junk, V.junk, V.junk, V.junk, V.junk, V.junk, V.junk, V.junk, V.junk, V.junk, V.junk, V.junk, V.junk, V.junk, V.junk, V.junk, V.junk, V.junk, V.junk, V.junk, V.junk, V.junk, V.junk, V.junk, V.junk, V.junk, V.junk, V.junk, V.junk, V.junk, V.junk, V.junk, V.junk, V.junk, V.junk, V.junk, V.junk, V.junk, V.junk] s)
 (optK (elemPtr none 1 t12 (V.int .i64 0)) s fun t17 s => ((ld1 t17) s fun t18 s =>
 ((cvt (Kd.int .u8) (Kd.int .i64) t18) s fun t19 s =>
 (optK (binV .shl (some (Kd.int .i64)) true t4 (V.int .u64 7)) s fun t21 s => (optK (binV .rem (some (Kd.int .i64)) true t19 (V.int .i64 128)) s fun t23 s => (optK (binV .or (some (Kd.int .i64)) false t21 t23) s fun t24 s => (optK (binV .eql (some (Kd.int .i64)) true t8 (V.int .i64 0)) s fun t27 s => (grd t27
 (optK (binV .eql (some (Kd.int .i64)) true t19 (V.int .i64 128)) s fun t30 s => (condV t30
 (K (.exit 0) [t0, V.junk, V.junk, V.junk, t24, V.junk, V.junk, V.junk, V.junk, V.junk, V.junk, V.junk, V.junk, V.junk, V.junk, V.junk, V.junk, V.junk, V.junk, V.junk, V.junk, V.junk, V.junk, V.junk, V.junk, V.junk, V.junk, V.junk, V.junk, V.junk, V.junk, V.junk, V.junk, V.junk, V.junk, V.junk, V.junk, V.junk, V.junk, V.junk, V.junk, V.junk, V.junk, V.junk, V.junk, V.junk, V.junk, V.junk, V.junk, V.junk] s)
 (optK (binV .geq (some (Kd.int .i64)) true t19 (V.int .i64 128)) s fun t34 s => (condV t34
 (optK (binV .add (some (Kd.int .i64)) true t8 (V.int .i64 1)) s fun t47 s => (K .nrm [t0, t1, V.junk, V.junk, t24, V.junk, V.junk, V.junk, t47, V.junk, V.junk, V.junk, V.junk, V.junk, V.junk, V.junk, V.junk, V.junk, V.junk, V.junk, V.junk, V.junk, V.junk, V.junk, V.junk, V.junk, V.junk, V.junk, V.junk, V.junk, V.junk, V.junk, V.junk, V.junk, V.junk, V.junk, V.junk, V.junk, V.junk, V.junk, V.junk, V.junk, V.junk, V.junk, V.junk, V.junk, V.junk, V.junk, V.junk, V.junk] s))
 (optK (binV .gtr (some (Kd.int .i64)) true t24 (V.int .i64 9007199254740991)) s fun t37 s => (condV t37
 ((f110 t0 (V.int .i64 9)) s fun t39 s =>
 (K .ret [t0, V.junk, V.junk, V.junk, t39, V.junk, V.junk, V.junk, V.junk, V.junk, V.junk, V.junk, V.junk, V.junk, V.junk, V.junk, V.junk, V.junk, V.junk, V.junk, V.junk, V.junk, V.junk, V.junk, V.junk, V.junk, V.junk, V.junk, V.junk, V.junk, V.junk, V.junk, V.junk, V.junk, V.junk, V.junk, V.junk, V.junk, V.junk, V.junk, V.junk, V.junk, V.junk, V.junk, V.junk, V.junk, V.junk, V.junk, V.junk, V.junk] s))
 (optK (binV .gtr (some (Kd.int .i64)) false t24 t1) s fun t43 s => (condV t43
 ((f110 t0 (V.int .i64 5)) s fun t45 s =>
 (K .ret [t0, V.junk, V.junk, V.junk, t45, V.junk, V.junk, V.junk, V.junk, V.junk, V.junk, V.junk, V.junk, V.junk, V.junk, V.junk, V.junk, V.junk, V.junk, V.junk, V.junk, V.junk, V.junk, V.junk, V.junk, V.junk, V.junk, V.junk, V.junk, V.junk, V.junk, V.junk, V.junk, V.junk, V.junk, V.junk, V.junk, V.junk, V.junk, V.junk, V.junk, V.junk, V.junk, V.junk, V.junk, V.junk, V.junk, V.junk, V.junk, V.junk] s))
 (K .ret [t0, V.junk, V.junk, V.junk, t24, V.junk, V.junk, V.junk, V.junk, V.junk, V.junk, V.junk, V.junk, V.junk, V.junk, V.junk, V.junk, V.junk, V.junk, V.junk, V.junk, V.junk, V.junk, V.junk, V.junk, V.junk, V.junk, V.junk, V.junk, V.junk, V.junk, V.junk, V.junk, V.junk, V.junk, V.junk, V.junk, V.junk, V.junk, V.junk, V.junk, V.junk, V.junk, V.junk, V.junk, V.junk, V.junk, V.junk, V.junk, V.junk] s)))))))))
 (optK (binV .geq (some (Kd.int .i64)) true t19 (V.int .i64 128)) s fun t34 s => (condV t34
 (optK (binV .add (some (Kd.int .i64)) true t8 (V.int .i64 1)) s fun t47 s => (K .nrm [t0, t1, V.junk, V.junk, t24, V.junk, V.junk, V.junk, t47, V.junk, V.junk, V.junk, V.junk, V.junk, V.junk, V.junk, V.junk, V.junk, V.junk, V.junk, V.junk, V.junk, V.junk, V.junk, V.junk, V.junk, V.junk, V.junk, V.junk, V.junk, V.junk, V.junk, V.junk, V.junk, V.junk, V.junk, V.junk, V.junk, V.junk, V.junk, V.junk, V.junk, V.junk, V.junk, V.junk, V.junk, V.junk, V.junk, V.junk, V.junk] s))
 (optK (binV .gtr (some (Kd.int .i64)) true t24 (V.int .i64 9007199254740991)) s fun t37 s => (condV t37
 ((f110 t0 (V.int .i64 9)) s fun t39 s =>
 (K .ret [t0, V.junk, V.junk, V.junk, t39, V.junk, V.junk, V.junk, V.junk, V.junk, V.junk, V.junk, V.junk, V.junk, V.junk, V.junk, V.junk, V.junk, V.junk, V.junk, V.junk, V.junk, V.junk, V.junk, V.junk, V.junk, V.junk, V.junk, V.junk, V.junk, V.junk, V.junk, V.junk, V.junk, V.junk, V.junk, V.junk, V.junk, V.junk, V.junk, V.junk, V.junk, V.junk, V.junk, V.junk, V.junk, V.junk, V.junk, V.junk, V.junk] s))
 (optK (binV .gtr (some (Kd.int .i64)) false t24 t1) s fun t43 s => (condV t43
 ((f110 t0 (V.int .i64 5)) s fun t45 s =>
 (K .ret [t0, V.junk, V.junk, V.junk, t45, V.junk, V.junk, V.junk, V.junk, V.junk, V.junk, V.junk, V.junk, V.junk, V.junk, V.junk, V.junk, V.junk, V.junk, V.junk, V.junk, V.junk, V.junk, V.junk, V.junk, V.junk, V.junk, V.junk, V.junk, V.junk, V.junk, V.junk, V.junk, V.junk, V.junk, V.junk, V.junk, V.junk, V.junk, V.junk, V.junk, V.junk, V.junk, V.junk, V.junk, V.junk, V.junk, V.junk, V.junk, V.junk] s))
 (K .ret [t0, V.junk, V.junk, V.junk, t24, V.junk, V.junk, V.junk, V.junk, V.junk, V.junk, V.junk, V.junk, V.junk, V.junk, V.junk, V.junk, V.junk, V.junk, V.junk, V.junk, V.junk, V.junk, V.junk, V.junk, V.junk, V.junk, V.junk, V.junk, V.junk, V.junk, V.junk, V.junk, V.junk, V.junk, V.junk, V.junk, V.junk, V.junk, V.junk, V.junk, V.junk, V.junk, V.junk, V.junk, V.junk, V.junk, V.junk, V.junk, V.junk] s)))))))
 False))))))))))))
 (K (.exit 0) [t0, V.junk, V.junk, V.junk, t4, V.junk, V.junk, V.junk, V.junk, V.junk, V.junk, V.junk, V.junk, V.junk, V.junk, V.junk, V.junk, V.junk, V.junk, V.junk, V.junk, V.junk, V.junk, V.junk, V.junk, V.junk, V.junk, V.junk, V.junk, V.junk, V.junk, V.junk, V.junk, V.junk, V.junk, V.junk, V.junk, V.junk, V.junk, V.junk, V.junk, V.junk, V.junk, V.junk, V.junk, V.junk, V.junk, V.junk, V.junk, V.junk] s)))
noncomputable def num_Reader_Count_q (f111 : V → V → M) (f110 : V → V → M) (t0 t1 : V) : M := fun s K =>
 (loopN LOOPS (fun tm s K => num_Reader_Count_L1 f111 f110 (tm.getD 0 .junk) (tm.getD 1 .junk) (tm.getD 4 .junk) (tm.getD 8 .junk) s K) [t0, t1, V.junk, V.junk, (V.int .i64 0), V.junk, V.junk, V.junk, (V.int .i64 0), V.junk, V.junk, V.junk, V.junk, V.junk, V.junk, V.junk, V.junk, V.junk, V.junk, V.junk, V.junk, V.junk, V.junk, V.junk, V.junk, V.junk, V.junk, V.junk, V.junk, V.junk, V.junk, V.junk, V.junk, V.junk, V.junk, V.junk, V.junk, V.junk, V.junk, V.junk, V.junk, V.junk, V.junk, V.junk, V.junk, V.junk, V.junk, V.junk, V.junk, V.junk] s (fun e tm s => exX e (fun j1 => (exB (j1 == 0)
 ((f110 (tm.getD 0 .junk) (V.int .i64 4)) s fun t49 s =>
 (K t49 s))
 False)) (K (tm.getD 4 .junk) s)))
noncomputable def num_Reader_Count : V → V → M := num_Reader_Count_q num_Reader_Raw num_Reader_fail
theorem num_Reader_Count_qe (f111 : V → V → M) (f110 : V → V → M) (t0 t1 : V) : num_Reader_Count_q f111 f110 t0 t1 = evF (E73 f111 f110) Tryz.f73 [t0, t1] := by kernel_rfl
theorem num_Reader_Count_s : SP Tryz.prog 73 (F2 num_Reader_Count) := mk2 (mkEnv tab (L := L73 num_Reader_Raw num_Reader_fail) ⟨num_Reader_Raw_s, num_Reader_fail_s, trivial⟩) Tryz.func73 (by kernel_rfl) (num_Reader_Count_qe num_Reader_Raw num_Reader_fail)

/-! 75: (*sealchain/num.Reader).Text -/
abbrev N_num_Reader_Text : FuncId := 75
def L75 (f73 : V → V → M) (f108 : V → M) (f111 : V → V → M) : List (Nat × (List V → M)) := [(73, F2 f73), (108, F1 f108), (111, F2 f111)]
def E75 (f73 : V → V → M) (f108 : V → M) (f111 : V → V → M) : Env := ⟨ty, tabC (L75 f73 f108 f111), meth, tabL [], tabL []⟩
noncomputable def num_Reader_Text_q (f73 : V → V → M) (f108 : V → M) (f111 : V → V → M) (t0 t1 : V) : M := fun s K =>
 ((f73 t0 t1) s fun t8 s =>
 ((f108 t0) s fun t10 s =>
 (optK (binV .eql (some (Kd.int .i64)) true t10 (V.int .i64 0)) s fun t11 s => (condV t11
 ((f111 t0 t8) s fun t14 s =>
 (K t14 s))
 (K (V.slice none 0 0 true) s)))))
noncomputable def num_Reader_Text : V → V → M := num_Reader_Text_q num_Reader_Count num_Reader_Err num_Reader_Raw
theorem num_Reader_Text_qe (f73 : V → V → M) (f108 : V → M) (f111 : V → V → M) (t0 t1 : V) : num_Reader_Text_q f73 f108 f111 t0 t1 = evF (E75 f73 f108 f111) Tryz.f75 [t0, t1] := by kernel_rfl
theorem num_Reader_Text_s : SP Tryz.prog 75 (F2 num_Reader_Text) := mk2 (mkEnv tab (L := L75 num_Reader_Count num_Reader_Err num_Reader_Raw) ⟨num_Reader_Count_s, num_Reader_Err_s, num_Reader_Raw_s, trivial⟩) Tryz.func75 (by kernel_rfl) (num_Reader_Text_qe num_Reader_Count num_Reader_Err num_Reader_Raw)

/-! 76: (*sealchain/num.Reader).End -/
abbrev N_num_Reader_End : FuncId := 76
def L76 (f108 : V → M) (f113 : V → M) : List (Nat × (List V → M)) := [(108, F1 f108), (113, F1 f113)]
def E76 (f108 : V → M) (f113 : V → M) : Env := ⟨ty, tabC (L76 f108 f113), meth, tabL [], tabL []⟩
noncomputable def num_Reader_End_q (f108 : V → M) (f113 : V → M) (t0 : V) : M := fun s K =>
 ((f108 t0) s fun t4 s =>
 (optK (binV .eql (some (Kd.int .i64)) true t4 (V.int .i64 0)) s fun t5 s => (grd t5
 ((f113 t0) s fun t8 s =>
 (optK (binV .gtr (some (Kd.int .i64)) true t8 (V.int .i64 0)) s fun t9 s => (condV t9
 (K (V.int .i64 4) s)
 ((f108 t0) s fun t12 s =>
 (K t12 s)))))
 ((f108 t0) s fun t12 s =>
 (K t12 s))
 False)))
noncomputable def num_Reader_End : V → M := num_Reader_End_q num_Reader_Err num_Reader_Left
theorem num_Reader_End_qe (f108 : V → M) (f113 : V → M) (t0 : V) : num_Reader_End_q f108 f113 t0 = evF (E76 f108 f113) Tryz.f76 [t0] := by kernel_rfl
theorem num_Reader_End_s : SP Tryz.prog 76 (F1 num_Reader_End) := mk1 (mkEnv tab (L := L76 num_Reader_Err num_Reader_Left) ⟨num_Reader_Err_s, num_Reader_Left_s, trivial⟩) Tryz.func76 (by kernel_rfl) (num_Reader_End_qe num_Reader_Err num_Reader_Left)

/-! 84: sealchain/pack.within -/
abbrev N_pack_within : FuncId := 84
def L84 : List (Nat × (List V → M)) := []
def E84 : Env := ⟨ty, tabC (L84), meth, tabL [], tabL []⟩
noncomputable def pack_within_q (t0 t1 t2 : V) : M := fun s K =>
 (optK (binV .leq (some (Kd.int .i64)) false t1 t0) s fun t9 s => (grd t9
 (optK (binV .leq (some (Kd.int .i64)) false t0 t2) s fun t13 s => (K t13 s))
 (K (V.bool false) s)
 False))
noncomputable def pack_within : V → V → V → M := pack_within_q
theorem pack_within_qe (t0 t1 t2 : V) : pack_within_q t0 t1 t2 = evF (E84) Tryz.f84 [t0, t1, t2] := by kernel_rfl
theorem pack_within_s : SP Tryz.prog 84 (F3 pack_within) := mk3 (mkEnv tab (L := L84) trivial) Tryz.func84 (by kernel_rfl) (pack_within_qe)

/-! 79: sealchain/pack.replica -/
abbrev N_pack_replica : FuncId := 79
def L79 (f84 : V → V → V → M) : List (Nat × (List V → M)) := [(84, F3 f84)]
def E79 (f84 : V → V → V → M) : Env := ⟨ty, tabC (L79 f84), meth, tabL [], tabL []⟩
noncomputable def pack_replica_q (f84 : V → V → V → M) (t0 : V) : M := fun s K =>
 ((f84 t0 (V.int .i64 10) (V.int .i64 13)) s fun t4 s =>
 (K t4 s))
noncomputable def pack_replica : V → M := pack_replica_q pack_within
theorem pack_replica_qe (f84 : V → V → V → M) (t0 : V) : pack_replica_q f84 t0 = evF (E79 f84) Tryz.f79 [t0] := by kernel_rfl
theorem pack_replica_s : SP Tryz.prog 79 (F1 pack_replica) := mk1 (mkEnv tab (L := L79 pack_within) ⟨pack_within_s, trivial⟩) Tryz.func79 (by kernel_rfl) (pack_replica_qe pack_within)

/-! 78: sealchain/pack.CheckConf$1 -/
abbrev N_pack_CheckConf_1 : FuncId := 78
def L78 (f79 : V → M) : List (Nat × (List V → M)) := [(79, F1 f79)]
def E78 (f79 : V → M) : Env := ⟨ty, tabC (L78 f79), meth, tabL [], tabL []⟩
noncomputable def pack_CheckConf_1_q (f79 : V → M) (t0 : V) : M := fun s K =>
 ((f79 t0) s fun t4 s =>
 (optK (unV .not t4) s fun t5 s => (K t5 s)))
noncomputable def pack_CheckConf_1 : V → M := pack_CheckConf_1_q pack_replica
theorem pack_CheckConf_1_qe (f79 : V → M) (t0 : V) : pack_CheckConf_1_q f79 t0 = evF (E78 f79) Tryz.f78 [t0] := by kernel_rfl
theorem pack_CheckConf_1_s : SP Tryz.prog 78 (F1 pack_CheckConf_1) := mk1 (mkEnv tab (L := L78 pack_replica) ⟨pack_replica_s, trivial⟩) Tryz.func78 (by kernel_rfl) (pack_CheckConf_1_qe pack_replica)

/-! 114: slices.IndexFunc[[]int,int] -/
abbrev N_slices_IndexFuncI : FuncId := 114
def L114 (f78 : V → M) : List (Nat × (List V → M)) := [(78, F1 f78)]
def E114 (f78 : V → M) : Env := ⟨ty, tabC (L114 f78), meth, tabL [(2, [0, 1, 7, 8])], tabL [(2, [4])]⟩
noncomputable def slices_IndexFuncI_L1 (f78 : V → M) (t0 t1 t7 t8 : V) : AS → KX → Prop := fun s K =>
 (optK (binV .lss (some (Kd.int .i64)) false t8 t7) s fun t9 s => (condV t9
 (optK (elemPtr none 1 t0 t8) s fun t14 s => ((ld1 t14) s fun t15 s =>
 ((callV (E114 f78) t1 [t15]) s fun t16 s =>
 (condV t16
 (K .ret [V.junk, V.junk, V.junk, V.junk, t8, V.junk, V.junk, V.junk, V.junk, V.junk, V.junk, V.junk, V.junk, V.junk, V.junk, V.junk, V.junk, V.junk, V.junk] s)
 (optK (binV .add (some (Kd.int .i64)) true t8 (V.int .i64 1)) s fun t18 s => (K .nrm [t0, t1, V.junk, V.junk, V.junk, V.junk, V.junk, t7, t18, V.junk, V.junk, V.junk, V.junk, V.junk, V.junk, V.junk, V.junk, V.junk, V.junk] s))))))
 (K (.exit 0) [V.junk, V.junk, V.junk, V.junk, V.junk, V.junk, V.junk, V.junk, V.junk, V.junk, V.junk, V.junk, V.junk, V.junk, V.junk, V.junk, V.junk, V.junk, V.junk] s)))
noncomputable def slices_IndexFuncI_q (f78 : V → M) (t0 t1 : V) : M := fun s K =>
 (optK (lenV (some (Kd.slice 3)) t0) s fun t7 s => (loopN LOOPS (fun tm s K => slices_IndexFuncI_L1 f78 (tm.getD 0 .junk) (tm.getD 1 .junk) (tm.getD 7 .junk) (tm.getD 8 .junk) s K) [t0, t1, V.junk, V.junk, V.junk, V.junk, V.junk, t7, (V.int .i64 0), V.junk, V.junk, V.junk, V.junk, V.junk, V.junk, V.junk, V.junk, V.junk, V.junk] s (fun e tm s => exX e (fun j1 => (exB (j1 == 0)
 (K (V.int .i64 (-1)) s)
 False)) (K (tm.getD 4 .junk) s))))
noncomputable def slices_IndexFuncI : V → V → M := slices_IndexFuncI_q pack_CheckConf_1
theorem slices_IndexFuncI_qe (f78 : V → M) (t0 t1 : V) : slices_IndexFuncI_q f78 t0 t1 = evF (E114 f78) Tryz.f114 [t0, t1] := by kernel_rfl
theorem slices_IndexFuncI_s : SP Tryz.prog 114 (F2 slices_IndexFuncI) := mk2 (mkEnv tab (L := L114 pack_CheckConf_1) ⟨pack_CheckConf_1_s, trivial⟩) Tryz.func114 (by kernel_rfl) (slices_IndexFuncI_qe pack_CheckConf_1)

/-! 77: slices.ContainsFunc[[]int,int] -/
abbrev N_slices_ContainsFuncI : FuncId := 77
def L77 (f114 : V → V → M) : List (Nat × (List V → M)) := [(114, F2 f114)]
def E77 (f114 : V → V → M) : Env := ⟨ty, tabC (L77 f114), meth, tabL [], tabL []⟩
noncomputable def slices_ContainsFuncI_q (f114 : V → V → M) (t0 t1 : V) : M := fun s K =>
 ((f114 t0 t1) s fun t7 s =>
 (optK (binV .geq (some (Kd.int .i64)) true t7 (V.int .i64 0)) s fun t8 s => (K t8 s)))
noncomputable def slices_ContainsFuncI : V → V → M := slices_ContainsFuncI_q slices_IndexFuncI
theorem slices_ContainsFuncI_qe (f114 : V → V → M) (t0 t1 : V) : slices_ContainsFuncI_q f114 t0 t1 = evF (E77 f114) Tryz.f77 [t0, t1] := by kernel_rfl
theorem slices_ContainsFuncI_s : SP Tryz.prog 77 (F2 slices_ContainsFuncI) := mk2 (mkEnv tab (L := L77 slices_IndexFuncI) ⟨slices_IndexFuncI_s, trivial⟩) Tryz.func77 (by kernel_rfl) (slices_ContainsFuncI_qe slices_IndexFuncI)

/-! 117: slices.Values[[]int,int]$1 -/
abbrev N_slices_ValuesI_1 : FuncId := 117
def L117 : List (Nat × (List V → M)) := []
def E117 : Env := ⟨ty, tabC (L117), meth, tabL [(1, [0, 5, 6, 7])], tabL [(1, [])]⟩
noncomputable def slices_ValuesI_1_L1 (t0 t5 t6 t7 : V) : AS → KX → Prop := fun s K =>
 (optK (binV .lss (some (Kd.int .i64)) false t7 t6) s fun t8 s => (condV t8
 (optK (elemPtr none 1 t5 t7) s fun t9 s => ((ld1 t9) s fun t10 s =>
 ((callV (E117) t0 [t10]) s fun t13 s =>
 (optK (unV .not t13) s fun t14 s => (condV t14
 (K .ret [V.junk, V.junk, V.junk, V.junk, V.junk, V.junk, V.junk, V.junk, V.junk, V.junk, V.junk, V.junk, V.junk, V.junk, V.junk, V.junk] s)
 (optK (binV .add (some (Kd.int .i64)) true t7 (V.int .i64 1)) s fun t15 s => (K .nrm [t0, V.junk, V.junk, V.junk, V.junk, t5, t6, t15, V.junk, V.junk, V.junk, V.junk, V.junk, V.junk, V.junk, V.junk] s)))))))
 (K (.exit 0) [V.junk, V.junk, V.junk, V.junk, V.junk, V.junk, V.junk, V.junk, V.junk, V.junk, V.junk, V.junk, V.junk, V.junk, V.junk, V.junk] s)))
noncomputable def slices_ValuesI_1_q (t0 t1 : V) : M := fun s K =>
 ((ld1 t1) s fun t5 s =>
 (optK (lenV (some (Kd.slice 3)) t5) s fun t6 s => (loopN LOOPS (fun tm s K => slices_ValuesI_1_L1 (tm.getD 0 .junk) (tm.getD 5 .junk) (tm.getD 6 .junk) (tm.getD 7 .junk) s K) [t0, V.junk, V.junk, V.junk, V.junk, t5, t6, (V.int .i64 0), V.junk, V.junk, V.junk, V.junk, V.junk, V.junk, V.junk, V.junk] s (fun e tm s => exX e (fun j1 => (exB (j1 == 0)
 (K (V.tuple []) s)
 False)) (K (V.tuple []) s)))))
noncomputable def slices_ValuesI_1 : V → V → M := slices_ValuesI_1_q
theorem slices_ValuesI_1_qe (t0 t1 : V) : slices_ValuesI_1_q t0 t1 = evF (E117) Tryz.f117 [t0, t1] := by kernel_rfl
theorem slices_ValuesI_1_s : SP Tryz.prog 117 (F2 slices_ValuesI_1) := mk2 (mkEnv tab (L := L117) trivial) Tryz.func117 (by kernel_rfl) (slices_ValuesI_1_qe)

/-! 81: slices.Values[[]int,int] -/
abbrev N_slices_ValuesI : FuncId := 81
def L81 (f117 : V → V → M) : List (Nat × (List V → M)) := [(117, F2 f117)]
def E81 (f117 : V → V → M) : Env := ⟨ty, tabC (L81 f117), meth, tabL [], tabL []⟩
noncomputable def slices_ValuesI_q (f117 : V → V → M) (t0 : V) : M := fun s K =>
 ((boxV t0) s fun t1 s =>
 (K (V.func (.func 117) [] [t1]) s))
noncomputable def slices_ValuesI : V → M := slices_ValuesI_q slices_ValuesI_1
theorem slices_ValuesI_qe (f117 : V → V → M) (t0 : V) : slices_ValuesI_q f117 t0 = evF (E81 f117) Tryz.f81 [t0] := by kernel_rfl
theorem slices_ValuesI_s : SP Tryz.prog 81 (F1 slices_ValuesI) := mk1 (mkEnv tab (L := L81 slices_ValuesI_1) ⟨slices_ValuesI_1_s, trivial⟩) Tryz.func81 (by kernel_rfl) (slices_ValuesI_qe slices_ValuesI_1)

/-! 164: math/bits.Len32 -/
abbrev N_math_bits_Len32 : FuncId := 164
def L164 : List (Nat × (List V → M)) := []
def E164 : Env := ⟨ty, tabC (L164), meth, tabL [], tabL []⟩
noncomputable def math_bits_Len32_q (t0 : V) : M := fun s K =>
 (optK (binV .geq (some (Kd.int .u32)) true t0 (V.int .u32 65536)) s fun t4 s => (condV t4
 (optK (binV .shr (some (Kd.int .u32)) true t0 (V.int .u64 16)) s fun t6 s => (optK (binV .geq (some (Kd.int .u32)) true t6 (V.int .u32 256)) s fun t8 s => (condV t8
 (optK (binV .shr (some (Kd.int .u32)) true t6 (V.int .u64 8)) s fun t10 s => (optK (binV .add (some (Kd.int .i64)) true (V.int .i64 16) (V.int .i64 8)) s fun t12 s => ((cvt (Kd.int .u32) (Kd.int .u8) t10) s fun t15 s =>
 (optK (indexS (V.str [0, 1, 2, 2, 3, 3, 3, 3, 4, 4, 4, 4, 4, 4, 4, 4, 5, 5, 5, 5, 5, 5, 5, 5, 5, 5, 5, 5, 5, 5, 5, 5, 6, 6, 6, 6, 6, 6, 6, 6, 6, 6, 6, 6, 6, 6, 6, 6, 6, 6, 6, 6, 6, 6, 6, 6, 6, 6, 6, 6, 6, 6, 6, 6, 7, 7, 7, 7, 7, 7, 7, 7, 7, 7, 7, 7, 7, 7, 7, 7, 7, 7, 7, 7, 7, 7, 7, 7, 7, 7, 7, 7, 7, 7, 7, 7, 7, 7, 7, 7, 7, 7, 7, 7, 7, 7, 7, 7, 7, 7, 7, 7, 7, 7, 7, 7, 7, 7, 7, 7, 7, 7, 7, 7, 7, 7, 7, 7, 8, 8, 8, 8, 8, 8, 8, 8, 8, 8, 8, 8, 8, 8, 8, 8, 8, 8, 8, 8, 8, 8, 8, 8, 8, 8, 8, 8, 8, 8, 8, 8, 8, 8, 8, 8, 8, 8, 8, 8, 8, 8, 8, 8, 8, 8, 8, 8, 8, 8, 8, 8, 8, 8, 8, 8, 8, 8, 8, 8, 8, 8, 8, 8, 8, 8, 8, 8, 8, 8, 8, 8, 8, 8, 8, 8, 8, 8, 8, 8, 8, 8, 8, 8, 8, 8, 8, 8, 8, 8, 8, 8, 8, 8, 8, 8, 8, 8, 8, 8, 8, 8, 8, 8, 8, 8, 8, 8, 8, 8, 8, 8, 8, 8, 8, 8, 8, 8, 8, 8, 8, 8, 8, 8, 8, 8, 8, 8]) t15) s fun t16 s => ((cvt (Kd.int .u8) (Kd.int .i64) t16) s fun t17 s =>
 (optK (binV .add (some (Kd.int .i64)) false t12 t17) s fun t18 s => (K t18 s)))))))
 ((cvt (Kd.int .u32) (Kd.int .u8) t6) s fun t15 s =>
 (optK (indexS (V.str [0, 1, 2, 2, 3, 3, 3, 3, 4, 4, 4, 4, 4, 4, 4, 4, 5, 5, 5, 5, 5, 5, 5, 5, 5, 5, 5, 5, 5, 5, 5, 5, 6, 6, 6, 6, 6, 6, 6, 6, 6, 6, 6, 6, 6, 6, 6, 6, 6, 6, 6, 6, 6, 6, 6, 6, 6, 6, 6, 6, 6, 6, 6, 6, 7, 7, 7, 7, 7, 7, 7, 7, 7, 7, 7, 7, 7, 7, 7, 7, 7, 7, 7, 7, 7, 7, 7, 7, 7, 7, 7, 7, 7, 7, 7, 7, 7, 7, 7, 7, 7, 7, 7, 7, 7, 7, 7, 7, 7, 7, 7, 7, 7, 7, 7, 7, 7, 7, 7, 7, 7, 7, 7, 7, 7, 7, 7, 7, 8, 8, 8, 8, 8, 8, 8, 8, 8, 8, 8, 8, 8, 8, 8, 8, 8, 8, 8, 8, 8, 8, 8, 8, 8, 8, 8, 8, 8, 8, 8, 8, 8, 8, 8, 8, 8, 8, 8, 8, 8, 8, 8, 8, 8, 8, 8, 8, 8, 8, 8, 8, 8, 8, 8, 8, 8, 8, 8, 8, 8, 8, 8, 8, 8, 8, 8, 8, 8, 8, 8, 8, 8, 8, 8, 8, 8, 8, 8, 8, 8, 8, 8, 8, 8, 8, 8, 8, 8, 8, 8, 8, 8, 8, 8, 8, 8, 8, 8, 8, 8, 8, 8, 8, 8, 8, 8, 8, 8, 8, 8, 8, 8, 8, 8, 8, 8, 8, 8, 8, 8, 8, 8, 8, 8, 8, 8, 8]) t15) s fun t16 s => ((cvt (Kd.int .u8) (Kd.int .i64) t16) s fun t17 s =>
 (optK (binV .add (some (Kd.int .i64)) false (V.int .i64 16) t17) s fun t18 s => (K t18 s))))))))
 (optK (binV .geq (some (Kd.int .u32)) true t0 (V.int .u32 256)) s fun t8 s => (condV t8
 (optK (binV .shr (some (Kd.int .u32)) true t0 (V.int .u64 8)) s fun t10 s => (optK (binV .add (some (Kd.int .i64)) true (V.int .i64 0) (V.int .i64 8)) s fun t12 s => ((cvt (Kd.int .u32) (Kd.int .u8) t10) s fun t15 s =>
 (optK (indexS (V.str [0, 1, 2, 2, 3, 3, 3, 3, 4, 4, 4, 4, 4, 4, 4, 4, 5, 5, 5, 5, 5, 5, 5, 5, 5, 5, 5, 5, 5, 5, 5, 5, 6, 6, 6, 6, 6, 6, 6, 6, 6, 6, 6, 6, 6, 6, 6, 6, 6, 6, 6, 6, 6, 6, 6, 6, 6, 6, 6, 6, 6, 6, 6, 6, 7, 7, 7, 7, 7, 7, 7, 7, 7, 7, 7, 7, 7, 7, 7, 7, 7, 7, 7, 7, 7, 7, 7, 7, 7, 7, 7, 7, 7, 7, 7, 7, 7, 7, 7, 7, 7, 7, 7, 7, 7, 7, 7, 7, 7, 7, 7, 7, 7, 7, 7, 7, 7, 7, 7, 7, 7, 7, 7, 7, 7, 7, 7, 7, 8, 8, 8, 8, 8, 8, 8, 8, 8, 8, 8, 8, 8, 8, 8, 8, 8, 8, 8, 8, 8, 8, 8, 8, 8, 8, 8, 8, 8, 8, 8, 8, 8, 8, 8, 8, 8, 8, 8, 8, 8, 8, 8, 8, 8, 8, 8, 8, 8, 8, 8, 8, 8, 8, 8, 8, 8, 8, 8, 8, 8, 8, 8, 8, 8, 8, 8, 8, 8, 8, 8, 8, 8, 8, 8, 8, 8, 8, 8, 8, 8, 8, 8, 8, 8, 8, 8, 8, 8, 8, 8, 8, 8, 8, 8, 8, 8, 8, 8, 8, 8, 8, 8, 8, 8, 8, 8, 8, 8, 8, 8, 8, 8, 8, 8, 8, 8, 8, 8, 8, 8, 8, 8, 8, 8, 8, 8, 8]) t15) s fun t16 s => ((cvt (Kd.int .u8) (Kd.int .i64) t16) s fun t17 s =>
 (optK (binV .add (some (Kd.int .i64)) false t12 t17) s fun t18 s => (K t18 s)))))))
 ((cvt (Kd.int .u32) (Kd.int .u8) t0) s fun t15 s =>
 (optK (indexS (V.str [0, 1, 2, 2, 3, 3, 3, 3, 4, 4, 4, 4, 4, 4, 4, 4, 5, 5, 5, 5, 5, 5, 5, 5, 5, 5, 5, 5, 5, 5, 5, 5, 6, 6, 6, 6, 6, 6, 6, 6, 6, 6, 6, 6, 6, 6, 6, 6, 6, 6, 6, 6, 6, 6, 6, 6, 6, 6, 6, 6, 6, 6, 6, 6, 7, 7, 7, 7, 7, 7, 7, 7, 7, 7, 7, 7, 7, 7, 7, 7, 7, 7, 7, 7, 7, 7, 7, 7, 7, 7, 7, 7, 7, 7, 7, 7, 7, 7, 7, 7, 7, 7, 7, 7, 7, 7, 7, 7, 7, 7, 7, 7, 7, 7, 7, 7, 7, 7, 7, 7, 7, 7, 7, 7, 7, 7, 7, 7, 8, 8, 8, 8, 8, 8, 8, 8, 8, 8, 8, 8, 8, 8, 8, 8, 8, 8, 8, 8, 8, 8, 8, 8, 8, 8, 8, 8, 8, 8, 8, 8, 8, 8, 8, 8, 8, 8, 8, 8, 8, 8, 8, 8, 8, 8, 8, 8, 8, 8, 8, 8, 8, 8, 8, 8, 8, 8, 8, 8, 8, 8, 8, 8, 8, 8, 8, 8, 8, 8, 8, 8, 8, 8, 8, 8, 8, 8, 8, 8, 8, 8, 8, 8, 8, 8, 8, 8, 8, 8, 8, 8, 8, 8, 8, 8, 8, 8, 8, 8, 8, 8, 8, 8, 8, 8, 8, 8, 8, 8, 8, 8, 8, 8, 8, 8, 8, 8, 8, 8, 8, 8, 8, 8, 8, 8, 8, 8]) t15) s fun t16 s => ((cvt (Kd.int .u8) (Kd.int .i64) t16) s fun t17 s =>
 (optK (binV .add (some (Kd.int .i64)) false (V.int .i64 0) t17) s fun t18 s => (K t18 s)))))))))
noncomputable def math_bits_Len32 : V → M := math_bits_Len32_q
theorem math_bits_Len32_qe (t0 : V) : math_bits_Len32_q t0 = evF (E164) Tryz.f164 [t0] := by kernel_rfl
theorem math_bits_Len32_s : SP Tryz.prog 164 (F1 math_bits_Len32) := mk1 (mkEnv tab (L := L164) trivial) Tryz.func164 (by kernel_rfl) (math_bits_Len32_qe)

/-! 165: math/bits.Len64 -/
abbrev N_math_bits_Len64 : FuncId := 165
def L165 : List (Nat × (List V → M)) := []
def E165 : Env := ⟨ty, tabC (L165), meth, tabL [], tabL []⟩
noncomputable def math_bits_Len64_q (t0 : V) : M := fun s K =>
 (optK (binV .geq (some (Kd.int .u64)) true t0 (V.int .u64 4294967296)) s fun t4 s => (condV t4
 (optK (binV .shr (some (Kd.int .u64)) true t0 (V.int .u64 32)) s fun t6 s => (optK (binV .geq (some (Kd.int .u64)) true t6 (V.int .u64 65536)) s fun t8 s => (condV t8
 (optK (binV .shr (some (Kd.int .u64)) true t6 (V.int .u64 16)) s fun t10 s => (optK (binV .add (some (Kd.int .i64)) true (V.int .i64 32) (V.int .i64 16)) s fun t12 s => (optK (binV .geq (some (Kd.int .u64)) true t10 (V.int .u64 256)) s fun t14 s => (condV t14
 (optK (binV .shr (some (Kd.int .u64)) true t10 (V.int .u64 8)) s fun t16 s => (optK (binV .add (some (Kd.int .i64)) true t12 (V.int .i64 8)) s fun t18 s => ((cvt (Kd.int .u64) (Kd.int .u8) t16) s fun t21 s =>
 (optK (indexS (V.str [0, 1, 2, 2, 3, 3, 3, 3, 4, 4, 4, 4, 4, 4, 4, 4, 5, 5, 5, 5, 5, 5, 5, 5, 5, 5, 5, 5, 5, 5, 5, 5, 6, 6, 6, 6, 6, 6, 6, 6, 6, 6, 6, 6, 6, 6, 6, 6, 6, 6, 6, 6, 6, 6, 6, 6, 6, 6, 6, 6, 6, 6, 6, 6, 7, 7, 7, 7, 7, 7, 7, 7, 7, 7, 7, 7, 7, 7, 7, 7, 7, 7, 7, 7, 7, 7, 7, 7, 7, 7, 7, 7, 7, 7, 7, 7, 7, 7, 7, 7, 7, 7, 7, 7, 7, 7, 7, 7, 7, 7, 7, 7, 7, 7, 7, 7, 7, 7, 7, 7, 7, 7, 7, 7, 7, 7, 7, 7, 8, 8, 8, 8, 8, 8, 8, 8, 8, 8, 8, 8, 8, 8, 8, 8, 8, 8, 8, 8, 8, 8, 8, 8, 8, 8, 8, 8, 8, 8, 8, 8, 8, 8, 8, 8, 8, 8, 8, 8, 8, 8, 8, 8, 8, 8, 8, 8, 8, 8, 8, 8, 8, 8, 8, 8, 8, 8, 8, 8, 8, 8, 8, 8, 8, 8, 8, 8, 8, 8, 8, 8, 8, 8, 8, 8, 8, 8, 8, 8, 8, 8, 8, 8, 8, 8, 8, 8, 8, 8, 8, 8, 8, 8, 8, 8, 8, 8, 8, 8, 8, 8, 8, 8, 8, 8, 8, 8, 8, 8, 8, 8, 8, 8, 8, 8, 8, 8, 8, 8, 8, 8, 8, 8, 8, 8, 8, 8]) t21) s fun t22 s => ((cvt (Kd.int .u8) (Kd.int .i64) t22) s fun t23 s =>
 (optK (binV .add (some (Kd.int .i64)) false t18 t23) s fun t24 s => (K t24 s)))))))
 ((cvt (Kd.int .u64) (Kd.int .u8) t10) s fun t21 s =>
 (optK (indexS (V.str [0, 1, 2, 2, 3, 3, 3, 3, 4, 4, 4, 4, 4, 4, 4, 4, 5, 5, 5, 5, 5, 5, 5, 5, 5, 5, 5, 5, 5, 5, 5, 5, 6, 6, 6, 6, 6, 6, 6, 6, 6, 6, 6, 6, 6, 6, 6, 6, 6, 6, 6, 6, 6, 6, 6, 6, 6, 6, 6, 6, 6, 6, 6, 6, 7, 7, 7, 7, 7, 7, 7, 7, 7, 7, 7, 7, 7, 7, 7, 7, 7, 7, 7, 7, 7, 7, 7, 7, 7, 7, 7, 7, 7, 7, 7, 7, 7, 7, 7, 7, 7, 7, 7, 7, 7, 7, 7, 7, 7, 7, 7, 7, 7, 7, 7, 7, 7, 7, 7, 7, 7, 7, 7, 7, 7, 7, 7, 7, 8, 8, 8, 8, 8, 8, 8, 8, 8, 8, 8, 8, 8, 8, 8, 8, 8, 8, 8, 8, 8, 8, 8, 8, 8, 8, 8, 8, 8, 8, 8, 8, 8, 8, 8, 8, 8, 8, 8, 8, 8, 8, 8, 8, 8, 8, 8, 8, 8, 8, 8, 8, 8, 8, 8, 8, 8, 8, 8, 8, 8, 8, 8, 8, 8, 8, 8, 8, 8, 8, 8, 8, 8, 8, 8, 8, 8, 8, 8, 8, 8, 8, 8, 8, 8, 8, 8, 8, 8, 8, 8, 8, 8, 8, 8, 8, 8, 8, 8, 8, 8, 8, 8, 8, 8, 8, 8, 8, 8, 8, 8, 8, 8, 8, 8, 8, 8, 8, 8, 8, 8, 8, 8, 8, 8, 8, 8, 8]) t21) s fun t22 s => ((cvt (Kd.int .u8) (Kd.int .i64) t22) s fun t23 s =>
 (optK (binV .add (some (Kd.int .i64)) false t12 t23) s fun t24 s => (K t24 s)))))))))
 (optK (binV .geq (some (Kd.int .u64)) true t6 (V.int .u64 256)) s fun t14 s => (condV t14
 (optK (binV .shr (some (Kd.int .u64)) true t6 (V.int .u64 8)) s fun t16 s => (optK (binV .add (some (Kd.int .i64)) true (V.int .i64 32) (V.int .i64 8)) s fun t18 s => ((cvt (Kd.int .u64) (Kd.int .u8) t16) s fun t21 s =>
 (optK (indexS (V.str [0, 1, 2, 2, 3, 3, 3, 3, 4, 4, 4, 4, 4, 4, 4, 4, 5, 5, 5, 5, 5, 5, 5, 5, 5, 5, 5, 5, 5, 5, 5, 5, 6, 6, 6, 6, 6, 6, 6, 6, 6, 6, 6, 6, 6, 6, 6, 6, 6, 6, 6, 6, 6, 6, 6, 6, 6, 6, 6, 6, 6, 6, 6, 6, 7, 7, 7, 7, 7, 7, 7, 7, 7, 7, 7, 7, 7, 7, 7, 7, 7, 7, 7, 7, 7, 7, 7, 7, 7, 7, 7, 7, 7, 7, 7, 7, 7, 7, 7, 7, 7, 7, 7, 7, 7, 7, 7, 7, 7, 7, 7, 7, 7, 7, 7, 7, 7, 7, 7, 7, 7, 7, 7, 7, 7, 7, 7, 7, 8, 8, 8, 8, 8, 8, 8, 8, 8, 8, 8, 8, 8, 8, 8, 8, 8, 8, 8, 8, 8, 8, 8, 8, 8, 8, 8, 8, 8, 8, 8, 8, 8, 8, 8, 8, 8, 8, 8, 8, 8, 8, 8, 8, 8, 8, 8, 8, 8, 8, 8, 8, 8, 8, 8, 8, 8, 8, 8, 8, 8, 8, 8, 8, 8, 8, 8, 8, 8, 8, 8, 8, 8, 8, 8, 8, 8, 8, 8, 8, 8, 8, 8, 8, 8, 8, 8, 8, 8, 8, 8, 8, 8, 8, 8, 8, 8, 8, 8, 8, 8, 8, 8, 8, 8, 8, 8, 8, 8, 8, 8, 8, 8, 8, 8, 8, 8, 8, 8, 8, 8, 8, 8, 8, 8, 8, 8, 8]) t21) s fun t22 s => ((cvt (Kd.int .u8) (Kd.int .i64) t22) s fun t23 s =>
 (optK (binV .add (some (Kd.int .i64)) false t18 t23) s fun t24 s => (K t24 s)))))))
 ((cvt (Kd.int .u64) (Kd.int .u8) t6) s fun t21 s =>
 (optK (indexS (V.str [0, 1, 2, 2, 3, 3, 3, 3, 4, 4, 4, 4, 4, 4, 4, 4, 5, 5, 5, 5, 5, 5, 5, 5, 5, 5, 5, 5, 5, 5, 5, 5, 6, 6, 6, 6, 6, 6, 6, 6, 6, 6, 6, 6, 6, 6, 6, 6, 6, 6, 6, 6, 6, 6, 6, 6, 6, 6, 6, 6, 6, 6, 6, 6, 7, 7, 7, 7, 7, 7, 7, 7, 7, 7, 7, 7, 7, 7, 7, 7, 7, 7, 7, 7, 7, 7, 7, 7, 7, 7, 7, 7, 7, 7, 7, 7, 7, 7, 7, 7, 7, 7, 7, 7, 7, 7, 7, 7, 7, 7, 7, 7, 7, 7, 7, 7, 7, 7, 7, 7, 7, 7, 7, 7, 7, 7, 7, 7, 8, 8, 8, 8, 8, 8, 8, 8, 8, 8, 8, 8, 8, 8, 8, 8, 8, 8, 8, 8, 8, 8, 8, 8, 8, 8, 8, 8, 8, 8, 8, 8, 8, 8, 8, 8, 8, 8, 8, 8, 8, 8, 8, 8, 8, 8, 8, 8, 8, 8, 8, 8, 8, 8, 8, 8, 8, 8, 8, 8, 8, 8, 8, 8, 8, 8, 8, 8, 8, 8, 8, 8, 8, 8, 8, 8, 8, 8, 8, 8, 8, 8, 8, 8, 8, 8, 8, 8, 8, 8, 8, 8, 8, 8, 8, 8, 8, 8, 8, 8, 8, 8, 8, 8, 8, 8, 8, 8, 8, 8, 8, 8, 8, 8, 8, 8, 8, 8, 8, 8, 8, 8, 8, 8, 8, 8, 8, 8]) t21) s fun t22 s => ((cvt (Kd.int .u8) (Kd.int .i64) t22) s fun t23 s =>
 (optK (binV .add (some (Kd.int .i64)) false (V.int .i64 32) t23) s fun t24 s => (K t24 s))))))))))
 (optK (binV .geq (some (Kd.int .u64)) true t0 (V.int .u64 65536)) s fun t8 s => (condV t8
 (optK (binV .shr (some (Kd.int .u64)) true t0 (V.int .u64 16)) s fun t10 s => (optK (binV .add (some (Kd.int .i64)) true (V.int .i64 0) (V.int .i64 16)) s fun t12 s => (optK (binV .geq (some (Kd.int .u64)) true t10 (V.int .u64 256)) s fun t14 s => (condV t14
 (optK (binV .shr (some (Kd.int .u64)) true t10 (V.int .u64 8)) s fun t16 s => (optK (binV .add (some (Kd.int .i64)) true t12 (V.int .i64 8)) s fun t18 s => ((cvt (Kd.int .u64) (Kd.int .u8) t16) s fun t21 s =>
 (optK (indexS (V.str [0, 1, 2, 2, 3, 3, 3, 3, 4, 4, 4, 4, 4, 4, 4, 4, 5, 5, 5, 5, 5, 5, 5, 5, 5, 5, 5, 5, 5, 5, 5, 5, 6, 6, 6, 6, 6, 6, 6, 6, 6, 6, 6, 6, 6, 6, 6, 6, 6, 6, 6, 6, 6, 6, 6, 6, 6, 6, 6, 6, 6, 6, 6, 6, 7, 7, 7, 7, 7, 7, 7, 7, 7, 7, 7, 7, 7, 7, 7, 7, 7, 7, 7, 7, 7, 7, 7, 7, 7, 7, 7, 7, 7, 7, 7, 7, 7, 7, 7, 7, 7, 7, 7, 7, 7, 7, 7, 7, 7, 7, 7, 7, 7, 7, 7, 7, 7, 7, 7, 7, 7, 7, 7, 7, 7, 7, 7, 7, 8, 8, 8, 8, 8, 8, 8, 8, 8, 8, 8, 8, 8, 8, 8, 8, 8, 8, 8, 8, 8, 8, 8, 8, 8, 8, 8, 8, 8, 8, 8, 8, 8, 8, 8, 8, 8, 8, 8, 8, 8, 8, 8, 8, 8, 8, 8, 8, 8, 8, 8, 8, 8, 8, 8, 8, 8, 8, 8, 8, 8, 8, 8, 8, 8, 8, 8, 8, 8, 8, 8, 8, 8, 8, 8, 8, 8, 8, 8, 8, 8, 8, 8, 8, 8, 8, 8, 8, 8, 8, 8, 8, 8, 8, 8, 8, 8, 8, 8, 8, 8, 8, 8, 8, 8, 8, 8, 8, 8, 8, 8, 8, 8, 8, 8, 8, 8, 8, 8, 8, 8, 8, 8, 8, 8, 8, 8, 8]) t21) s fun t22 s => ((cvt (Kd.int .u8) (Kd.int .i64) t22) s fun t23 s =>
 (optK (binV .add (some (Kd.int .i64)) false t18 t23) s fun t24 s => (K t24 s)))))))
 ((cvt (Kd.int .u64) (Kd.int .u8) t10) s fun t21 s =>
 (optK (indexS (V.str [0, 1, 2, 2, 3, 3, 3, 3, 4, 4, 4, 4, 4, 4, 4, 4, 5, 5, 5, 5, 5, 5, 5, 5, 5, 5, 5, 5, 5, 5, 5, 5, 6, 6, 6, 6, 6, 6, 6, 6, 6, 6, 6, 6, 6, 6, 6, 6, 6, 6, 6, 6, 6, 6, 6, 6, 6, 6, 6, 6, 6, 6, 6, 6, 7, 7, 7, 7, 7, 7, 7, 7, 7, 7, 7, 7, 7, 7, 7, 7, 7, 7, 7, 7, 7, 7, 7, 7, 7, 7, 7, 7, 7, 7, 7, 7, 7, 7, 7, 7, 7, 7, 7, 7, 7, 7, 7, 7, 7, 7, 7, 7, 7, 7, 7, 7, 7, 7, 7, 7, 7, 7, 7, 7, 7, 7, 7, 7, 8, 8, 8, 8, 8, 8, 8, 8, 8, 8, 8, 8, 8, 8, 8, 8, 8, 8, 8, 8, 8, 8, 8, 8, 8, 8, 8, 8, 8, 8, 8, 8, 8, 8, 8, 8, 8, 8, 8, 8, 8, 8, 8, 8, 8, 8, 8, 8, 8, 8, 8, 8, 8, 8, 8, 8, 8, 8, 8, 8, 8, 8, 8, 8, 8, 8, 8, 8, 8, 8, 8, 8, 8, 8, 8, 8, 8, 8, 8, 8, 8, 8, 8, 8, 8, 8, 8, 8, 8, 8, 8, 8, 8, 8, 8, 8, 8, 8, 8, 8, 8, 8, 8, 8, 8, 8, 8, 8, 8, 8, 8, 8, 8, 8, 8, 8, 8, 8, 8, 8, 8, 8, 8, 8, 8, 8, 8, 8]) t21) s fun t22 s => ((cvt (Kd.int .u8) (Kd.int .i64) t22) s fun t23 s =>
 (optK (binV .add (some (Kd.int .i64)) false t12 t23) s fun t24 s => (K t24 s)))))))))
 (optK (binV .geq (some (Kd.int .u64)) true t0 (V.int .u64 256)) s fun t14 s => (condV t14
 (optK (binV .shr (some (Kd.int .u64)) true t0 (V.int .u64 8)) s fun t16 s => (optK (binV .add (some (Kd.int .i64)) true (V.int .i64 0) (V.int .i64 8)) s fun t18 s => ((cvt (Kd.int .u64) (Kd.int .u8) t16) s fun t21 s =>
 (optK (indexS (V.str [0, 1, 2, 2, 3, 3, 3, 3, 4, 4, 4, 4, 4, 4, 4, 4, 5, 5, 5, 5, 5, 5, 5, 5, 5, 5, 5, 5, 5, 5, 5, 5, 6, 6, 6, 6, 6, 6, 6, 6, 6, 6, 6, 6, 6, 6, 6, 6, 6, 6, 6, 6, 6, 6, 6, 6, 6, 6, 6, 6, 6, 6, 6, 6, 7, 7, 7, 7, 7, 7, 7, 7, 7, 7, 7, 7, 7, 7, 7, 7, 7, 7, 7, 7, 7, 7, 7, 7, 7, 7, 7, 7, 7, 7, 7, 7, 7, 7, 7, 7, 7, 7, 7, 7, 7, 7, 7, 7, 7, 7, 7, 7, 7, 7, 7, 7, 7, 7, 7, 7, 7, 7, 7, 7, 7, 7, 7, 7, 8, 8, 8, 8, 8, 8, 8, 8, 8, 8, 8, 8, 8, 8, 8, 8, 8, 8, 8, 8, 8, 8, 8, 8, 8, 8, 8, 8, 8, 8, 8, 8, 8, 8, 8, 8, 8, 8, 8, 8, 8, 8, 8, 8, 8, 8, 8, 8, 8, 8, 8, 8, 8, 8, 8, 8, 8, 8, 8, 8, 8, 8, 8, 8, 8, 8, 8, 8, 8, 8, 8, 8, 8, 8, 8, 8, 8, 8, 8, 8, 8, 8, 8, 8, 8, 8, 8, 8, 8, 8, 8, 8, 8, 8, 8, 8, 8, 8, 8, 8, 8, 8, 8, 8, 8, 8, 8, 8, 8, 8, 8, 8, 8, 8, 8, 8, 8, 8, 8, 8, 8, 8, 8, 8, 8, 8, 8, 8]) t21) s fun t22 s => ((cvt (Kd.int .u8) (Kd.int .i64) t22) s fun t23 s =>
 (optK (binV .add (some (Kd.int .i64)) false t18 t23) s fun t24 s => (K t24 s)))))))
 ((cvt (Kd.int .u64) (Kd.int .u8) t0) s fun t21 s =>
 (optK (indexS (V.str [0, 1, 2, 2, 3, 3, 3, 3, 4, 4, 4, 4, 4, 4, 4, 4, 5, 5, 5, 5, 5, 5, 5, 5, 5, 5, 5, 5, 5, 5, 5, 5, 6, 6, 6, 6, 6, 6, 6, 6, 6, 6, 6, 6, 6, 6, 6, 6, 6, 6, 6, 6, 6, 6, 6, 6, 6, 6, 6, 6, 6, 6, 6, 6, 7, 7, 7, 7, 7, 7, 7, 7, 7, 7, 7, 7, 7, 7, 7, 7, 7, 7, 7, 7, 7, 7, 7, 7, 7, 7, 7, 7, 7, 7, 7, 7, 7, 7, 7, 7, 7, 7, 7, 7, 7, 7, 7, 7, 7, 7, 7, 7, 7, 7, 7, 7, 7, 7, 7, 7, 7, 7, 7, 7, 7, 7, 7, 7, 8, 8, 8, 8, 8, 8, 8, 8, 8, 8, 8, 8, 8, 8, 8, 8, 8, 8, 8, 8, 8, 8, 8, 8, 8, 8, 8, 8, 8, 8, 8, 8, 8, 8, 8, 8, 8, 8, 8, 8, 8, 8, 8, 8, 8, 8, 8, 8, 8, 8, 8, 8, 8, 8, 8, 8, 8, 8, 8, 8, 8, 8, 8, 8, 8, 8, 8, 8, 8, 8, 8, 8, 8, 8, 8, 8, 8, 8, 8, 8, 8, 8, 8, 8, 8, 8, 8, 8, 8, 8, 8, 8, 8, 8, 8, 8, 8, 8, 8, 8, 8, 8, 8, 8, 8, 8, 8, 8, 8, 8, 8, 8, 8, 8, 8, 8, 8, 8, 8, 8, 8, 8, 8, 8, 8, 8, 8, 8]) t21) s fun t22 s => ((cvt (Kd.int .u8) (Kd.int .i64) t22) s fun t23 s =>
 (optK (binV .add (some (Kd.int .i64)) false (V.int .i64 0) t23) s fun t24 s => (K t24 s)))))))))))
noncomputable def math_bits_Len64 : V → M := math_bits_Len64_q
theorem math_bits_Len64_qe (t0 : V) : math_bits_Len64_q t0 = evF (E165) Tryz.f165 [t0] := by kernel_rfl
theorem math_bits_Len64_s : SP Tryz.prog 165 (F1 math_bits_Len64) := mk1 (mkEnv tab (L := L165) trivial) Tryz.func165 (by kernel_rfl) (math_bits_Len64_qe)

/-! 143: math/bits.Len -/
abbrev N_math_bits_Len : FuncId := 143
def L143 (f164 : V → M) (f165 : V → M) : List (Nat × (List V → M)) := [(164, F1 f164), (165, F1 f165)]
def E143 (f164 : V → M) (f165 : V → M) : Env := ⟨ty, tabC (L143 f164 f165), meth, tabL [], tabL []⟩
noncomputable def math_bits_Len_q (f164 : V → M) (f165 : V → M) (t0 : V) : M := fun s K =>
 ((f165 t0) s fun t7 s =>
 (K t7 s))
noncomputable def math_bits_Len : V → M := math_bits_Len_q math_bits_Len32 math_bits_Len64
theorem math_bits_Len_qe (f164 : V → M) (f165 : V → M) (t0 : V) : math_bits_Len_q f164 f165 t0 = evF (E143 f164 f165) Tryz.f143 [t0] := by kernel_rfl
theorem math_bits_Len_s : SP Tryz.prog 143 (F1 math_bits_Len) := mk1 (mkEnv tab (L := L143 math_bits_Len32 math_bits_Len64) ⟨math_bits_Len32_s, math_bits_Len64_s, trivial⟩) Tryz.func143 (by kernel_rfl) (math_bits_Len_qe math_bits_Len32 math_bits_Len64)

/-! 120: cmp.isNaN[int] -/
abbrev N_cmp_isNaNI : FuncId := 120
def L120 : List (Nat × (List V → M)) := []
def E120 : Env := ⟨ty, tabC (L120), meth, tabL [], tabL []⟩
noncomputable def cmp_isNaNI_q (t0 : V) : M := fun s K =>
 (optK (binV .neq (some (Kd.int .i64)) false t0 t0) s fun t5 s => (K t5 s))
noncomputable def cmp_isNaNI : V → M := cmp_isNaNI_q
theorem cmp_isNaNI_qe (t0 : V) : cmp_isNaNI_q t0 = evF (E120) Tryz.f120 [t0] := by kernel_rfl
theorem cmp_isNaNI_s : SP Tryz.prog 120 (F1 cmp_isNaNI) := mk1 (mkEnv tab (L := L120) trivial) Tryz.func120 (by kernel_rfl) (cmp_isNaNI_qe)

/-! 161: cmp.Less[int] -/
abbrev N_cmp_LessI : FuncId := 161
def L161 (f120 : V → M) : List (Nat × (List V → M)) := [(120, F1 f120)]
def E161 (f120 : V → M) : Env := ⟨ty, tabC (L161 f120), meth, tabL [], tabL []⟩
noncomputable def cmp_LessI_q (f120 : V → M) (t0 t1 : V) : M := fun s K =>
 ((f120 t0) s fun t6 s =>
 (grd t6
 ((f120 t1) s fun t9 s =>
 (optK (unV .not t9) s fun t10 s => (grd t10
 (K (V.bool true) s)
 (optK (binV .lss (some (Kd.int .i64)) false t0 t1) s fun t15 s => (K t15 s))
 False)))
 (optK (binV .lss (some (Kd.int .i64)) false t0 t1) s fun t15 s => (K t15 s))
 False))
noncomputable def cmp_LessI : V → V → M := cmp_LessI_q cmp_isNaNI
theorem cmp_LessI_qe (f120 : V → M) (t0 t1 : V) : cmp_LessI_q f120 t0 t1 = evF (E161 f120) Tryz.f161 [t0, t1] := by kernel_rfl
theorem cmp_LessI_s : SP Tryz.prog 161 (F2 cmp_LessI) := mk2 (mkEnv tab (L := L161 cmp_isNaNI) ⟨cmp_isNaNI_s, trivial⟩) Tryz.func161 (by kernel_rfl) (cmp_LessI_qe cmp_isNaNI)

/-! 155: slices.insertionSortOrdered[int] -/
abbrev N_slices_insertionSortOrderedI : FuncId := 155
def L155 (f161 : V → V → M) : List (Nat × (List V → M)) := [(161, F2 f161)]
def E155 (f161 : V → V → M) : Env := ⟨ty, tabC (L155 f161), meth, tabL [(1, [0, 1, 2, 6]), (4, [0, 1, 2, 6, 7])], tabL [(1, []), (4, [0, 1, 2, 6])]⟩
noncomputable def slices_insertionSortOrderedI_L2 (f161 : V → V → M) (t0 t1 t2 t6 t7 : V) : AS → KX → Prop := fun s K =>
 (optK (binV .gtr (some (Kd.int .i64)) false t7 t1) s fun t18 s => (grd t18
 (optK (elemPtr none 1 t0 t7) s fun t22 s => ((ld1 t22) s fun t23 s1 =>
 (optK (binV .sub (some (Kd.int .i64)) true t7 (V.int .i64 1)) s1 fun t26 s1 => (optK (elemPtr none 1 t0 t26) s1 fun t27 s1 => ((ld1 t27) s1 fun t28 s2 =>
 ((f161 t23 t28) s2 fun t29 s3 =>
 (condV t29
 (optK (binV .sub (some (Kd.int .i64)) true t7 (V.int .i64 1)) s3 fun t37 s3 => (optK (binV .sub (some (Kd.int .i64)) true t7 (V.int .i64 1)) s3 fun t40 s3 => (optK (elemPtr none 1 t0 t40) s3 fun t41 s3 => ((ld1 t41) s3 fun t42 s4 =>
 (optK (elemPtr none 1 t0 t7) s4 fun t45 s4 => ((ld1 t45) s4 fun t46 s5 =>
 (optK (elemPtr none 1 t0 t7) s5 fun t47 s5 => ((st 1 t47 t42) s5 fun _ s6 =>
 (optK (elemPtr none 1 t0 t37) s6 fun t48 s6 => ((st 1 t48 t46) s6 fun _ s7 =>
 (optK (binV .sub (some (Kd.int .i64)) true t7 (V.int .i64 1)) s7 fun t32 s7 => (K .nrm [t0, t1, t2, V.junk, V.junk, V.junk, t6, t32, V.junk, V.junk, V.junk, V.junk, V.junk, V.junk, V.junk, V.junk, V.junk, V.junk, V.junk, V.junk, V.junk, V.junk, V.junk, V.junk, V.junk, V.junk, V.junk, V.junk, V.junk, V.junk, V.junk, V.junk, V.junk, V.junk, V.junk, V.junk, V.junk, V.junk, V.junk, V.junk, V.junk, V.junk, V.junk, V.junk, V.junk, V.junk, V.junk, V.junk, V.junk] s7))))))))))))
 (K (.exit 2) [t0, t1, t2, V.junk, V.junk, V.junk, t6, V.junk, V.junk, V.junk, V.junk, V.junk, V.junk, V.junk, V.junk, V.junk, V.junk, V.junk, V.junk, V.junk, V.junk, V.junk, V.junk, V.junk, V.junk, V.junk, V.junk, V.junk, V.junk, V.junk, V.junk, V.junk, V.junk, V.junk, V.junk, V.junk, V.junk, V.junk, V.junk, V.junk, V.junk, V.junk, V.junk, V.junk, V.junk, V.junk, V.junk, V.junk, V.junk] s3))))))))
 (K (.exit 2) [t0, t1, t2, V.junk, V.junk, V.junk, t6, V.junk, V.junk, V.junk, V.junk, V.junk, V.junk, V.junk, V.junk, V.junk, V.junk, V.junk, V.junk, V.junk, V.junk, V.junk, V.junk, V.junk, V.junk, V.junk, V.junk, V.junk, V.junk, V.junk, V.junk, V.junk, V.junk, V.junk, V.junk, V.junk, V.junk, V.junk, V.junk, V.junk, V.junk, V.junk, V.junk, V.junk, V.junk, V.junk, V.junk, V.junk, V.junk] s)
 False))
noncomputable def slices_insertionSortOrderedI_L1 (f161 : V → V → M) (t0 t1 t2 t6 : V) : AS → KX → Prop := fun s K =>
 (optK (binV .lss (some (Kd.int .i64)) false t6 t2) s fun t12 s => (condV t12
 (loopN LOOPS (fun tm s K => slices_insertionSortOrderedI_L2 f161 (tm.getD 0 .junk) (tm.getD 1 .junk) (tm.getD 2 .junk) (tm.getD 6 .junk) (tm.getD 7 .junk) s K) [t0, t1, t2, V.junk, V.junk, V.junk, t6, t6, V.junk, V.junk, V.junk, V.junk, V.junk, V.junk, V.junk, V.junk, V.junk, V.junk, V.junk, V.junk, V.junk, V.junk, V.junk, V.junk, V.junk, V.junk, V.junk, V.junk, V.junk, V.junk, V.junk, V.junk, V.junk, V.junk, V.junk, V.junk, V.junk, V.junk, V.junk, V.junk, V.junk, V.junk, V.junk, V.junk, V.junk, V.junk, V.junk, V.junk, V.junk] s (fun e tm s => exX e (fun j1 => (exB (j1 == 2)
 (optK (binV .add (some (Kd.int .i64)) true (tm.getD 6 .junk) (V.int .i64 1)) s fun t14 s => (K .nrm [(tm.getD 0 .junk), (tm.getD 1 .junk), (tm.getD 2 .junk), V.junk, V.junk, V.junk, t14, V.junk, V.junk, V.junk, V.junk, V.junk, V.junk, V.junk, V.junk, V.junk, V.junk, V.junk, V.junk, V.junk, V.junk, V.junk, V.junk, V.junk, V.junk, V.junk, V.junk, V.junk, V.junk, V.junk, V.junk, V.junk, V.junk, V.junk, V.junk, V.junk, V.junk, V.junk, V.junk, V.junk, V.junk, V.junk, V.junk, V.junk, V.junk, V.junk, V.junk, V.junk, V.junk] s))
 (exB (j1 == 1)
 (optK (binV .add (some (Kd.int .i64)) true (tm.getD 6 .junk) (V.int .i64 1)) s fun t14 s => (K .nrm [(tm.getD 0 .junk), (tm.getD 1 .junk), (tm.getD 2 .junk), V.junk, V.junk, V.junk, t14, V.junk, V.junk, V.junk, V.junk, V.junk, V.junk, V.junk, V.junk, V.junk, V.junk, V.junk, V.junk, V.junk, V.junk, V.junk, V.junk, V.junk, V.junk, V.junk, V.junk, V.junk, V.junk, V.junk, V.junk, V.junk, V.junk, V.junk, V.junk, V.junk, V.junk, V.junk, V.junk, V.junk, V.junk, V.junk, V.junk, V.junk, V.junk, V.junk, V.junk, V.junk, V.junk] s))
 (K (.exit j1) [V.junk, V.junk, V.junk, V.junk, V.junk, V.junk, V.junk, V.junk, V.junk, V.junk, V.junk, V.junk, V.junk, V.junk, V.junk, V.junk, V.junk, V.junk, V.junk, V.junk, V.junk, V.junk, V.junk, V.junk, V.junk, V.junk, V.junk, V.junk, V.junk, V.junk, V.junk, V.junk, V.junk, V.junk, V.junk, V.junk, V.junk, V.junk, V.junk, V.junk, V.junk, V.junk, V.junk, V.junk, V.junk, V.junk, V.junk, V.junk, V.junk] s)))) (K .ret [V.junk, V.junk, V.junk, V.junk, V.junk, V.junk, V.junk, V.junk, V.junk, V.junk, V.junk, V.junk, V.junk, V.junk, V.junk, V.junk, V.junk, V.junk, V.junk, V.junk, V.junk, V.junk, V.junk, V.junk, V.junk, V.junk, V.junk, V.junk, V.junk, V.junk, V.junk, V.junk, V.junk, V.junk, V.junk, V.junk, V.junk, V.junk, V.junk, V.junk, V.junk, V.junk, V.junk, V.junk, V.junk, V.junk, V.junk, V.junk, V.junk] s)))
 (K (.exit 0) [V.junk, V.junk, V.junk, V.junk, V.junk, V.junk, V.junk, V.junk, V.junk, V.junk, V.junk, V.junk, V.junk, V.junk, V.junk, V.junk, V.junk, V.junk, V.junk, V.junk, V.junk, V.junk, V.junk, V.junk, V.junk, V.junk, V.junk, V.junk, V.junk, V.junk, V.junk, V.junk, V.junk, V.junk, V.junk, V.junk, V.junk, V.junk, V.junk, V.junk, V.junk, V.junk, V.junk, V.junk, V.junk, V.junk, V.junk, V.junk, V.junk] s)))
noncomputable def slices_insertionSortOrderedI_q (f161 : V → V → M) (t0 t1 t2 : V) : M := fun s K =>
 (optK (binV .add (some (Kd.int .i64)) true t1 (V.int .i64 1)) s fun t9 s => (loopN LOOPS (fun tm s K => slices_insertionSortOrderedI_L1 f161 (tm.getD 0 .junk) (tm.getD 1 .junk) (tm.getD 2 .junk) (tm.getD 6 .junk) s K) [t0, t1, t2, V.junk, V.junk, V.junk, t9, V.junk, V.junk, V.junk, V.junk, V.junk, V.junk, V.junk, V.junk, V.junk, V.junk, V.junk, V.junk, V.junk, V.junk, V.junk, V.junk, V.junk, V.junk, V.junk, V.junk, V.junk, V.junk, V.junk, V.junk, V.junk, V.junk, V.junk, V.junk, V.junk, V.junk, V.junk, V.junk, V.junk, V.junk, V.junk, V.junk, V.junk, V.junk, V.junk, V.junk, V.junk, V.junk] s (fun e tm s => exX e (fun j1 => (exB (j1 == 0)
 (K (V.tuple []) s)
 False)) (K (V.tuple []) s))))
noncomputable def slices_insertionSortOrderedI : V → V → V → M := slices_insertionSortOrderedI_q cmp_LessI
theorem slices_insertionSortOrderedI_qe (f161 : V → V → M) (t0 t1 t2 : V) : slices_insertionSortOrderedI_q f161 t0 t1 t2 = evF (E155 f161) Tryz.f155 [t0, t1, t2] := by kernel_rfl
theorem slices_insertionSortOrderedI_s : SP Tryz.prog 155 (F3 slices_insertionSortOrderedI) := mk3 (mkEnv tab (L := L155 cmp_LessI) ⟨cmp_LessI_s, trivial⟩) Tryz.func155 (by kernel_rfl) (slices_insertionSortOrderedI_qe cmp_LessI)

/-! 142: slices.pdqsortOrdered[int] -/
abbrev N_slices_pdqsortOrderedI : FuncId := 142
def L142 (f155 : V → V → V → M) (f161 : V → V → M) : List (Nat × (List V → M)) := [(155, F3 f155), (161, F2 f161)]
def E142 (f155 : V → V → V → M) (f161 : V → V → M) : Env := ⟨ty, tabC (L142 f155 f161), meth, tabL [(2, [0, 1, 2, 3, 8, 9])], tabL [(2, [])]⟩
noncomputable def slices_pdqsortOrderedI_L1 (f155 : V → V → V → M) (f161 : V → V → M) (t0 t1 t2 t3 t8 t9 : V) : AS → KX → Prop := fun s K =>
 (optK (binV .sub (some (Kd.int .i64)) false t2 t1) s fun t21 s => (optK (binV .leq (some (Kd.int .i64)) true t21 (V.int .i64 12)) s fun t23 s => (condV t23
 ((f155 t0 t1 t2) s fun t27 s =>
 (K .ret [V.junk, V.junk, V.junk, V.junk, V.junk, V.junk, V.junk, V.junk, V.junk, V.junk, V.junk, V.junk, V.junk, V.junk, V.junk, V.junk, V.junk, V.junk, V.junk, V.junk, V.junk, V.junk, V.junk, V.junk, V.junk, V.junk, V.junk, V.junk, V.junk, V.junk, V.junk, V.junk, V.junk, V.junk, V.junk, V.junk, V.junk, V.junk, V.junk, V.junk, V.junk, V.junk, V.junk, V.junk, V.junk, V.junk, V.junk, V.junk, V.junk, V.junk, V.junk, V.junk, V.junk, V.junk, V.junk, V.junk, V.junk, V.junk, V.junk, V.junk, V.junk, V.junk, V.junk, V.junk, V.junk, V.junk, V.junk, V.junk, V.junk, V.junk, V.junk, V.junk, V.junk, V.junk, V.junk, V.junk, V.junk, V.junk, V.junk, V.junk, V.junk, V.junk, V.junk, V.junk, V.junk, V.junk, V.junk, V.junk, V.junk, V.junk, V.junk, V.junk, V.junk, V.junk, V.junk, V.junk, V.junk, V.junk, V.junk, V.junk, V.junk, V.junk, V.junk, V.junk, V.junk, V.junk, V.junk, V.junk, V.junk, V.junk, V.junk, V.junk, V.junk, V.junk, V.junk, V.junk, V.junk, V.junk, V.junk, V.junk, V.junk, V.junk, V.junk, V.junk, V.junk, V.junk, V.junk, V.junk, V.junk, V.junk, V.junk, V.junk, V.junk, V.junk] s))
 (optK (binV .eql (some (Kd.int .i64)) true t3 (V.int .i64 0)) s fun t29 s => (condV t29
 False
 (optK (unV .not t8) s fun t35 s => (condV t35
 False
 False)))))))
noncomputable def slices_pdqsortOrderedI_q (f155 : V → V → V → M) (f161 : V → V → M) (t0 t1 t2 t3 : V) : M := fun s K =>
 (loopN LOOPS (fun tm s K => slices_pdqsortOrderedI_L1 f155 f161 (tm.getD 0 .junk) (tm.getD 1 .junk) (tm.getD 2 .junk) (tm.getD 3 .junk) (tm.getD 8 .junk) (tm.getD 9 .junk) s K) [t0, t1, t2, t3, V.junk, V.junk, V.junk, V.junk, (V.bool true), (V.bool true), V.junk, V.junk, V.junk, V.junk, V.junk, V.junk, V.junk, V.junk, V.junk, V.junk, V.junk, V.junk, V.junk, V.junk, V.junk, V.junk, V.junk, V.junk, V.junk, V.junk, V.junk, V.junk, V.junk, V.junk, V.junk, V.junk, V.junk, V.junk, V.junk, V.junk, V.junk, V.junk, V.junk, V.junk, V.junk, V.junk, V.junk, V.junk, V.junk, V.junk, V.junk, V.junk, V.junk, V.junk, V.junk, V.junk, V.junk, V.junk, V.junk, V.junk, V.junk, V.junk, V.junk, V.junk, V.junk, V.junk, V.junk, V.junk, V.junk, V.junk, V.junk, V.junk, V.junk, V.junk, V.junk, V.junk, V.junk, V.junk, V.junk, V.junk, V.junk, V.junk, V.junk, V.junk, V.junk, V.junk, V.junk, V.junk, V.junk, V.junk, V.junk, V.junk, V.junk, V.junk, V.junk, V.junk, V.junk, V.junk, V.junk, V.junk, V.junk, V.junk, V.junk, V.junk, V.junk, V.junk, V.junk, V.junk, V.junk, V.junk, V.junk, V.junk, V.junk, V.junk, V.junk, V.junk, V.junk, V.junk, V.junk, V.junk, V.junk, V.junk, V.junk, V.junk, V.junk, V.junk, V.junk, V.junk, V.junk, V.junk, V.junk, V.junk, V.junk, V.junk] s (fun e tm s => exX e (fun j1 => (exB (j1 == 0)
 (K (V.tuple []) s)
 False)) (K (V.tuple []) s)))
noncomputable def slices_pdqsortOrderedI : V → V → V → V → M := slices_pdqsortOrderedI_q slices_insertionSortOrderedI cmp_LessI
theorem slices_pdqsortOrderedI_qe (f155 : V → V → V → M) (f161 : V → V → M) (t0 t1 t2 t3 : V) : slices_pdqsortOrderedI_q f155 f161 t0 t1 t2 t3 = evF (E142 f155 f161) Tryz.f142 [t0, t1, t2, t3] := by kernel_rfl
theorem slices_pdqsortOrderedI_s : SP Tryz.prog 142 (F4 slices_pdqsortOrderedI) := mk4 (mkEnv tab (L := L142 slices_insertionSortOrderedI cmp_LessI) ⟨slices_insertionSortOrderedI_s, cmp_LessI_s, trivial⟩) Tryz.func142 (by kernel_rfl) (slices_pdqsortOrderedI_qe slices_insertionSortOrderedI cmp_LessI)

/-! 116: slices.Sort[[]int,int] -/
abbrev N_slices_SortI : FuncId := 116
def L116 (f143 : V → M) (f142 : V → V → V → V → M) : List (Nat × (List V → M)) := [(143, F1 f143), (142, F4 f142)]
def E116 (f143 : V → M) (f142 : V → V → V → V → M) : Env := ⟨ty, tabC (L116 f143 f142), meth, tabL [], tabL []⟩
noncomputable def slices_SortI_q (f143 : V → M) (f142 : V → V → V → V → M) (t0 : V) : M := fun s K =>
 (optK (lenV (some (Kd.slice 3)) t0) s fun t4 s => ((cvt (Kd.int .i64) (Kd.int .u64) t4) s fun t8 s =>
 ((f143 t8) s fun t9 s =>
 ((f142 t0 (V.int .i64 0) t4 t9) s fun t10 s =>
 (K (V.tuple []) s)))))
noncomputable def slices_SortI : V → M := slices_SortI_q math_bits_Len slices_pdqsortOrderedI
theorem slices_SortI_qe (f143 : V → M) (f142 : V → V → V → V → M) (t0 : V) : slices_SortI_q f143 f142 t0 = evF (E116 f143 f142) Tryz.f116 [t0] := by kernel_rfl
theorem slices_SortI_s : SP Tryz.prog 116 (F1 slices_SortI) := mk1 (mkEnv tab (L := L116 math_bits_Len slices_pdqsortOrderedI) ⟨math_bits_Len_s, slices_pdqsortOrderedI_s, trivial⟩) Tryz.func116 (by kernel_rfl) (slices_SortI_qe math_bits_Len slices_pdqsortOrderedI)

/-! 80: slices.Sorted[int] -/
abbrev N_slices_SortedI : FuncId := 80
def L80 (f115 : V → M) (f116 : V → M) : List (Nat × (List V → M)) := [(115, F1 f115), (116, F1 f116)]
def E80 (f115 : V → M) (f116 : V → M) : Env := ⟨ty, tabC (L80 f115 f116), meth, tabL [], tabL []⟩
noncomputable def slices_SortedI_q (f115 : V → M) (f116 : V → M) (t0 : V) : M := fun s K =>
 ((f115 t0) s fun t5 s =>
 ((f116 t5) s fun t7 s =>
 (K t5 s)))
noncomputable def slices_SortedI : V → M := slices_SortedI_q slices_CollectI slices_SortI
theorem slices_SortedI_qe (f115 : V → M) (f116 : V → M) (t0 : V) : slices_SortedI_q f115 f116 t0 = evF (E80 f115 f116) Tryz.f80 [t0] := by kernel_rfl
theorem slices_SortedI_s : SP Tryz.prog 80 (F1 slices_SortedI) := mk1 (mkEnv tab (L := L80 slices_CollectI slices_SortI) ⟨slices_CollectI_s, slices_SortI_s, trivial⟩) Tryz.func80 (by kernel_rfl) (slices_SortedI_qe slices_CollectI slices_SortI)

/-! 83: slices.Compact[[]int,int] -/
abbrev N_slices_CompactI : FuncId := 83
def L83 : List (Nat × (List V → M)) := []
def E83 : Env := ⟨ty, tabC (L83), meth, tabL [(4, [0, 3]), (9, [0, 3, 4, 5])], tabL [(4, [0, 2]), (9, [0, 3])]⟩
noncomputable def slices_CompactI_L2 (t0 t3 t4 t5 : V) : AS → KX → Prop := fun s K =>
 (optK (lenV (some (Kd.slice 3)) t4) s fun t31 s => (optK (binV .lss (some (Kd.int .i64)) false t5 t31) s fun t32 s => (condV t32
 (optK (elemPtr none 1 t4 t5) s fun t37 s => ((ld1 t37) s fun t38 s3 =>
 (optK (binV .sub (some (Kd.int .i64)) true t5 (V.int .i64 1)) s3 fun t41 s3 => (optK (elemPtr none 1 t4 t41) s3 fun t42 s3 => ((ld1 t42) s3 fun t43 s4 =>
 (optK (binV .neq (some (Kd.int .i64)) false t38 t43) s4 fun t44 s4 => (condV t44
 (optK (elemPtr none 1 t4 t5) s4 fun t49 s4 => ((ld1 t49) s4 fun t50 s4 =>
 (optK (elemPtr none 1 t0 t3) s4 fun t51 s4 => ((st 1 t51 t50) s4 fun _ s4 =>
 (optK (binV .add (some (Kd.int .i64)) true t3 (V.int .i64 1)) s4 fun t53 s4 => (optK (binV .add (some (Kd.int .i64)) true t5 (V.int .i64 1)) s4 fun t34 s4 => (K .nrm [t0, V.junk, V.junk, t53, t4, t34, V.junk, V.junk, V.junk, V.junk, V.junk, V.junk, V.junk, V.junk, V.junk, V.junk, V.junk, V.junk, V.junk, V.junk, V.junk, V.junk, V.junk, V.junk, V.junk, V.junk, V.junk, V.junk, V.junk, V.junk, V.junk, V.junk, V.junk, V.junk, V.junk, V.junk, V.junk, V.junk, V.junk, V.junk, V.junk, V.junk, V.junk, V.junk, V.junk, V.junk, V.junk, V.junk, V.junk, V.junk, V.junk, V.junk, V.junk, V.junk, V.junk, V.junk, V.junk, V.junk, V.junk, V.junk, V.junk] s4)))))))
 (optK (binV .add (some (Kd.int .i64)) true t5 (V.int .i64 1)) s4 fun t34 s4 => (K .nrm [t0, V.junk, V.junk, t3, t4, t34, V.junk, V.junk, V.junk, V.junk, V.junk, V.junk, V.junk, V.junk, V.junk, V.junk, V.junk, V.junk, V.junk, V.junk, V.junk, V.junk, V.junk, V.junk, V.junk, V.junk, V.junk, V.junk, V.junk, V.junk, V.junk, V.junk, V.junk, V.junk, V.junk, V.junk, V.junk, V.junk, V.junk, V.junk, V.junk, V.junk, V.junk, V.junk, V.junk, V.junk, V.junk, V.junk, V.junk, V.junk, V.junk, V.junk, V.junk, V.junk, V.junk, V.junk, V.junk, V.junk, V.junk, V.junk, V.junk] s4)))))))))
 (K (.exit 2) [t0, V.junk, V.junk, t3, V.junk, V.junk, V.junk, V.junk, V.junk, V.junk, V.junk, V.junk, V.junk, V.junk, V.junk, V.junk, V.junk, V.junk, V.junk, V.junk, V.junk, V.junk, V.junk, V.junk, V.junk, V.junk, V.junk, V.junk, V.junk, V.junk, V.junk, V.junk, V.junk, V.junk, V.junk, V.junk, V.junk, V.junk, V.junk, V.junk, V.junk, V.junk, V.junk, V.junk, V.junk, V.junk, V.junk, V.junk, V.junk, V.junk, V.junk, V.junk, V.junk, V.junk, V.junk, V.junk, V.junk, V.junk, V.junk, V.junk, V.junk] s))))
noncomputable def slices_CompactI_L1 (t0 t3 : V) : AS → KX → Prop := fun s K =>
 (optK (lenV (some (Kd.slice 3)) t0) s fun t12 s => (optK (binV .lss (some (Kd.int .i64)) false t3 t12) s fun t13 s => (condV t13
 (optK (elemPtr none 1 t0 t3) s fun t18 s => ((ld1 t18) s fun t19 s1 =>
 (optK (binV .sub (some (Kd.int .i64)) true t3 (V.int .i64 1)) s1 fun t22 s1 => (optK (elemPtr none 1 t0 t22) s1 fun t23 s1 => ((ld1 t23) s1 fun t24 s2 =>
 (optK (binV .eql (some (Kd.int .i64)) false t19 t24) s2 fun t25 s2 => (condV t25
 (optK (sliceSl 1 t0 (some t3) none none) s2 fun t28 s2 => (loopN LOOPS (fun tm s K => slices_CompactI_L2 (tm.getD 0 .junk) (tm.getD 3 .junk) (tm.getD 4 .junk) (tm.getD 5 .junk) s K) [t0, V.junk, V.junk, t3, t28, (V.int .i64 1), V.junk, V.junk, V.junk, V.junk, V.junk, V.junk, V.junk, V.junk, V.junk, V.junk, V.junk, V.junk, V.junk, V.junk, V.junk, V.junk, V.junk, V.junk, V.junk, V.junk, V.junk, V.junk, V.junk, V.junk, V.junk, V.junk, V.junk, V.junk, V.junk, V.junk, V.junk, V.junk, V.junk, V.junk, V.junk, V.junk, V.junk, V.junk, V.junk, V.junk, V.junk, V.junk, V.junk, V.junk, V.junk, V.junk, V.junk, V.junk, V.junk, V.junk, V.junk, V.junk, V.junk, V.junk, V.junk] s2 (fun e tm s => exX e (fun j1 => (exB (j1 == 2)
 (optK (sliceSl 1 (tm.getD 0 .junk) (some (tm.getD 3 .junk)) none none) s fun t56 s => ((clr 1 [(V.int .i64 0)] t56) s fun _ s =>
 (optK (sliceSl 1 (tm.getD 0 .junk) none (some (tm.getD 3 .junk)) none) s fun t59 s => (K .ret [(tm.getD 0 .junk), V.junk, t59, V.junk, V.junk, V.junk, V.junk, V.junk, V.junk, V.junk, V.junk, V.junk, V.junk, V.junk, V.junk, V.junk, V.junk, V.junk, V.junk, V.junk, V.junk, V.junk, V.junk, V.junk, V.junk, V.junk, V.junk, V.junk, V.junk, V.junk, V.junk, V.junk, V.junk, V.junk, V.junk, V.junk, V.junk, V.junk, V.junk, V.junk, V.junk, V.junk, V.junk, V.junk, V.junk, V.junk, V.junk, V.junk, V.junk, V.junk, V.junk, V.junk, V.junk, V.junk, V.junk, V.junk, V.junk, V.junk, V.junk, V.junk, V.junk] s))))
 (exB (j1 == 1)
 (optK (binV .add (some (Kd.int .i64)) true (tm.getD 3 .junk) (V.int .i64 1)) s fun t15 s => (K .nrm [(tm.getD 0 .junk), V.junk, V.junk, t15, V.junk, V.junk, V.junk, V.junk, V.junk, V.junk, V.junk, V.junk, V.junk, V.junk, V.junk, V.junk, V.junk, V.junk, V.junk, V.junk, V.junk, V.junk, V.junk, V.junk, V.junk, V.junk, V.junk, V.junk, V.junk, V.junk, V.junk, V.junk, V.junk, V.junk, V.junk, V.junk, V.junk, V.junk, V.junk, V.junk, V.junk, V.junk, V.junk, V.junk, V.junk, V.junk, V.junk, V.junk, V.junk, V.junk, V.junk, V.junk, V.junk, V.junk, V.junk, V.junk, V.junk, V.junk, V.junk, V.junk, V.junk] s))
 (K (.exit j1) [(tm.getD 0 .junk), V.junk, V.junk, V.junk, V.junk, V.junk, V.junk, V.junk, V.junk, V.junk, V.junk, V.junk, V.junk, V.junk, V.junk, V.junk, V.junk, V.junk, V.junk, V.junk, V.junk, V.junk, V.junk, V.junk, V.junk, V.junk, V.junk, V.junk, V.junk, V.junk, V.junk, V.junk, V.junk, V.junk, V.junk, V.junk, V.junk, V.junk, V.junk, V.junk, V.junk, V.junk, V.junk, V.junk, V.junk, V.junk, V.junk, V.junk, V.junk, V.junk, V.junk, V.junk, V.junk, V.junk, V.junk, V.junk, V.junk, V.junk, V.junk, V.junk, V.junk] s)))) (K .ret [(tm.getD 0 .junk), V.junk, V.junk, V.junk, V.junk, V.junk, V.junk, V.junk, V.junk, V.junk, V.junk, V.junk, V.junk, V.junk, V.junk, V.junk, V.junk, V.junk, V.junk, V.junk, V.junk, V.junk, V.junk, V.junk, V.junk, V.junk, V.junk, V.junk, V.junk, V.junk, V.junk, V.junk, V.junk, V.junk, V.junk, V.junk, V.junk, V.junk, V.junk, V.junk, V.junk, V.junk, V.junk, V.junk, V.junk, V.junk, V.junk, V.junk, V.junk, V.junk, V.junk, V.junk, V.junk, V.junk, V.junk, V.junk, V.junk, V.junk, V.junk, V.junk, V.junk] s))))
 (optK (binV .add (some (Kd.int .i64)) true t3 (V.int .i64 1)) s2 fun t15 s2 => (K .nrm [t0, V.junk, V.junk, t15, V.junk, V.junk, V.junk, V.junk, V.junk, V.junk, V.junk, V.junk, V.junk, V.junk, V.junk, V.junk, V.junk, V.junk, V.junk, V.junk, V.junk, V.junk, V.junk, V.junk, V.junk, V.junk, V.junk, V.junk, V.junk, V.junk, V.junk, V.junk, V.junk, V.junk, V.junk, V.junk, V.junk, V.junk, V.junk, V.junk, V.junk, V.junk, V.junk, V.junk, V.junk, V.junk, V.junk, V.junk, V.junk, V.junk, V.junk, V.junk, V.junk, V.junk, V.junk, V.junk, V.junk, V.junk, V.junk, V.junk, V.junk] s2)))))))))
 (K (.exit 0) [t0, V.junk, V.junk, V.junk, V.junk, V.junk, V.junk, V.junk, V.junk, V.junk, V.junk, V.junk, V.junk, V.junk, V.junk, V.junk, V.junk, V.junk, V.junk, V.junk, V.junk, V.junk, V.junk, V.junk, V.junk, V.junk, V.junk, V.junk, V.junk, V.junk, V.junk, V.junk, V.junk, V.junk, V.junk, V.junk, V.junk, V.junk, V.junk, V.junk, V.junk, V.junk, V.junk, V.junk, V.junk, V.junk, V.junk, V.junk, V.junk, V.junk, V.junk, V.junk, V.junk, V.junk, V.junk, V.junk, V.junk, V.junk, V.junk, V.junk, V.junk] s))))
noncomputable def slices_CompactI_q (t0 : V) : M := fun s K =>
 (optK (lenV (some (Kd.slice 3)) t0) s fun t7 s => (optK (binV .lss (some (Kd.int .i64)) true t7 (V.int .i64 2)) s fun t8 s => (condV t8
 (K t0 s)
 (loopN LOOPS (fun tm s K => slices_CompactI_L1 (tm.getD 0 .junk) (tm.getD 3 .junk) s K) [t0, V.junk, V.junk, (V.int .i64 1), V.junk, V.junk, V.junk, V.junk, V.junk, V.junk, V.junk, V.junk, V.junk, V.junk, V.junk, V.junk, V.junk, V.junk, V.junk, V.junk, V.junk, V.junk, V.junk, V.junk, V.junk, V.junk, V.junk, V.junk, V.junk, V.junk, V.junk, V.junk, V.junk, V.junk, V.junk, V.junk, V.junk, V.junk, V.junk, V.junk, V.junk, V.junk, V.junk, V.junk, V.junk, V.junk, V.junk, V.junk, V.junk, V.junk, V.junk, V.junk, V.junk, V.junk, V.junk, V.junk, V.junk, V.junk, V.junk, V.junk, V.junk] s (fun e tm s => exX e (fun j1 => (exB (j1 == 0)
 (K (tm.getD 0 .junk) s)
 False)) (K (tm.getD 2 .junk) s))))))
noncomputable def slices_CompactI : V → M := slices_CompactI_q
theorem slices_CompactI_qe (t0 : V) : slices_CompactI_q t0 = evF (E83) Tryz.f83 [t0] := by kernel_rfl
theorem slices_CompactI_s : SP Tryz.prog 83 (F1 slices_CompactI) := mk1 (mkEnv tab (L := L83) trivial) Tryz.func83 (by kernel_rfl) (slices_CompactI_qe)

/-! 82: sealchain/pack.arg -/
abbrev N_pack_arg : FuncId := 82
def L82 : List (Nat × (List V → M)) := []
def E82 : Env := ⟨ty, tabC (L82), meth, tabL [], tabL []⟩
noncomputable def pack_arg_q (t0 : V) : M := fun s K =>
 (optK (unV .not t0) s fun t4 s => (condV t4
 (K (V.int .i64 2) s)
 (K (V.int .i64 0) s)))
noncomputable def pack_arg : V → M := pack_arg_q
theorem pack_arg_qe (t0 : V) : pack_arg_q t0 = evF (E82) Tryz.f82 [t0] := by kernel_rfl
theorem pack_arg_s : SP Tryz.prog 82 (F1 pack_arg) := mk1 (mkEnv tab (L := L82) trivial) Tryz.func82 (by kernel_rfl) (pack_arg_qe)

/-! 42: sealchain/pack.CheckConf -/
abbrev N_pack_CheckConf : FuncId := 42
def L42 (f77 : V → V → M) (f78 : V → M) (f81 : V → M) (f80 : V → M) (f83 : V → M) (f84 : V → V → V → M) (f82 : V → M) : List (Nat × (List V → M)) := [(77, F2 f77), (78, F1 f78), (81, F1 f81), (80, F1 f80), (83, F1 f83), (84, F3 f84), (82, F1 f82)]
def E42 (f77 : V → V → M) (f78 : V → M) (f81 : V → M) (f80 : V → M) (f83 : V → M) (f84 : V → V → V → M) (f82 : V → M) : Env := ⟨ty, tabC (L42 f77 f78 f81 f80 f83 f84 f82), meth, tabL [], tabL []⟩
noncomputable def pack_CheckConf_q (f77 : V → V → M) (f78 : V → M) (f81 : V → M) (f80 : V → M) (f83 : V → M) (f84 : V → V → V → M) (f82 : V → M) (t0 : V) : M := fun s K =>
 ((boxV t0) s fun t1 s =>
 (optK (fp 2 t1) s fun t5 s => ((ld1 t5) s fun t6 s =>
 ((f77 t6 (V.func (.func 78) [] [])) s fun t7 s =>
 (optK (fp 2 t1) s fun t8 s => ((ld1 t8) s fun t9 s =>
 ((f81 t9) s fun t10 s =>
 ((f80 t10) s fun t11 s =>
 (optK (unV .not t7) s fun t13 s => (grd t13
 ((f83 t11) s fun t16 s1 =>
 (optK (lenV (some (Kd.slice 3)) t16) s1 fun t17 s1 => (optK (fp 2 t1) s1 fun t18 s1 => ((ld1 t18) s1 fun t19 s2 =>
 (chkB (holds ti35 t18 s t19) (optK (lenV (some (Kd.slice 3)) t19) s2 fun t20 s2 => (optK (binV .eql (some (Kd.int .i64)) false t17 t20) s2 fun t21 s2 => (grd t21
 (optK (fp 0 t1) s2 fun t24 s2 => ((ld1 t24) s2 fun t25 s3 =>
 ((f84 t25 (V.int .i64 0) (V.int .i64 9007199254740991)) s3 fun t26 s4 =>
 (grd t26
 (optK (fp 2 t1) s4 fun t29 s4 => ((ld1 t29) s4 fun t30 s5 =>
 (optK (lenV (some (Kd.slice 3)) t30) s5 fun t31 s5 => ((f84 t31 (V.int .i64 1) (V.int .i64 4)) s5 fun t32 s6 =>
 (grd t32
 (optK (fp 1 t1) s6 fun t35 s6 => ((ld1 t35) s6 fun t36 s7 =>
 (optK (fp 2 t1) s7 fun t37 s7 => ((ld1 t37) s7 fun t38 s8 =>
 (optK (lenV (some (Kd.slice 3)) t38) s8 fun t39 s8 => ((f84 t36 (V.int .i64 1) t39) s8 fun t40 s9 =>
 ((f82 t40) s9 fun t42 s10 =>
 (K t42 s10))))))))
 ((f82 (V.bool false)) s6 fun t42 s11 =>
 (K t42 s11))
 False)))))
 ((f82 (V.bool false)) s4 fun t42 s12 =>
 (K t42 s12))
 False))))
 ((f82 (V.bool false)) s2 fun t42 s13 =>
 (K t42 s13))
 False))))))))
 ((f82 (V.bool false)) s fun t42 s14 =>
 (K t42 s14))
 False))))))))))
noncomputable def pack_CheckConf : V → M := pack_CheckConf_q slices_ContainsFuncI pack_CheckConf_1 slices_ValuesI slices_SortedI slices_CompactI pack_within pack_arg
theorem pack_CheckConf_qe (f77 : V → V → M) (f78 : V → M) (f81 : V → M) (f80 : V → M) (f83 : V → M) (f84 : V → V → V → M) (f82 : V → M) (t0 : V) : pack_CheckConf_q f77 f78 f81 f80 f83 f84 f82 t0 = evF (E42 f77 f78 f81 f80 f83 f84 f82) Tryz.f42 [t0] := by kernel_rfl
theorem pack_CheckConf_s : SP Tryz.prog 42 (F1 pack_CheckConf) := mk1 (mkEnv tab (L := L42 slices_ContainsFuncI pack_CheckConf_1 slices_ValuesI slices_SortedI slices_CompactI pack_within pack_arg) ⟨slices_ContainsFuncI_s, pack_CheckConf_1_s, slices_ValuesI_s, slices_SortedI_s, slices_CompactI_s, pack_within_s, pack_arg_s, trivial⟩) Tryz.func42 (by kernel_rfl) (pack_CheckConf_qe slices_ContainsFuncI pack_CheckConf_1 slices_ValuesI slices_SortedI slices_CompactI pack_within pack_arg)
end Go.Proofs.Vt
