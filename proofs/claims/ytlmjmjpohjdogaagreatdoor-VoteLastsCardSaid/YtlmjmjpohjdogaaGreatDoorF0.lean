/- A part of the proofs of the Vote laws: functions of the program in the evaluator's form, printed by a program of the prover's, each equation checked by the kernel. -/
import Derived.Test.YtlmjmjpohjdogaaGreatDoorSeq
set_option linter.unusedVariables false
set_option linter.unusedSimpArgs false
/- PRINTED by gen.py. -/
set_option maxRecDepth 100000
namespace Go.Proofs.Vt
open Go Go.Rx Go.Proofs
/-! 38: sealchain/disk.always -/
abbrev N_disk_always : FuncId := 38
def L38 : List (Nat × (List V → M)) := []
def E38 : Env := ⟨ty, tabC (L38), meth, tabL [], tabL []⟩
noncomputable def disk_always_q (t0 : V) : M := fun s K =>
 (K (V.bool true) s)
noncomputable def disk_always : V → M := disk_always_q
theorem disk_always_qe (t0 : V) : disk_always_q t0 = evF (E38) Tryz.f38 [t0] := by kernel_rfl
theorem disk_always_s : SP Tryz.prog 38 (F1 disk_always) := mk1 (mkEnv tab (L := L38) trivial) Tryz.func38 (by kernel_rfl) (disk_always_qe)

/-! 9: sealchain/disk.New -/
abbrev N_disk_New : FuncId := 9
def L9 (f38 : V → M) : List (Nat × (List V → M)) := [(38, F1 f38)]
def E9 (f38 : V → M) : Env := ⟨ty, tabC (L9 f38), meth, tabL [], tabL []⟩
noncomputable def disk_New_q (f38 : V → M) : M := fun s K =>
 (optK (aggO (fillV (placeS [(0, 59), (1, 3), (2, 4), (3, 85), (4, 52)] ty) [(V.slice none 0 0 true), (V.int .i64 0), (V.bool false), V.nilFunc, (V.slice none 0 0 true)] [(3, (V.func (.func 38) [] []))])) s fun t1 s => ((boxV t1) s fun t2 s =>
 (K t2 s)))
noncomputable def disk_New : M := disk_New_q disk_always
theorem disk_New_qe (f38 : V → M) : disk_New_q f38 = evF (E9 f38) Tryz.f9 [] := by kernel_rfl
theorem disk_New_s : SP Tryz.prog 9 (F0 disk_New) := mk0 (mkEnv tab (L := L9 disk_always) ⟨disk_always_s, trivial⟩) Tryz.func9 (by kernel_rfl) (disk_New_qe disk_always)

/-! 64: (*sealchain/disk.Disk).none -/
abbrev N_disk_Disk_none : FuncId := 64
def L64 : List (Nat × (List V → M)) := []
def E64 : Env := ⟨ty, tabC (L64), meth, tabL [], tabL []⟩
noncomputable def disk_Disk_none_q (t0 : V) : M := fun s K =>
 (optK (binV .eql (some (Kd.ptr 87)) true t0 (V.ptr none)) s fun t4 s => (grd t4
 (K (V.bool true) s)
 (optK (nilV t0) s fun t7 s => (optK (fp 3 t7) s fun t8 s => ((ld1 t8) s fun t9 s =>
 (optK (binV .eql (some Kd.func) true t9 V.nilFunc) s fun t10 s => (K t10 s)))))
 False))
noncomputable def disk_Disk_none : V → M := disk_Disk_none_q
theorem disk_Disk_none_qe (t0 : V) : disk_Disk_none_q t0 = evF (E64) Tryz.f64 [t0] := by kernel_rfl
theorem disk_Disk_none_s : SP Tryz.prog 64 (F1 disk_Disk_none) := mk1 (mkEnv tab (L := L64) trivial) Tryz.func64 (by kernel_rfl) (disk_Disk_none_qe)

/-! 52: (*sealchain/disk.Disk).live -/
abbrev N_disk_Disk_live : FuncId := 52
def L52 (f64 : V → M) : List (Nat × (List V → M)) := [(64, F1 f64)]
def E52 (f64 : V → M) : Env := ⟨ty, tabC (L52 f64), meth, tabL [], tabL []⟩
noncomputable def disk_Disk_live_q (f64 : V → M) (t0 : V) : M := fun s K =>
 ((f64 t0) s fun t5 s =>
 (condV t5
 (K (V.int .i64 1) s)
 (optK (nilV t0) s fun t8 s => (optK (fp 2 t8) s fun t9 s => ((ld1 t9) s fun t10 s =>
 (condV t10
 (K (V.int .i64 130) s)
 (K (V.int .i64 0) s)))))))
noncomputable def disk_Disk_live : V → M := disk_Disk_live_q disk_Disk_none
theorem disk_Disk_live_qe (f64 : V → M) (t0 : V) : disk_Disk_live_q f64 t0 = evF (E52 f64) Tryz.f52 [t0] := by kernel_rfl
theorem disk_Disk_live_s : SP Tryz.prog 52 (F1 disk_Disk_live) := mk1 (mkEnv tab (L := L52 disk_Disk_none) ⟨disk_Disk_none_s, trivial⟩) Tryz.func52 (by kernel_rfl) (disk_Disk_live_qe disk_Disk_none)

/-! 65: (*sealchain/disk.Disk).Cut -/
abbrev N_disk_Disk_Cut : FuncId := 65
def L65 (f52 : V → M) : List (Nat × (List V → M)) := [(52, F1 f52)]
def E65 (f52 : V → M) : Env := ⟨ty, tabC (L65 f52), meth, tabL [], tabL []⟩
noncomputable def disk_Disk_Cut_q (f52 : V → M) (t0 t1 : V) : M := fun s K =>
 ((f52 t0) s fun t7 s =>
 (optK (binV .neq (some (Kd.int .i64)) true t7 (V.int .i64 0)) s fun t9 s => (condV t9
 (K t7 s)
 (optK (binV .lss (some (Kd.int .i64)) true t1 (V.int .i64 0)) s fun t12 s => (grd t12
 (K (V.int .i64 9) s)
 (optK (nilV t0) s fun t16 s => (optK (fp 0 t16) s fun t17 s => ((ld1 t17) s fun t18 s =>
 (optK (lenV (some (Kd.slice 5)) t18) s fun t19 s => (optK (binV .gtr (some (Kd.int .i64)) false t1 t19) s fun t20 s => (condV t20
 (K (V.int .i64 9) s)
 (optK (nilV t0) s fun t25 s => (optK (fp 0 t25) s fun t26 s => ((ld1 t26) s fun t27 s =>
 (optK (sliceSl 1 t27 none (some t1) none) s fun t29 s => (optK (nilV t0) s fun t31 s => (optK (fp 0 t31) s fun t32 s => ((st 1 t32 t29) s fun _ s =>
 (optK (nilV t0) s fun t33 s => (optK (fp 1 t33) s fun t34 s => ((st 1 t34 t1) s fun _ s =>
 (K (V.int .i64 0) s)))))))))))))))))
 False)))))
noncomputable def disk_Disk_Cut : V → V → M := disk_Disk_Cut_q disk_Disk_live
theorem disk_Disk_Cut_qe (f52 : V → M) (t0 t1 : V) : disk_Disk_Cut_q f52 t0 t1 = evF (E65 f52) Tryz.f65 [t0, t1] := by kernel_rfl
theorem disk_Disk_Cut_s : SP Tryz.prog 65 (F2 disk_Disk_Cut) := mk2 (mkEnv tab (L := L65 disk_Disk_live) ⟨disk_Disk_live_s, trivial⟩) Tryz.func65 (by kernel_rfl) (disk_Disk_Cut_qe disk_Disk_live)

/-! 53: sealchain/disk.copied -/
abbrev N_disk_copied : FuncId := 53
def L53 : List (Nat × (List V → M)) := []
def E53 : Env := ⟨ty, tabC (L53), meth, tabL [], tabL []⟩
noncomputable def disk_copied_q (t0 : V) : M := fun s K =>
 (optK (lenV (some (Kd.slice 5)) t0) s fun t5 s => ((mkSl 1 1 [(V.int .u8 0)] t5 t5) s fun t6 s =>
 ((cpy 1 t6 t0) s fun t9 s =>
 (K t6 s))))
noncomputable def disk_copied : V → M := disk_copied_q
theorem disk_copied_qe (t0 : V) : disk_copied_q t0 = evF (E53) Tryz.f53 [t0] := by kernel_rfl
theorem disk_copied_s : SP Tryz.prog 53 (F1 disk_copied) := mk1 (mkEnv tab (L := L53) trivial) Tryz.func53 (by kernel_rfl) (disk_copied_qe)

/-! 60: (*sealchain/disk.Disk).Read -/
abbrev N_disk_Disk_Read : FuncId := 60
def L60 (f64 : V → M) (f53 : V → M) : List (Nat × (List V → M)) := [(64, F1 f64), (53, F1 f53)]
def E60 (f64 : V → M) (f53 : V → M) : Env := ⟨ty, tabC (L60 f64 f53), meth, tabL [], tabL []⟩
noncomputable def disk_Disk_Read_q (f64 : V → M) (f53 : V → M) (t0 : V) : M := fun s K =>
 ((f64 t0) s fun t4 s =>
 (condV t4
 (K (V.slice none 0 0 true) s)
 (optK (nilV t0) s fun t6 s => (optK (fp 0 t6) s fun t7 s => ((ld1 t7) s fun t8 s =>
 ((f53 t8) s fun t9 s =>
 (K t9 s)))))))
noncomputable def disk_Disk_Read : V → M := disk_Disk_Read_q disk_Disk_none disk_copied
theorem disk_Disk_Read_qe (f64 : V → M) (f53 : V → M) (t0 : V) : disk_Disk_Read_q f64 f53 t0 = evF (E60 f64 f53) Tryz.f60 [t0] := by kernel_rfl
theorem disk_Disk_Read_s : SP Tryz.prog 60 (F1 disk_Disk_Read) := mk1 (mkEnv tab (L := L60 disk_Disk_none disk_copied) ⟨disk_Disk_none_s, disk_copied_s, trivial⟩) Tryz.func60 (by kernel_rfl) (disk_Disk_Read_qe disk_Disk_none disk_copied)

/-! 107: slices.Clone[[]byte,byte] -/
abbrev N_slices_CloneB : FuncId := 107
def L107 : List (Nat × (List V → M)) := []
def E107 : Env := ⟨ty, tabC (L107), meth, tabL [], tabL []⟩
noncomputable def slices_CloneB_q (t0 : V) : M := fun s K =>
 (optK (binV .eql (some (Kd.slice 5)) true t0 (V.slice none 0 0 true)) s fun t4 s => (condV t4
 (K (V.slice none 0 0 true) s)
 ((bsl 1 [(V.int .u8 0)] 0 []) s fun t5 s =>
 ((app 1 1 t5 t0) s fun t7 s =>
 (K t7 s)))))
noncomputable def slices_CloneB : V → M := slices_CloneB_q
theorem slices_CloneB_qe (t0 : V) : slices_CloneB_q t0 = evF (E107) Tryz.f107 [t0] := by kernel_rfl
theorem slices_CloneB_s : SP Tryz.prog 107 (F1 slices_CloneB) := mk1 (mkEnv tab (L := L107) trivial) Tryz.func107 (by kernel_rfl) (slices_CloneB_qe)

/-! 71: sealchain/num.Read -/
abbrev N_num_Read : FuncId := 71
def L71 (f107 : V → M) : List (Nat × (List V → M)) := [(107, F1 f107)]
def E71 (f107 : V → M) : Env := ⟨ty, tabC (L71 f107), meth, tabL [], tabL []⟩
noncomputable def num_Read_q (f107 : V → M) (t0 : V) : M := fun s K =>
 ((f107 t0) s fun t4 s =>
 (optK (aggO (fillV (placeS [(0, 59), (1, 24)] ty) [(V.slice none 0 0 true), (V.int .i64 0)] [(0, t4)])) s fun t5 s => ((boxV t5) s fun t6 s =>
 (K t6 s))))
noncomputable def num_Read : V → M := num_Read_q slices_CloneB
theorem num_Read_qe (f107 : V → M) (t0 : V) : num_Read_q f107 t0 = evF (E71 f107) Tryz.f71 [t0] := by kernel_rfl
theorem num_Read_s : SP Tryz.prog 71 (F1 num_Read) := mk1 (mkEnv tab (L := L71 slices_CloneB) ⟨slices_CloneB_s, trivial⟩) Tryz.func71 (by kernel_rfl) (num_Read_qe slices_CloneB)

/-! 108: (*sealchain/num.Reader).Err -/
abbrev N_num_Reader_Err : FuncId := 108
def L108 : List (Nat × (List V → M)) := []
def E108 : Env := ⟨ty, tabC (L108), meth, tabL [], tabL []⟩
noncomputable def num_Reader_Err_q (t0 : V) : M := fun s K =>
 (optK (binV .eql (some (Kd.ptr 154)) true t0 (V.ptr none)) s fun t4 s => (condV t4
 (K (V.int .i64 0) s)
 (optK (nilV t0) s fun t6 s => (optK (fp 1 t6) s fun t7 s => ((ld1 t7) s fun t8 s =>
 (K t8 s))))))
noncomputable def num_Reader_Err : V → M := num_Reader_Err_q
theorem num_Reader_Err_qe (t0 : V) : num_Reader_Err_q t0 = evF (E108) Tryz.f108 [t0] := by kernel_rfl
theorem num_Reader_Err_s : SP Tryz.prog 108 (F1 num_Reader_Err) := mk1 (mkEnv tab (L := L108) trivial) Tryz.func108 (by kernel_rfl) (num_Reader_Err_qe)

/-! 109: sealchain/num.wide -/
abbrev N_num_wide : FuncId := 109
def L109 : List (Nat × (List V → M)) := []
def E109 : Env := ⟨ty, tabC (L109), meth, tabL [], tabL []⟩
noncomputable def num_wide_q (t0 : V) : M := fun s K =>
 (optK (binV .eql (some (Kd.int .i64)) true t0 (V.int .i64 1)) s fun t4 s => (grd t4
 (K (V.bool true) s)
 (optK (binV .eql (some (Kd.int .i64)) true t0 (V.int .i64 2)) s fun t7 s => (grd t7
 (K (V.bool true) s)
 (optK (binV .eql (some (Kd.int .i64)) true t0 (V.int .i64 4)) s fun t11 s => (grd t11
 (K (V.bool true) s)
 (optK (binV .eql (some (Kd.int .i64)) true t0 (V.int .i64 8)) s fun t15 s => (K t15 s))
 False))
 False))
 False))
noncomputable def num_wide : V → M := num_wide_q
theorem num_wide_qe (t0 : V) : num_wide_q t0 = evF (E109) Tryz.f109 [t0] := by kernel_rfl
theorem num_wide_s : SP Tryz.prog 109 (F1 num_wide) := mk1 (mkEnv tab (L := L109) trivial) Tryz.func109 (by kernel_rfl) (num_wide_qe)

/-! 140: cmp.Or[sealchain/api.Errno] -/
abbrev N_cmp_Or_api_Errno : FuncId := 140
def L140 : List (Nat × (List V → M)) := []
def E140 : Env := ⟨ty, tabC (L140), meth, tabL [(3, [3, 6, 7, 8])], tabL [(3, [2, 3])]⟩
noncomputable def cmp_Or_api_Errno_L1 (t3 t6 t7 t8 : V) : AS → KX → Prop := fun s K =>
 (optK (binV .lss (some (Kd.int .i64)) false t8 t7) s fun t9 s => (condV t9
 (optK (elemPtr none 1 t6 t8) s fun t10 s => ((ld1 t10) s fun t11 s =>
 (optK (binV .neq (some (Kd.int .i64)) false t11 t3) s fun t14 s => (condV t14
 (K .ret [V.junk, V.junk, t11, t3, V.junk, V.junk, V.junk, V.junk, V.junk, V.junk, V.junk, V.junk, V.junk, V.junk, V.junk, V.junk, V.junk, V.junk] s)
 (optK (binV .add (some (Kd.int .i64)) true t8 (V.int .i64 1)) s fun t16 s => (K .nrm [V.junk, V.junk, V.junk, t3, V.junk, V.junk, t6, t7, t16, V.junk, V.junk, V.junk, V.junk, V.junk, V.junk, V.junk, V.junk, V.junk] s))))))
 (K (.exit 0) [V.junk, V.junk, V.junk, t3, V.junk, V.junk, V.junk, V.junk, V.junk, V.junk, V.junk, V.junk, V.junk, V.junk, V.junk, V.junk, V.junk, V.junk] s)))
noncomputable def cmp_Or_api_Errno_q (t0 : V) : M := fun s K =>
 (optK (lenV (some (Kd.slice 24)) t0) s fun t7 s => (loopN LOOPS (fun tm s K => cmp_Or_api_Errno_L1 (tm.getD 3 .junk) (tm.getD 6 .junk) (tm.getD 7 .junk) (tm.getD 8 .junk) s K) [V.junk, V.junk, V.junk, (V.int .i64 0), V.junk, V.junk, t0, t7, (V.int .i64 0), V.junk, V.junk, V.junk, V.junk, V.junk, V.junk, V.junk, V.junk, V.junk] s (fun e tm s => exX e (fun j1 => (exB (j1 == 0)
 (K (tm.getD 3 .junk) s)
 False)) (K (tm.getD 2 .junk) s))))
noncomputable def cmp_Or_api_Errno : V → M := cmp_Or_api_Errno_q
theorem cmp_Or_api_Errno_qe (t0 : V) : cmp_Or_api_Errno_q t0 = evF (E140) Tryz.f140 [t0] := by kernel_rfl
theorem cmp_Or_api_Errno_s : SP Tryz.prog 140 (F1 cmp_Or_api_Errno) := mk1 (mkEnv tab (L := L140) trivial) Tryz.func140 (by kernel_rfl) (cmp_Or_api_Errno_qe)

/-! 110: (*sealchain/num.Reader).fail -/
abbrev N_num_Reader_fail : FuncId := 110
def L110 (f140 : V → M) : List (Nat × (List V → M)) := [(140, F1 f140)]
def E110 (f140 : V → M) : Env := ⟨ty, tabC (L110 f140), meth, tabL [], tabL []⟩
noncomputable def num_Reader_fail_q (f140 : V → M) (t0 t1 : V) : M := fun s K =>
 (optK (binV .neq (some (Kd.ptr 154)) true t0 (V.ptr none)) s fun t6 s => (condV t6
 (optK (nilV t0) s fun t10 s => (optK (fp 1 t10) s fun t11 s => ((ld1 t11) s fun t12 s =>
 ((bsl 1 [(V.int .i64 0)] 2 [(0, t12), (1, t1)]) s fun t14 s =>
 ((f140 t14) s fun t15 s =>
 (optK (nilV t0) s fun t16 s => (optK (fp 0 t16) s fun t17 s => ((st 1 t17 (V.slice none 0 0 true)) s fun _ s =>
 (optK (nilV t0) s fun t18 s => (optK (fp 1 t18) s fun t19 s => ((st 1 t19 t15) s fun _ s =>
 (K (V.int .i64 0) s))))))))))))
 (K (V.int .i64 0) s)))
noncomputable def num_Reader_fail : V → V → M := num_Reader_fail_q cmp_Or_api_Errno
theorem num_Reader_fail_qe (f140 : V → M) (t0 t1 : V) : num_Reader_fail_q f140 t0 t1 = evF (E110 f140) Tryz.f110 [t0, t1] := by kernel_rfl
theorem num_Reader_fail_s : SP Tryz.prog 110 (F2 num_Reader_fail) := mk2 (mkEnv tab (L := L110 cmp_Or_api_Errno) ⟨cmp_Or_api_Errno_s, trivial⟩) Tryz.func110 (by kernel_rfl) (num_Reader_fail_qe cmp_Or_api_Errno)

/-! 113: (*sealchain/num.Reader).Left -/
abbrev N_num_Reader_Left : FuncId := 113
def L113 : List (Nat × (List V → M)) := []
def E113 : Env := ⟨ty, tabC (L113), meth, tabL [], tabL []⟩
noncomputable def num_Reader_Left_q (t0 : V) : M := fun s K =>
 (optK (binV .eql (some (Kd.ptr 154)) true t0 (V.ptr none)) s fun t4 s => (condV t4
 (K (V.int .i64 0) s)
 (optK (nilV t0) s fun t6 s => (optK (fp 0 t6) s fun t7 s => ((ld1 t7) s fun t8 s =>
 (optK (lenV (some (Kd.slice 5)) t8) s fun t9 s => (K t9 s)))))))
noncomputable def num_Reader_Left : V → M := num_Reader_Left_q
theorem num_Reader_Left_qe (t0 : V) : num_Reader_Left_q t0 = evF (E113) Tryz.f113 [t0] := by kernel_rfl
theorem num_Reader_Left_s : SP Tryz.prog 113 (F1 num_Reader_Left) := mk1 (mkEnv tab (L := L113) trivial) Tryz.func113 (by kernel_rfl) (num_Reader_Left_qe)

/-! 111: (*sealchain/num.Reader).Raw -/
abbrev N_num_Reader_Raw : FuncId := 111
def L111 (f108 : V → M) (f110 : V → V → M) (f113 : V → M) (f107 : V → M) : List (Nat × (List V → M)) := [(108, F1 f108), (110, F2 f110), (113, F1 f113), (107, F1 f107)]
def E111 (f108 : V → M) (f110 : V → V → M) (f113 : V → M) (f107 : V → M) : Env := ⟨ty, tabC (L111 f108 f110 f113 f107), meth, tabL [], tabL []⟩
noncomputable def num_Reader_Raw_q (f108 : V → M) (f110 : V → V → M) (f113 : V → M) (f107 : V → M) (t0 t1 : V) : M := fun s K =>
 ((f108 t0) s fun t8 s =>
 (optK (binV .neq (some (Kd.int .i64)) true t8 (V.int .i64 0)) s fun t9 s => (condV t9
 (K (V.slice none 0 0 true) s)
 (optK (binV .lss (some (Kd.int .i64)) true t1 (V.int .i64 0)) s fun t12 s => (condV t12
 ((f110 t0 (V.int .i64 2)) s fun t14 s =>
 (K (V.slice none 0 0 true) s))
 ((f113 t0) s fun t17 s =>
 (optK (binV .lss (some (Kd.int .i64)) false t17 t1) s fun t19 s => (condV t19
 ((f110 t0 (V.int .i64 3)) s fun t21 s =>
 (K (V.slice none 0 0 true) s))
 (optK (binV .eql (some (Kd.ptr 154)) true t0 (V.ptr none)) s fun t24 s => (condV t24
 (K (V.slice none 0 0 true) s)
 (optK (nilV t0) s fun t26 s => (optK (fp 0 t26) s fun t27 s => ((ld1 t27) s fun t28 s =>
 (optK (sliceSl 1 t28 none (some t1) none) s fun t30 s => ((f107 t30) s fun t31 s =>
 (optK (nilV t0) s fun t34 s => (optK (fp 0 t34) s fun t35 s => ((ld1 t35) s fun t36 s =>
 (optK (sliceSl 1 t36 (some t1) none none) s fun t38 s => (optK (nilV t0) s fun t39 s => (optK (fp 0 t39) s fun t40 s => ((st 1 t40 t38) s fun _ s =>
 (K t31 s)))))))))))))))))))))))
noncomputable def num_Reader_Raw : V → V → M := num_Reader_Raw_q num_Reader_Err num_Reader_fail num_Reader_Left slices_CloneB
theorem num_Reader_Raw_qe (f108 : V → M) (f110 : V → V → M) (f113 : V → M) (f107 : V → M) (t0 t1 : V) : num_Reader_Raw_q f108 f110 f113 f107 t0 t1 = evF (E111 f108 f110 f113 f107) Tryz.f111 [t0, t1] := by kernel_rfl
theorem num_Reader_Raw_s : SP Tryz.prog 111 (F2 num_Reader_Raw) := mk2 (mkEnv tab (L := L111 num_Reader_Err num_Reader_fail num_Reader_Left slices_CloneB) ⟨num_Reader_Err_s, num_Reader_fail_s, num_Reader_Left_s, slices_CloneB_s, trivial⟩) Tryz.func111 (by kernel_rfl) (num_Reader_Raw_qe num_Reader_Err num_Reader_fail num_Reader_Left slices_CloneB)

/-! 72: (*sealchain/num.Reader).Num -/
abbrev N_num_Reader_Num : FuncId := 72
def L72 (f108 : V → M) (f109 : V → M) (f110 : V → V → M) (f111 : V → V → M) : List (Nat × (List V → M)) := [(108, F1 f108), (109, F1 f109), (110, F2 f110), (111, F2 f111)]
def E72 (f108 : V → M) (f109 : V → M) (f110 : V → V → M) (f111 : V → V → M) : Env := ⟨ty, tabC (L72 f108 f109 f110 f111), meth, tabL [(5, [0, 5, 20, 21, 22])], tabL [(5, [0, 5])]⟩
noncomputable def num_Reader_Num_L1 (f108 : V → M) (f109 : V → M) (f110 : V → V → M) (f111 : V → V → M) (t0 t5 t20 t21 t22 : V) : AS → KX → Prop := fun s K =>
 (optK (binV .lss (some (Kd.int .i64)) false t22 t21) s fun t23 s => (condV t23
 (optK (elemPtr none 1 t20 t22) s fun t24 s => ((ld1 t24) s fun t25 s =>
 (optK (binV .shl (some (Kd.int .u64)) true t5 (V.int .u64 8)) s fun t27 s => ((cvt (Kd.int .u8) (Kd.int .u64) t25) s fun t29 s =>
 (optK (binV .or (some (Kd.int .u64)) false t27 t29) s fun t30 s => (optK (binV .add (some (Kd.int .i64)) true t22 (V.int .i64 1)) s fun t31 s => (K .nrm [t0, V.junk, V.junk, V.junk, V.junk, t30, V.junk, V.junk, V.junk, V.junk, V.junk, V.junk, V.junk, V.junk, V.junk, V.junk, V.junk, V.junk, V.junk, V.junk, t20, t21, t31, V.junk, V.junk, V.junk, V.junk, V.junk, V.junk, V.junk, V.junk, V.junk, V.junk, V.junk, V.junk, V.junk, V.junk, V.junk] s)))))))
 (K (.exit 0) [t0, V.junk, V.junk, V.junk, V.junk, t5, V.junk, V.junk, V.junk, V.junk, V.junk, V.junk, V.junk, V.junk, V.junk, V.junk, V.junk, V.junk, V.junk, V.junk, V.junk, V.junk, V.junk, V.junk, V.junk, V.junk, V.junk, V.junk, V.junk, V.junk, V.junk, V.junk, V.junk, V.junk, V.junk, V.junk, V.junk, V.junk] s)))
noncomputable def num_Reader_Num_q (f108 : V → M) (f109 : V → M) (f110 : V → V → M) (f111 : V → V → M) (t0 t1 : V) : M := fun s K =>
 ((f108 t0) s fun t9 s =>
 (optK (binV .eql (some (Kd.int .i64)) true t9 (V.int .i64 0)) s fun t10 s => (grd t10
 ((f109 t1) s fun t13 s =>
 (optK (unV .not t13) s fun t14 s => (condV t14
 ((f110 t0 (V.int .i64 2)) s fun t17 s =>
 (K t17 s))
 ((f111 t0 t1) s fun t20 s =>
 (optK (lenV (some (Kd.slice 5)) t20) s fun t21 s => (loopN LOOPS (fun tm s K => num_Reader_Num_L1 f108 f109 f110 f111 (tm.getD 0 .junk) (tm.getD 5 .junk) (tm.getD 20 .junk) (tm.getD 21 .junk) (tm.getD 22 .junk) s K) [t0, V.junk, V.junk, V.junk, V.junk, (V.int .u64 0), V.junk, V.junk, V.junk, V.junk, V.junk, V.junk, V.junk, V.junk, V.junk, V.junk, V.junk, V.junk, V.junk, V.junk, t20, t21, (V.int .i64 0), V.junk, V.junk, V.junk, V.junk, V.junk, V.junk, V.junk, V.junk, V.junk, V.junk, V.junk, V.junk, V.junk, V.junk, V.junk] s (fun e tm s => exX e (fun j1 => (exB (j1 == 0)
 (optK (binV .gtr (some (Kd.int .u64)) true (tm.getD 5 .junk) (V.int .u64 9007199254740991)) s fun t33 s => (condV t33
 ((f110 (tm.getD 0 .junk) (V.int .i64 9)) s fun t35 s =>
 (K t35 s))
 ((cvt (Kd.int .u64) (Kd.int .i64) (tm.getD 5 .junk)) s fun t37 s =>
 (K t37 s))))
 False)) (K V.junk s))))))))
 ((f111 t0 t1) s fun t20 s =>
 (optK (lenV (some (Kd.slice 5)) t20) s fun t21 s => (loopN LOOPS (fun tm s K => num_Reader_Num_L1 f108 f109 f110 f111 (tm.getD 0 .junk) (tm.getD 5 .junk) (tm.getD 20 .junk) (tm.getD 21 .junk) (tm.getD 22 .junk) s K) [t0, V.junk, V.junk, V.junk, V.junk, (V.int .u64 0), V.junk, V.junk, V.junk, V.junk, V.junk, V.junk, V.junk, V.junk, V.junk, V.junk, V.junk, V.junk, V.junk, V.junk, t20, t21, (V.int .i64 0), V.junk, V.junk, V.junk, V.junk, V.junk, V.junk, V.junk, V.junk, V.junk, V.junk, V.junk, V.junk, V.junk, V.junk, V.junk] s (fun e tm s => exX e (fun j1 => (exB (j1 == 0)
 (optK (binV .gtr (some (Kd.int .u64)) true (tm.getD 5 .junk) (V.int .u64 9007199254740991)) s fun t33 s => (condV t33
 ((f110 (tm.getD 0 .junk) (V.int .i64 9)) s fun t35 s =>
 (K t35 s))
 ((cvt (Kd.int .u64) (Kd.int .i64) (tm.getD 5 .junk)) s fun t37 s =>
 (K t37 s))))
 False)) (K V.junk s)))))
 False)))
noncomputable def num_Reader_Num : V → V → M := num_Reader_Num_q num_Reader_Err num_wide num_Reader_fail num_Reader_Raw
theorem num_Reader_Num_qe (f108 : V → M) (f109 : V → M) (f110 : V → V → M) (f111 : V → V → M) (t0 t1 : V) : num_Reader_Num_q f108 f109 f110 f111 t0 t1 = evF (E72 f108 f109 f110 f111) Tryz.f72 [t0, t1] := by kernel_rfl
theorem num_Reader_Num_s : SP Tryz.prog 72 (F2 num_Reader_Num) := mk2 (mkEnv tab (L := L72 num_Reader_Err num_wide num_Reader_fail num_Reader_Raw) ⟨num_Reader_Err_s, num_wide_s, num_Reader_fail_s, num_Reader_Raw_s, trivial⟩) Tryz.func72 (by kernel_rfl) (num_Reader_Num_qe num_Reader_Err num_wide num_Reader_fail num_Reader_Raw)

/-! 152: sealchain/sha.New -/
abbrev N_sha_New : FuncId := 152
def L152 : List (Nat × (List V → M)) := []
def E152 : Env := ⟨ty, tabC (L152), meth, tabL [], tabL []⟩
noncomputable def sha_New_q : M := fun s K =>
 (optK (aggO (fillV (placeS [(0, 146), (8, 59), (9, 3)] ty) [(V.int .u32 0), (V.int .u32 0), (V.int .u32 0), (V.int .u32 0), (V.int .u32 0), (V.int .u32 0), (V.int .u32 0), (V.int .u32 0), (V.slice none 0 0 true), (V.int .i64 0)] [])) s fun t1 s => ((boxV t1) s fun t2 s =>
 (K t2 s)))
noncomputable def sha_New : M := sha_New_q
theorem sha_New_qe : sha_New_q = evF (E152) Tryz.f152 [] := by kernel_rfl
theorem sha_New_s : SP Tryz.prog 152 (F0 sha_New) := mk0 (mkEnv tab (L := L152) trivial) Tryz.func152 (by kernel_rfl) (sha_New_qe)

/-! 179: (*sealchain/sha.Hash).words -/
abbrev N_sha_Hash_words : FuncId := 179
def L179 : List (Nat × (List V → M)) := []
def E179 : Env := ⟨ty, tabC (L179), meth, tabL [], tabL []⟩
noncomputable def sha_Hash_words_q (t0 : V) : M := fun s K =>
 ((newC [(V.int .u32 0), (V.int .u32 0), (V.int .u32 0), (V.int .u32 0), (V.int .u32 0), (V.int .u32 0), (V.int .u32 0), (V.int .u32 0)]) s fun t2 s =>
 (optK (nilV t0) s fun t4 s => (optK (fp 9 t4) s fun t5 s => ((ld1 t5) s fun t6 s =>
 (optK (binV .lss (some (Kd.int .i64)) true t6 (V.int .i64 64)) s fun t7 s => (condV t7
 ((ldA 8 (V.ptr (some ⟨.old 0, 0⟩))) s fun t8 s =>
 ((st 8 t2 t8) s fun _ s =>
 (rfin (rcons (peek ti146 t2 s) (some [])) s K)))
 (optK (nilV t0) s fun t10 s => (optK (fp 0 t10) s fun t11 s => ((ldA 8 t11) s fun t12 s =>
 ((st 8 t2 t12) s fun _ s =>
 (rfin (rcons (peek ti146 t2 s) (some [])) s K)))))))))))
noncomputable def sha_Hash_words : V → M := sha_Hash_words_q
theorem sha_Hash_words_qe (t0 : V) : sha_Hash_words_q t0 = evF (E179) Tryz.f179 [t0] := by kernel_rfl
theorem sha_Hash_words_s : SP Tryz.prog 179 (F1 sha_Hash_words) := mk1 (mkEnv tab (L := L179) trivial) Tryz.func179 (by kernel_rfl) (sha_Hash_words_qe)

/-! 190: sealchain/sha.turn -/
abbrev N_sha_turn : FuncId := 190
def L190 : List (Nat × (List V → M)) := []
def E190 : Env := ⟨ty, tabC (L190), meth, tabL [], tabL []⟩
noncomputable def sha_turn_q (t0 t1 : V) : M := fun s K =>
 (optK (binV .shr (some (Kd.int .u32)) false t0 t1) s fun t7 s => (optK (binV .sub (some (Kd.int .i64)) true (V.int .i64 32) t1) s fun t10 s => (optK (binV .shl (some (Kd.int .u32)) false t0 t10) s fun t11 s => (optK (binV .or (some (Kd.int .u32)) false t7 t11) s fun t12 s => (K t12 s)))))
noncomputable def sha_turn : V → V → M := sha_turn_q
theorem sha_turn_qe (t0 t1 : V) : sha_turn_q t0 t1 = evF (E190) Tryz.f190 [t0, t1] := by kernel_rfl
theorem sha_turn_s : SP Tryz.prog 190 (F2 sha_turn) := mk2 (mkEnv tab (L := L190) trivial) Tryz.func190 (by kernel_rfl) (sha_turn_qe)

/-! 180: sealchain/sha.take -/
abbrev N_sha_take : FuncId := 180
def L180 (f190 : V → V → M) : List (Nat × (List V → M)) := [(190, F2 f190)]
def E180 (f190 : V → V → M) : Env := ⟨ty, tabC (L180 f190), meth, tabL [(3, [1, 2, 4, 5, 23]), (12, [2, 4, 5, 9, 10, 11, 12, 13, 14, 15, 16, 117, 118]), (19, [2, 4, 185, 186])], tabL [(3, [2, 4, 5]), (12, [2, 4, 9, 10, 11, 12, 13, 14, 15, 16]), (19, [2, 4])]⟩
noncomputable def sha_take_L1 (f190 : V → V → M) (t1 t2 t4 t5 t23 : V) : AS → KX → Prop := fun s K =>
 (optK (binV .lss (some (Kd.int .i64)) true t23 (V.int .i64 64)) s fun t24 s => (condV t24
 (optK (binV .lss (some (Kd.int .i64)) true t23 (V.int .i64 16)) s fun t27 s => (condV t27
 (optK (binV .mul (some (Kd.int .i64)) true (V.int .i64 4) t23) s fun t31 s => (optK (elemPtr none 1 t1 t31) s fun t32 s => ((ld1 t32) s fun t33 s1 =>
 ((cvt (Kd.int .u8) (Kd.int .u32) t33) s1 fun t34 s1 =>
 (optK (binV .shl (some (Kd.int .u32)) true t34 (V.int .u64 24)) s1 fun t35 s1 => (optK (binV .mul (some (Kd.int .i64)) true (V.int .i64 4) t23) s1 fun t38 s1 => (optK (binV .add (some (Kd.int .i64)) true t38 (V.int .i64 1)) s1 fun t39 s1 => (optK (elemPtr none 1 t1 t39) s1 fun t40 s1 => ((ld1 t40) s1 fun t41 s2 =>
 ((cvt (Kd.int .u8) (Kd.int .u32) t41) s2 fun t42 s2 =>
 (optK (binV .shl (some (Kd.int .u32)) true t42 (V.int .u64 16)) s2 fun t43 s2 => (optK (binV .or (some (Kd.int .u32)) false t35 t43) s2 fun t44 s2 => (optK (binV .mul (some (Kd.int .i64)) true (V.int .i64 4) t23) s2 fun t47 s2 => (optK (binV .add (some (Kd.int .i64)) true t47 (V.int .i64 2)) s2 fun t48 s2 => (optK (elemPtr none 1 t1 t48) s2 fun t49 s2 => ((ld1 t49) s2 fun t50 s3 =>
 ((cvt (Kd.int .u8) (Kd.int .u32) t50) s3 fun t51 s3 =>
 (optK (binV .shl (some (Kd.int .u32)) true t51 (V.int .u64 8)) s3 fun t52 s3 => (optK (binV .or (some (Kd.int .u32)) false t44 t52) s3 fun t53 s3 => (optK (binV .mul (some (Kd.int .i64)) true (V.int .i64 4) t23) s3 fun t56 s3 => (optK (binV .add (some (Kd.int .i64)) true t56 (V.int .i64 3)) s3 fun t57 s3 => (optK (elemPtr none 1 t1 t57) s3 fun t58 s3 => ((ld1 t58) s3 fun t59 s4 =>
 ((cvt (Kd.int .u8) (Kd.int .u32) t59) s4 fun t60 s4 =>
 (optK (binV .or (some (Kd.int .u32)) false t53 t60) s4 fun t61 s4 => (optK (elemPtr (some 64) 1 t5 t23) s4 fun t62 s4 => ((st 1 t62 t61) s4 fun _ s5 =>
 (optK (binV .add (some (Kd.int .i64)) true t23 (V.int .i64 1)) s5 fun t100 s5 => (K .nrm [V.junk, t1, t2, V.junk, t4, t5, V.junk, V.junk, V.junk, V.junk, V.junk, V.junk, V.junk, V.junk, V.junk, V.junk, V.junk, V.junk, V.junk, V.junk, V.junk, V.junk, V.junk, t100, V.junk, V.junk, V.junk, V.junk, V.junk, V.junk, V.junk, V.junk, V.junk, V.junk, V.junk, V.junk, V.junk, V.junk, V.junk, V.junk, V.junk, V.junk, V.junk, V.junk, V.junk, V.junk, V.junk, V.junk, V.junk, V.junk, V.junk, V.junk, V.junk, V.junk, V.junk, V.junk, V.junk, V.junk, V.junk, V.junk, V.junk, V.junk, V.junk, V.junk, V.junk, V.junk, V.junk, V.junk, V.junk, V.junk, V.junk, V.junk, V.junk, V.junk, V.junk, V.junk, V.junk, V.junk, V.junk, V.junk, V.junk, V.junk, V.junk, V.junk, V.junk, V.junk, V.junk, V.junk, V.junk, V.junk, V.junk, V.junk, V.junk, V.junk, V.junk, V.junk, V.junk, V.junk, V.junk, V.junk, V.junk, V.junk, V.junk, V.junk, V.junk, V.junk, V.junk, V.junk, V.junk, V.junk, V.junk, V.junk, V.junk, V.junk, V.junk, V.junk, V.junk, V.junk, V.junk, V.junk, V.junk, V.junk, V.junk, V.junk, V.junk, V.junk, V.junk, V.junk, V.junk, V.junk, V.junk, V.junk, V.junk, V.junk, V.junk, V.junk, V.junk, V.junk, V.junk, V.junk, V.junk, V.junk, V.junk, V.junk, V.junk, V.junk, V.junk, V.junk, V.junk, V.junk, V.junk, V.junk, V.junk, V.junk, V.junk, V.junk, V.junk, V.junk, V.junk, V.junk, V.junk, V.junk, V.junk, V.junk, V.junk, V.junk, V.junk, V.junk, V.junk, V.junk, V.junk, V.junk, V.junk, V.junk, V.junk, V.junk, V.junk, V.junk, V.junk, V.junk, V.junk, V.junk, V.junk, V.junk, V.junk, V.junk, V.junk, V.junk, V.junk, V.junk, V.junk, V.junk, V.junk, V.junk, V.junk, V.junk, V.junk, V.junk] s5)))))))))))))))))))))))))))))
 (optK (binV .sub (some (Kd.int .i64)) true t23 (V.int .i64 15)) s fun t64 s => (optK (elemPtr (some 64) 1 t5 t64) s fun t65 s => ((ld1 t65) s fun t66 s6 =>
 (optK (binV .sub (some (Kd.int .i64)) true t23 (V.int .i64 2)) s6 fun t68 s6 => (optK (elemPtr (some 64) 1 t5 t68) s6 fun t69 s6 => ((ld1 t69) s6 fun t70 s7 =>
 ((f190 t70 (V.int .i64 17)) s7 fun t73 s8 =>
 ((f190 t70 (V.int .i64 19)) s8 fun t75 s9 =>
 (optK (binV .xor (some (Kd.int .u32)) false t73 t75) s9 fun t76 s9 => (optK (binV .shr (some (Kd.int .u32)) true t70 (V.int .u64 10)) s9 fun t78 s9 => (optK (binV .xor (some (Kd.int .u32)) false t76 t78) s9 fun t79 s9 => (optK (binV .sub (some (Kd.int .i64)) true t23 (V.int .i64 7)) s9 fun t81 s9 => (optK (elemPtr (some 64) 1 t5 t81) s9 fun t82 s9 => ((ld1 t82) s9 fun t83 s10 =>
 (chkB (holds ti145 t82 s8 t83) (chkB (holds ti145 t82 s7 t83) (optK (binV .add (some (Kd.int .u32)) false t79 t83) s10 fun t84 s10 => ((f190 t66 (V.int .i64 7)) s10 fun t86 s11 =>
 (chkB (holds ti145 t82 s11 t83) ((f190 t66 (V.int .i64 18)) s11 fun t88 s12 =>
 (chkB (holds ti145 t82 s12 t83) (optK (binV .xor (some (Kd.int .u32)) false t86 t88) s12 fun t89 s12 => (optK (binV .shr (some (Kd.int .u32)) true t66 (V.int .u64 3)) s12 fun t91 s12 => (optK (binV .xor (some (Kd.int .u32)) false t89 t91) s12 fun t92 s12 => (optK (binV .add (some (Kd.int .u32)) false t84 t92) s12 fun t93 s12 => (optK (binV .sub (some (Kd.int .i64)) true t23 (V.int .i64 16)) s12 fun t95 s12 => (optK (elemPtr (some 64) 1 t5 t95) s12 fun t96 s12 => ((ld1 t96) s12 fun t97 s13 =>
 (chkB (holds ti145 t96 s11 t97) (chkB (holds ti145 t96 s10 t97) (chkB (holds ti145 t96 s8 t97) (chkB (holds ti145 t96 s7 t97) (optK (binV .add (some (Kd.int .u32)) false t93 t97) s13 fun t98 s13 => (optK (elemPtr (some 64) 1 t5 t23) s13 fun t99 s13 => ((st 1 t99 t98) s13 fun _ s14 =>
 (optK (binV .add (some (Kd.int .i64)) true t23 (V.int .i64 1)) s14 fun t100 s14 => (K .nrm [V.junk, t1, t2, V.junk, t4, t5, V.junk, V.junk, V.junk, V.junk, V.junk, V.junk, V.junk, V.junk, V.junk, V.junk, V.junk, V.junk, V.junk, V.junk, V.junk, V.junk, V.junk, t100, V.junk, V.junk, V.junk, V.junk, V.junk, V.junk, V.junk, V.junk, V.junk, V.junk, V.junk, V.junk, V.junk, V.junk, V.junk, V.junk, V.junk, V.junk, V.junk, V.junk, V.junk, V.junk, V.junk, V.junk, V.junk, V.junk, V.junk, V.junk, V.junk, V.junk, V.junk, V.junk, V.junk, V.junk, V.junk, V.junk, V.junk, V.junk, V.junk, V.junk, V.junk, V.junk, V.junk, V.junk, V.junk, V.junk, V.junk, V.junk, V.junk, V.junk, V.junk, V.junk, V.junk, V.junk, V.junk, V.junk, V.junk, V.junk, V.junk, V.junk, V.junk, V.junk, V.junk, V.junk, V.junk, V.junk, V.junk, V.junk, V.junk, V.junk, V.junk, V.junk, V.junk, V.junk, V.junk, V.junk, V.junk, V.junk, V.junk, V.junk, V.junk, V.junk, V.junk, V.junk, V.junk, V.junk, V.junk, V.junk, V.junk, V.junk, V.junk, V.junk, V.junk, V.junk, V.junk, V.junk, V.junk, V.junk, V.junk, V.junk, V.junk, V.junk, V.junk, V.junk, V.junk, V.junk, V.junk, V.junk, V.junk, V.junk, V.junk, V.junk, V.junk, V.junk, V.junk, V.junk, V.junk, V.junk, V.junk, V.junk, V.junk, V.junk, V.junk, V.junk, V.junk, V.junk, V.junk, V.junk, V.junk, V.junk, V.junk, V.junk, V.junk, V.junk, V.junk, V.junk, V.junk, V.junk, V.junk, V.junk, V.junk, V.junk, V.junk, V.junk, V.junk, V.junk, V.junk, V.junk, V.junk, V.junk, V.junk, V.junk, V.junk, V.junk, V.junk, V.junk, V.junk, V.junk, V.junk, V.junk, V.junk, V.junk, V.junk, V.junk, V.junk, V.junk, V.junk, V.junk, V.junk, V.junk, V.junk, V.junk, V.junk, V.junk] s14)))))))))))))))))))))))))))))))))))))))
 (K (.exit 0) [V.junk, V.junk, t2, V.junk, t4, t5, V.junk, V.junk, V.junk, V.junk, V.junk, V.junk, V.junk, V.junk, V.junk, V.junk, V.junk, V.junk, V.junk, V.junk, V.junk, V.junk, V.junk, V.junk, V.junk, V.junk, V.junk, V.junk, V.junk, V.junk, V.junk, V.junk, V.junk, V.junk, V.junk, V.junk, V.junk, V.junk, V.junk, V.junk, V.junk, V.junk, V.junk, V.junk, V.junk, V.junk, V.junk, V.junk, V.junk, V.junk, V.junk, V.junk, V.junk, V.junk, V.junk, V.junk, V.junk, V.junk, V.junk, V.junk, V.junk, V.junk, V.junk, V.junk, V.junk, V.junk, V.junk, V.junk, V.junk, V.junk, V.junk, V.junk, V.junk, V.junk, V.junk, V.junk, V.junk, V.junk, V.junk, V.junk, V.junk, V.junk, V.junk, V.junk, V.junk, V.junk, V.junk, V.junk, V.junk, V.junk, V.junk, V.junk, V.junk, V.junk, V.junk, V.junk, V.junk, V.junk, V.junk, V.junk, V.junk, V.junk, V.junk, V.junk, V.junk, V.junk, V.junk, V.junk, V.junk, V.junk, V.junk, V.junk, V.junk, V.junk, V.junk, V.junk, V.junk, V.junk, V.junk, V.junk, V.junk, V.junk, V.junk, V.junk, V.junk, V.junk, V.junk, V.junk, V.junk, V.junk, V.junk, V.junk, V.junk, V.junk, V.junk, V.junk, V.junk, V.junk, V.junk, V.junk, V.junk, V.junk, V.junk, V.junk, V.junk, V.junk, V.junk, V.junk, V.junk, V.junk, V.junk, V.junk, V.junk, V.junk, V.junk, V.junk, V.junk, V.junk, V.junk, V.junk, V.junk, V.junk, V.junk, V.junk, V.junk, V.junk, V.junk, V.junk, V.junk, V.junk, V.junk, V.junk, V.junk, V.junk, V.junk, V.junk, V.junk, V.junk, V.junk, V.junk, V.junk, V.junk, V.junk, V.junk, V.junk, V.junk, V.junk, V.junk, V.junk, V.junk, V.junk, V.junk, V.junk, V.junk, V.junk, V.junk, V.junk, V.junk] s)))
noncomputable def sha_take_L2 (f190 : V → V → M) (t2 t4 t5 t9 t10 t11 t12 t13 t14 t15 t16 t117 t118 : V) : AS → KX → Prop := fun s K =>
 (optK (binV .lss (some (Kd.int .i64)) true t118 (V.int .i64 64)) s fun t119 s => (condV t119
 (optK (indexV false 64 1 t117 t118) s fun t121 s => ((f190 t13 (V.int .i64 6)) s fun t124 s23 =>
 ((f190 t13 (V.int .i64 11)) s23 fun t126 s24 =>
 (optK (binV .xor (some (Kd.int .u32)) false t124 t126) s24 fun t127 s24 => ((f190 t13 (V.int .i64 25)) s24 fun t129 s25 =>
 (optK (binV .xor (some (Kd.int .u32)) false t127 t129) s25 fun t130 s25 => (optK (binV .add (some (Kd.int .u32)) false t16 t130) s25 fun t131 s25 => (optK (binV .xor (some (Kd.int .u32)) false t14 t15) s25 fun t136 s25 => (optK (binV .and (some (Kd.int .u32)) false t13 t136) s25 fun t137 s25 => (optK (binV .xor (some (Kd.int .u32)) false t15 t137) s25 fun t138 s25 => (optK (binV .add (some (Kd.int .u32)) false t131 t138) s25 fun t139 s25 => (optK (binV .add (some (Kd.int .u32)) false t139 t121) s25 fun t141 s25 => (optK (elemPtr (some 64) 1 t5 t118) s25 fun t143 s25 => ((ld1 t143) s25 fun t144 s26 =>
 (chkB (holds ti145 t143 s24 t144) (chkB (holds ti145 t143 s23 t144) (chkB (holds ti145 t143 s t144) (optK (binV .add (some (Kd.int .u32)) false t141 t144) s26 fun t145 s26 => ((f190 t9 (V.int .i64 2)) s26 fun t147 s26 =>
 ((f190 t9 (V.int .i64 13)) s26 fun t149 s26 =>
 (optK (binV .xor (some (Kd.int .u32)) false t147 t149) s26 fun t150 s26 => ((f190 t9 (V.int .i64 22)) s26 fun t152 s26 =>
 (optK (binV .xor (some (Kd.int .u32)) false t150 t152) s26 fun t153 s26 => (optK (binV .and (some (Kd.int .u32)) false t9 t10) s26 fun t156 s26 => (optK (binV .or (some (Kd.int .u32)) false t9 t10) s26 fun t160 s26 => (optK (binV .and (some (Kd.int .u32)) false t11 t160) s26 fun t161 s26 => (optK (binV .or (some (Kd.int .u32)) false t156 t161) s26 fun t162 s26 => (optK (binV .add (some (Kd.int .u32)) false t153 t162) s26 fun t163 s26 => (optK (binV .add (some (Kd.int .u32)) false t12 t145) s26 fun t169 s26 => (optK (binV .add (some (Kd.int .u32)) false t145 t163) s26 fun t175 s26 => (optK (binV .add (some (Kd.int .i64)) true t118 (V.int .i64 1)) s26 fun t176 s26 => (K .nrm [V.junk, V.junk, t2, V.junk, t4, t5, V.junk, V.junk, V.junk, t175, t9, t10, t11, t169, t13, t14, t15, V.junk, V.junk, V.junk, V.junk, V.junk, V.junk, V.junk, V.junk, V.junk, V.junk, V.junk, V.junk, V.junk, V.junk, V.junk, V.junk, V.junk, V.junk, V.junk, V.junk, V.junk, V.junk, V.junk, V.junk, V.junk, V.junk, V.junk, V.junk, V.junk, V.junk, V.junk, V.junk, V.junk, V.junk, V.junk, V.junk, V.junk, V.junk, V.junk, V.junk, V.junk, V.junk, V.junk, V.junk, V.junk, V.junk, V.junk, V.junk, V.junk, V.junk, V.junk, V.junk, V.junk, V.junk, V.junk, V.junk, V.junk, V.junk, V.junk, V.junk, V.junk, V.junk, V.junk, V.junk, V.junk, V.junk, V.junk, V.junk, V.junk, V.junk, V.junk, V.junk, V.junk, V.junk, V.junk, V.junk, V.junk, V.junk, V.junk, V.junk, V.junk, V.junk, V.junk, V.junk, V.junk, V.junk, V.junk, V.junk, V.junk, V.junk, V.junk, V.junk, V.junk, V.junk, V.junk, V.junk, V.junk, V.junk, V.junk, V.junk, t117, t176, V.junk, V.junk, V.junk, V.junk, V.junk, V.junk, V.junk, V.junk, V.junk, V.junk, V.junk, V.junk, V.junk, V.junk, V.junk, V.junk, V.junk, V.junk, V.junk, V.junk, V.junk, V.junk, V.junk, V.junk, V.junk, V.junk, V.junk, V.junk, V.junk, V.junk, V.junk, V.junk, V.junk, V.junk, V.junk, V.junk, V.junk, V.junk, V.junk, V.junk, V.junk, V.junk, V.junk, V.junk, V.junk, V.junk, V.junk, V.junk, V.junk, V.junk, V.junk, V.junk, V.junk, V.junk, V.junk, V.junk, V.junk, V.junk, V.junk, V.junk, V.junk, V.junk, V.junk, V.junk, V.junk, V.junk, V.junk, V.junk, V.junk, V.junk, V.junk, V.junk, V.junk, V.junk, V.junk, V.junk, V.junk, V.junk, V.junk] s26))))))))))))))))))))))))))))))))
 (K (.exit 2) [V.junk, V.junk, t2, V.junk, t4, V.junk, V.junk, V.junk, V.junk, t9, t10, t11, t12, t13, t14, t15, t16, V.junk, V.junk, V.junk, V.junk, V.junk, V.junk, V.junk, V.junk, V.junk, V.junk, V.junk, V.junk, V.junk, V.junk, V.junk, V.junk, V.junk, V.junk, V.junk, V.junk, V.junk, V.junk, V.junk, V.junk, V.junk, V.junk, V.junk, V.junk, V.junk, V.junk, V.junk, V.junk, V.junk, V.junk, V.junk, V.junk, V.junk, V.junk, V.junk, V.junk, V.junk, V.junk, V.junk, V.junk, V.junk, V.junk, V.junk, V.junk, V.junk, V.junk, V.junk, V.junk, V.junk, V.junk, V.junk, V.junk, V.junk, V.junk, V.junk, V.junk, V.junk, V.junk, V.junk, V.junk, V.junk, V.junk, V.junk, V.junk, V.junk, V.junk, V.junk, V.junk, V.junk, V.junk, V.junk, V.junk, V.junk, V.junk, V.junk, V.junk, V.junk, V.junk, V.junk, V.junk, V.junk, V.junk, V.junk, V.junk, V.junk, V.junk, V.junk, V.junk, V.junk, V.junk, V.junk, V.junk, V.junk, V.junk, V.junk, V.junk, V.junk, V.junk, V.junk, V.junk, V.junk, V.junk, V.junk, V.junk, V.junk, V.junk, V.junk, V.junk, V.junk, V.junk, V.junk, V.junk, V.junk, V.junk, V.junk, V.junk, V.junk, V.junk, V.junk, V.junk, V.junk, V.junk, V.junk, V.junk, V.junk, V.junk, V.junk, V.junk, V.junk, V.junk, V.junk, V.junk, V.junk, V.junk, V.junk, V.junk, V.junk, V.junk, V.junk, V.junk, V.junk, V.junk, V.junk, V.junk, V.junk, V.junk, V.junk, V.junk, V.junk, V.junk, V.junk, V.junk, V.junk, V.junk, V.junk, V.junk, V.junk, V.junk, V.junk, V.junk, V.junk, V.junk, V.junk, V.junk, V.junk, V.junk, V.junk, V.junk, V.junk, V.junk, V.junk, V.junk, V.junk, V.junk, V.junk, V.junk, V.junk] s)))
noncomputable def sha_take_L3 (f190 : V → V → M) (t2 t4 t185 t186 : V) : AS → KX → Prop := fun s K =>
 (optK (binV .lss (some (Kd.int .i64)) true t186 (V.int .i64 8)) s fun t187 s => (condV t187
 (optK (indexV false 8 1 t185 t186) s fun t189 s => (optK (elemPtr (some 8) 1 t2 t186) s fun t191 s => ((ld1 t191) s fun t192 s =>
 (optK (binV .add (some (Kd.int .u32)) false t192 t189) s fun t194 s => (optK (elemPtr (some 8) 1 t2 t186) s fun t195 s => ((st 1 t195 t194) s fun _ s =>
 (optK (binV .add (some (Kd.int .i64)) true t186 (V.int .i64 1)) s fun t196 s => (K .nrm [V.junk, V.junk, t2, V.junk, t4, V.junk, V.junk, V.junk, V.junk, V.junk, V.junk, V.junk, V.junk, V.junk, V.junk, V.junk, V.junk, V.junk, V.junk, V.junk, V.junk, V.junk, V.junk, V.junk, V.junk, V.junk, V.junk, V.junk, V.junk, V.junk, V.junk, V.junk, V.junk, V.junk, V.junk, V.junk, V.junk, V.junk, V.junk, V.junk, V.junk, V.junk, V.junk, V.junk, V.junk, V.junk, V.junk, V.junk, V.junk, V.junk, V.junk, V.junk, V.junk, V.junk, V.junk, V.junk, V.junk, V.junk, V.junk, V.junk, V.junk, V.junk, V.junk, V.junk, V.junk, V.junk, V.junk, V.junk, V.junk, V.junk, V.junk, V.junk, V.junk, V.junk, V.junk, V.junk, V.junk, V.junk, V.junk, V.junk, V.junk, V.junk, V.junk, V.junk, V.junk, V.junk, V.junk, V.junk, V.junk, V.junk, V.junk, V.junk, V.junk, V.junk, V.junk, V.junk, V.junk, V.junk, V.junk, V.junk, V.junk, V.junk, V.junk, V.junk, V.junk, V.junk, V.junk, V.junk, V.junk, V.junk, V.junk, V.junk, V.junk, V.junk, V.junk, V.junk, V.junk, V.junk, V.junk, V.junk, V.junk, V.junk, V.junk, V.junk, V.junk, V.junk, V.junk, V.junk, V.junk, V.junk, V.junk, V.junk, V.junk, V.junk, V.junk, V.junk, V.junk, V.junk, V.junk, V.junk, V.junk, V.junk, V.junk, V.junk, V.junk, V.junk, V.junk, V.junk, V.junk, V.junk, V.junk, V.junk, V.junk, V.junk, V.junk, V.junk, V.junk, V.junk, V.junk, V.junk, V.junk, V.junk, V.junk, V.junk, V.junk, V.junk, V.junk, V.junk, V.junk, V.junk, V.junk, V.junk, V.junk, V.junk, V.junk, V.junk, V.junk, V.junk, V.junk, V.junk, V.junk, V.junk, V.junk, V.junk, V.junk, t185, t196, V.junk, V.junk, V.junk, V.junk, V.junk, V.junk, V.junk, V.junk, V.junk, V.junk, V.junk] s))))))))
 (K (.exit 4) [V.junk, V.junk, t2, V.junk, t4, V.junk, V.junk, V.junk, V.junk, V.junk, V.junk, V.junk, V.junk, V.junk, V.junk, V.junk, V.junk, V.junk, V.junk, V.junk, V.junk, V.junk, V.junk, V.junk, V.junk, V.junk, V.junk, V.junk, V.junk, V.junk, V.junk, V.junk, V.junk, V.junk, V.junk, V.junk, V.junk, V.junk, V.junk, V.junk, V.junk, V.junk, V.junk, V.junk, V.junk, V.junk, V.junk, V.junk, V.junk, V.junk, V.junk, V.junk, V.junk, V.junk, V.junk, V.junk, V.junk, V.junk, V.junk, V.junk, V.junk, V.junk, V.junk, V.junk, V.junk, V.junk, V.junk, V.junk, V.junk, V.junk, V.junk, V.junk, V.junk, V.junk, V.junk, V.junk, V.junk, V.junk, V.junk, V.junk, V.junk, V.junk, V.junk, V.junk, V.junk, V.junk, V.junk, V.junk, V.junk, V.junk, V.junk, V.junk, V.junk, V.junk, V.junk, V.junk, V.junk, V.junk, V.junk, V.junk, V.junk, V.junk, V.junk, V.junk, V.junk, V.junk, V.junk, V.junk, V.junk, V.junk, V.junk, V.junk, V.junk, V.junk, V.junk, V.junk, V.junk, V.junk, V.junk, V.junk, V.junk, V.junk, V.junk, V.junk, V.junk, V.junk, V.junk, V.junk, V.junk, V.junk, V.junk, V.junk, V.junk, V.junk, V.junk, V.junk, V.junk, V.junk, V.junk, V.junk, V.junk, V.junk, V.junk, V.junk, V.junk, V.junk, V.junk, V.junk, V.junk, V.junk, V.junk, V.junk, V.junk, V.junk, V.junk, V.junk, V.junk, V.junk, V.junk, V.junk, V.junk, V.junk, V.junk, V.junk, V.junk, V.junk, V.junk, V.junk, V.junk, V.junk, V.junk, V.junk, V.junk, V.junk, V.junk, V.junk, V.junk, V.junk, V.junk, V.junk, V.junk, V.junk, V.junk, V.junk, V.junk, V.junk, V.junk, V.junk, V.junk, V.junk, V.junk, V.junk, V.junk, V.junk, V.junk, V.junk, V.junk, V.junk] s)))
noncomputable def sha_take_q (f190 : V → V → M) (t0 t1 : V) : M := fun s K =>
 ((boxV t0) s fun t2 s =>
 ((newC [(V.int .u32 0), (V.int .u32 0), (V.int .u32 0), (V.int .u32 0), (V.int .u32 0), (V.int .u32 0), (V.int .u32 0), (V.int .u32 0)]) s fun t4 s =>
 ((newC [(V.int .u32 0), (V.int .u32 0), (V.int .u32 0), (V.int .u32 0), (V.int .u32 0), (V.int .u32 0), (V.int .u32 0), (V.int .u32 0), (V.int .u32 0), (V.int .u32 0), (V.int .u32 0), (V.int .u32 0), (V.int .u32 0), (V.int .u32 0), (V.int .u32 0), (V.int .u32 0), (V.int .u32 0), (V.int .u32 0), (V.int .u32 0), (V.int .u32 0), (V.int .u32 0), (V.int .u32 0), (V.int .u32 0), (V.int .u32 0), (V.int .u32 0), (V.int .u32 0), (V.int .u32 0), (V.int .u32 0), (V.int .u32 0), (V.int .u32 0), (V.int .u32 0), (V.int .u32 0), (V.int .u32 0), (V.int .u32 0), (V.int .u32 0), (V.int .u32 0), (V.int .u32 0), (V.int .u32 0), (V.int .u32 0), (V.int .u32 0), (V.int .u32 0), (V.int .u32 0), (V.int .u32 0), (V.int .u32 0), (V.int .u32 0), (V.int .u32 0), (V.int .u32 0), (V.int .u32 0), (V.int .u32 0), (V.int .u32 0), (V.int .u32 0), (V.int .u32 0), (V.int .u32 0), (V.int .u32 0), (V.int .u32 0), (V.int .u32 0), (V.int .u32 0), (V.int .u32 0), (V.int .u32 0), (V.int .u32 0), (V.int .u32 0), (V.int .u32 0), (V.int .u32 0), (V.int .u32 0)]) s fun t5 s =>
 (loopN LOOPS (fun tm s K => sha_take_L1 f190 (tm.getD 1 .junk) (tm.getD 2 .junk) (tm.getD 4 .junk) (tm.getD 5 .junk) (tm.getD 23 .junk) s K) [V.junk, t1, t2, V.junk, t4, t5, V.junk, V.junk, V.junk, V.junk, V.junk, V.junk, V.junk, V.junk, V.junk, V.junk, V.junk, V.junk, V.junk, V.junk, V.junk, V.junk, V.junk, (V.int .i64 0), V.junk, V.junk, V.junk, V.junk, V.junk, V.junk, V.junk, V.junk, V.junk, V.junk, V.junk, V.junk, V.junk, V.junk, V.junk, V.junk, V.junk, V.junk, V.junk, V.junk, V.junk, V.junk, V.junk, V.junk, V.junk, V.junk, V.junk, V.junk, V.junk, V.junk, V.junk, V.junk, V.junk, V.junk, V.junk, V.junk, V.junk, V.junk, V.junk, V.junk, V.junk, V.junk, V.junk, V.junk, V.junk, V.junk, V.junk, V.junk, V.junk, V.junk, V.junk, V.junk, V.junk, V.junk, V.junk, V.junk, V.junk, V.junk, V.junk, V.junk, V.junk, V.junk, V.junk, V.junk, V.junk, V.junk, V.junk, V.junk, V.junk, V.junk, V.junk, V.junk, V.junk, V.junk, V.junk, V.junk, V.junk, V.junk, V.junk, V.junk, V.junk, V.junk, V.junk, V.junk, V.junk, V.junk, V.junk, V.junk, V.junk, V.junk, V.junk, V.junk, V.junk, V.junk, V.junk, V.junk, V.junk, V.junk, V.junk, V.junk, V.junk, V.junk, V.junk, V.junk, V.junk, V.junk, V.junk, V.junk, V.junk, V.junk, V.junk, V.junk, V.junk, V.junk, V.junk, V.junk, V.junk, V.junk, V.junk, V.junk, V.junk, V.junk, V.junk, V.junk, V.junk, V.junk, V.junk, V.junk, V.junk, V.junk, V.junk, V.junk, V.junk, V.junk, V.junk, V.junk, V.junk, V.junk, V.junk, V.junk, V.junk, V.junk, V.junk, V.junk, V.junk, V.junk, V.junk, V.junk, V.junk, V.junk, V.junk, V.junk, V.junk, V.junk, V.junk, V.junk, V.junk, V.junk, V.junk, V.junk, V.junk, V.junk, V.junk, V.junk, V.junk, V.junk, V.junk, V.junk, V.junk, V.junk, V.junk, V.junk, V.junk, V.junk] s (fun e tm s => exX e (fun j1 => (exB (j1 == 0)
 (optK (elemPtr (some 8) 1 (tm.getD 2 .junk) (V.int .i64 0)) s fun t101 s => ((ld1 t101) s fun t102 s15 =>
 (optK (elemPtr (some 8) 1 (tm.getD 2 .junk) (V.int .i64 1)) s15 fun t103 s15 => ((ld1 t103) s15 fun t104 s16 =>
 (optK (elemPtr (some 8) 1 (tm.getD 2 .junk) (V.int .i64 2)) s16 fun t105 s16 => ((ld1 t105) s16 fun t106 s17 =>
 (optK (elemPtr (some 8) 1 (tm.getD 2 .junk) (V.int .i64 3)) s17 fun t107 s17 => ((ld1 t107) s17 fun t108 s18 =>
 (optK (elemPtr (some 8) 1 (tm.getD 2 .junk) (V.int .i64 4)) s18 fun t109 s18 => ((ld1 t109) s18 fun t110 s19 =>
 (optK (elemPtr (some 8) 1 (tm.getD 2 .junk) (V.int .i64 5)) s19 fun t111 s19 => ((ld1 t111) s19 fun t112 s20 =>
 (optK (elemPtr (some 8) 1 (tm.getD 2 .junk) (V.int .i64 6)) s20 fun t113 s20 => ((ld1 t113) s20 fun t114 s21 =>
 (optK (elemPtr (some 8) 1 (tm.getD 2 .junk) (V.int .i64 7)) s21 fun t115 s21 => ((ld1 t115) s21 fun t116 s22 =>
 ((ldA 64 (V.ptr (some ⟨.old 1, 0⟩))) s22 fun t117 s22 =>
 (loopN LOOPS (fun tm s K => sha_take_L2 f190 (tm.getD 2 .junk) (tm.getD 4 .junk) (tm.getD 5 .junk) (tm.getD 9 .junk) (tm.getD 10 .junk) (tm.getD 11 .junk) (tm.getD 12 .junk) (tm.getD 13 .junk) (tm.getD 14 .junk) (tm.getD 15 .junk) (tm.getD 16 .junk) (tm.getD 117 .junk) (tm.getD 118 .junk) s K) [V.junk, V.junk, (tm.getD 2 .junk), V.junk, (tm.getD 4 .junk), (tm.getD 5 .junk), V.junk, V.junk, V.junk, t102, t104, t106, t108, t110, t112, t114, t116, V.junk, V.junk, V.junk, V.junk, V.junk, V.junk, V.junk, V.junk, V.junk, V.junk, V.junk, V.junk, V.junk, V.junk, V.junk, V.junk, V.junk, V.junk, V.junk, V.junk, V.junk, V.junk, V.junk, V.junk, V.junk, V.junk, V.junk, V.junk, V.junk, V.junk, V.junk, V.junk, V.junk, V.junk, V.junk, V.junk, V.junk, V.junk, V.junk, V.junk, V.junk, V.junk, V.junk, V.junk, V.junk, V.junk, V.junk, V.junk, V.junk, V.junk, V.junk, V.junk, V.junk, V.junk, V.junk, V.junk, V.junk, V.junk, V.junk, V.junk, V.junk, V.junk, V.junk, V.junk, V.junk, V.junk, V.junk, V.junk, V.junk, V.junk, V.junk, V.junk, V.junk, V.junk, V.junk, V.junk, V.junk, V.junk, V.junk, V.junk, V.junk, V.junk, V.junk, V.junk, V.junk, V.junk, V.junk, V.junk, V.junk, V.junk, V.junk, V.junk, V.junk, V.junk, V.junk, V.junk, V.junk, V.junk, V.junk, V.junk, t117, (V.int .i64 0), V.junk, V.junk, V.junk, V.junk, V.junk, V.junk, V.junk, V.junk, V.junk, V.junk, V.junk, V.junk, V.junk, V.junk, V.junk, V.junk, V.junk, V.junk, V.junk, V.junk, V.junk, V.junk, V.junk, V.junk, V.junk, V.junk, V.junk, V.junk, V.junk, V.junk, V.junk, V.junk, V.junk, V.junk, V.junk, V.junk, V.junk, V.junk, V.junk, V.junk, V.junk, V.junk, V.junk, V.junk, V.junk, V.junk, V.junk, V.junk, V.junk, V.junk, V.junk, V.junk, V.junk, V.junk, V.junk, V.junk, V.junk, V.junk, V.junk, V.junk, V.junk, V.junk, V.junk, V.junk, V.junk, V.junk, V.junk, V.junk, V.junk, V.junk, V.junk, V.junk, V.junk, V.junk, V.junk, V.junk, V.junk, V.junk, V.junk] s22 (fun e tm s => exX e (fun j2 => (exB (j2 == 2)
 (optK (aggO (fillV (fun j => some (j * 1, 1)) [(V.int .u32 0), (V.int .u32 0), (V.int .u32 0), (V.int .u32 0), (V.int .u32 0), (V.int .u32 0), (V.int .u32 0), (V.int .u32 0)] [(0, (tm.getD 9 .junk)), (1, (tm.getD 10 .junk)), (2, (tm.getD 11 .junk)), (3, (tm.getD 12 .junk)), (4, (tm.getD 13 .junk)), (5, (tm.getD 14 .junk)), (6, (tm.getD 15 .junk)), (7, (tm.getD 16 .junk))])) s fun t185 s => (loopN LOOPS (fun tm s K => sha_take_L3 f190 (tm.getD 2 .junk) (tm.getD 4 .junk) (tm.getD 185 .junk) (tm.getD 186 .junk) s K) [V.junk, V.junk, (tm.getD 2 .junk), V.junk, (tm.getD 4 .junk), V.junk, V.junk, V.junk, V.junk, V.junk, V.junk, V.junk, V.junk, V.junk, V.junk, V.junk, V.junk, V.junk, V.junk, V.junk, V.junk, V.junk, V.junk, V.junk, V.junk, V.junk, V.junk, V.junk, V.junk, V.junk, V.junk, V.junk, V.junk, V.junk, V.junk, V.junk, V.junk, V.junk, V.junk, V.junk, V.junk, V.junk, V.junk, V.junk, V.junk, V.junk, V.junk, V.junk, V.junk, V.junk, V.junk, V.junk, V.junk, V.junk, V.junk, V.junk, V.junk, V.junk, V.junk, V.junk, V.junk, V.junk, V.junk, V.junk, V.junk, V.junk, V.junk, V.junk, V.junk, V.junk, V.junk, V.junk, V.junk, V.junk, V.junk, V.junk, V.junk, V.junk, V.junk, V.junk, V.junk, V.junk, V.junk, V.junk, V.junk, V.junk, V.junk, V.junk, V.junk, V.junk, V.junk, V.junk, V.junk, V.junk, V.junk, V.junk, V.junk, V.junk, V.junk, V.junk, V.junk, V.junk, V.junk, V.junk, V.junk, V.junk, V.junk, V.junk, V.junk, V.junk, V.junk, V.junk, V.junk, V.junk, V.junk, V.junk, V.junk, V.junk, V.junk, V.junk, V.junk, V.junk, V.junk, V.junk, V.junk, V.junk, V.junk, V.junk, V.junk, V.junk, V.junk, V.junk, V.junk, V.junk, V.junk, V.junk, V.junk, V.junk, V.junk, V.junk, V.junk, V.junk, V.junk, V.junk, V.junk, V.junk, V.junk, V.junk, V.junk, V.junk, V.junk, V.junk, V.junk, V.junk, V.junk, V.junk, V.junk, V.junk, V.junk, V.junk, V.junk, V.junk, V.junk, V.junk, V.junk, V.junk, V.junk, V.junk, V.junk, V.junk, V.junk, V.junk, V.junk, V.junk, V.junk, V.junk, V.junk, V.junk, V.junk, V.junk, V.junk, V.junk, V.junk, V.junk, V.junk, t185, (V.int .i64 0), V.junk, V.junk, V.junk, V.junk, V.junk, V.junk, V.junk, V.junk, V.junk, V.junk, V.junk] s (fun e tm s => exX e (fun j3 => (exB (j3 == 4)
 ((ldA 8 (tm.getD 2 .junk)) s fun t197 s =>
 ((st 8 (tm.getD 4 .junk) t197) s fun _ s =>
 (rfin (rcons (peek ti146 (tm.getD 4 .junk) s) (some [])) s K)))
 False)) (rfin (rcons (peek ti146 (tm.getD 4 .junk) s) (some [])) s K))))
 False)) (rfin (rcons (peek ti146 (tm.getD 4 .junk) s) (some [])) s K))))))))))))))))))))
 False)) (rfin (rcons (peek ti146 (tm.getD 4 .junk) s) (some [])) s K))))))
noncomputable def sha_take : V → V → M := sha_take_q sha_turn
theorem sha_take_qe (f190 : V → V → M) (t0 t1 : V) : sha_take_q f190 t0 t1 = evF (E180 f190) Tryz.f180 [t0, t1] := by kernel_rfl
theorem sha_take_s : SP Tryz.prog 180 (F2 sha_take) := mk2 (mkEnv tab (L := L180 sha_turn) ⟨sha_turn_s, trivial⟩) Tryz.func180 (by kernel_rfl) (sha_take_qe sha_turn)

/-! 153: (*sealchain/sha.Hash).Write -/
abbrev N_sha_Hash_Write : FuncId := 153
def L153 (f179 : V → M) (f180 : V → V → M) (f107 : V → M) : List (Nat × (List V → M)) := [(179, F1 f179), (180, F2 f180), (107, F1 f107)]
def E153 (f179 : V → M) (f180 : V → V → M) (f107 : V → M) : Env := ⟨ty, tabC (L153 f179 f180 f107), meth, tabL [(5, [0, 1, 5, 6])], tabL [(5, [0, 1, 5, 6])]⟩
noncomputable def sha_Hash_Write_L1 (f179 : V → M) (f180 : V → V → M) (f107 : V → M) (t0 t1 t5 t6 : V) : AS → KX → Prop := fun s K =>
 (optK (lenV (some (Kd.slice 5)) t6) s fun t29 s => (optK (binV .geq (some (Kd.int .i64)) true t29 (V.int .i64 64)) s fun t30 s => (condV t30
 ((ldA 8 t5) s fun t31 s5 =>
 ((f180 t31 t6) s5 fun t33 s6 =>
 (optK (sliceSl 1 t6 (some (V.int .i64 64)) none none) s6 fun t35 s6 => ((st 8 t5 t33) s6 fun _ s7 =>
 (K .nrm [t0, t1, V.junk, V.junk, V.junk, t5, t35, V.junk, V.junk, V.junk, V.junk, V.junk, V.junk, V.junk, V.junk, V.junk, V.junk, V.junk, V.junk, V.junk, V.junk, V.junk, V.junk, V.junk, V.junk, V.junk, V.junk, V.junk, V.junk, V.junk, V.junk, V.junk, V.junk, V.junk, V.junk, V.junk, V.junk, V.junk, V.junk, V.junk, V.junk, V.junk, V.junk, V.junk, V.junk, V.junk, V.junk, V.junk, V.junk, V.junk, V.junk, V.junk, V.junk, V.junk, V.junk, V.junk] s7)))))
 (K (.exit 0) [t0, t1, V.junk, V.junk, V.junk, t5, t6, V.junk, V.junk, V.junk, V.junk, V.junk, V.junk, V.junk, V.junk, V.junk, V.junk, V.junk, V.junk, V.junk, V.junk, V.junk, V.junk, V.junk, V.junk, V.junk, V.junk, V.junk, V.junk, V.junk, V.junk, V.junk, V.junk, V.junk, V.junk, V.junk, V.junk, V.junk, V.junk, V.junk, V.junk, V.junk, V.junk, V.junk, V.junk, V.junk, V.junk, V.junk, V.junk, V.junk, V.junk, V.junk, V.junk, V.junk, V.junk, V.junk] s))))
noncomputable def sha_Hash_Write_q (f179 : V → M) (f180 : V → V → M) (f107 : V → M) (t0 t1 : V) : M := fun s K =>
 (optK (binV .eql (some (Kd.ptr 205)) true t0 (V.ptr none)) s fun t8 s => (condV t8
 (K (V.ptr none) s)
 ((f179 t0) s fun t10 s =>
 ((newC [(V.int .u32 0), (V.int .u32 0), (V.int .u32 0), (V.int .u32 0), (V.int .u32 0), (V.int .u32 0), (V.int .u32 0), (V.int .u32 0)]) s fun t5 s =>
 ((st 8 t5 t10) s fun _ s =>
 (optK (nilV t0) s fun t12 s => (optK (fp 8 t12) s fun t13 s => ((ld1 t13) s fun t14 s1 =>
 (optK (nilV t0) s1 fun t16 s1 => (optK (fp 8 t16) s1 fun t17 s1 => ((ld1 t17) s1 fun t18 s2 =>
 (optK (lenV (some (Kd.slice 5)) t18) s2 fun t19 s2 => (optK (nilV t0) s2 fun t21 s2 => (optK (fp 8 t21) s2 fun t22 s2 => ((ld1 t22) s2 fun t23 s3 =>
 (optK (lenV (some (Kd.slice 5)) t23) s3 fun t24 s3 => (optK (sliceSl 1 t14 none (some t19) (some t24)) s3 fun t25 s3 => ((app 1 1 t25 t1) s3 fun t27 s4 =>
 (loopN LOOPS (fun tm s K => sha_Hash_Write_L1 f179 f180 f107 (tm.getD 0 .junk) (tm.getD 1 .junk) (tm.getD 5 .junk) (tm.getD 6 .junk) s K) [t0, t1, V.junk, V.junk, V.junk, t5, t27, V.junk, V.junk, V.junk, V.junk, V.junk, V.junk, V.junk, V.junk, V.junk, V.junk, V.junk, V.junk, V.junk, V.junk, V.junk, V.junk, V.junk, V.junk, V.junk, V.junk, V.junk, V.junk, V.junk, V.junk, V.junk, V.junk, V.junk, V.junk, V.junk, V.junk, V.junk, V.junk, V.junk, V.junk, V.junk, V.junk, V.junk, V.junk, V.junk, V.junk, V.junk, V.junk, V.junk, V.junk, V.junk, V.junk, V.junk, V.junk, V.junk] s4 (fun e tm s => exX e (fun j1 => (exB (j1 == 0)
 ((ldA 8 (tm.getD 5 .junk)) s fun t39 s8 =>
 ((f107 (tm.getD 6 .junk)) s8 fun t41 s9 =>
 (chkB (holds ti146 (tm.getD 5 .junk) s9 t39) (optK (nilV (tm.getD 0 .junk)) s9 fun t43 s9 => (optK (fp 9 t43) s9 fun t44 s9 => ((ld1 t44) s9 fun t45 s10 =>
 (chkB (holds ti3 t44 s8 t45) (optK (lenV (some (Kd.slice 5)) (tm.getD 1 .junk)) s10 fun t47 s10 => (optK (binV .add (some (Kd.int .i64)) false t45 t47) s10 fun t48 s10 => (optK (nilV (tm.getD 0 .junk)) s10 fun t49 s10 => (optK (fp 0 t49) s10 fun t50 s10 => ((st 8 t50 t39) s10 fun _ s11 =>
 (optK (nilV (tm.getD 0 .junk)) s11 fun t51 s11 => (optK (fp 8 t51) s11 fun t52 s11 => ((st 1 t52 t41) s11 fun _ s12 =>
 (optK (nilV (tm.getD 0 .junk)) s12 fun t53 s12 => (optK (fp 9 t53) s12 fun t54 s12 => ((st 1 t54 t48) s12 fun _ s13 =>
 (K (tm.getD 0 .junk) s13)))))))))))))))))))
 False)) (K V.junk s)))))))))))))))))))))
noncomputable def sha_Hash_Write : V → V → M := sha_Hash_Write_q sha_Hash_words sha_take slices_CloneB
theorem sha_Hash_Write_qe (f179 : V → M) (f180 : V → V → M) (f107 : V → M) (t0 t1 : V) : sha_Hash_Write_q f179 f180 f107 t0 t1 = evF (E153 f179 f180 f107) Tryz.f153 [t0, t1] := by kernel_rfl
theorem sha_Hash_Write_s : SP Tryz.prog 153 (F2 sha_Hash_Write) := mk2 (mkEnv tab (L := L153 sha_Hash_words sha_take slices_CloneB) ⟨sha_Hash_words_s, sha_take_s, slices_CloneB_s, trivial⟩) Tryz.func153 (by kernel_rfl) (sha_Hash_Write_qe sha_Hash_words sha_take slices_CloneB)

/-! 181: (*sealchain/sha.Hash).Copy -/
abbrev N_sha_Hash_Copy : FuncId := 181
def L181 (f107 : V → M) : List (Nat × (List V → M)) := [(107, F1 f107)]
def E181 (f107 : V → M) : Env := ⟨ty, tabC (L181 f107), meth, tabL [], tabL []⟩
noncomputable def sha_Hash_Copy_q (f107 : V → M) (t0 : V) : M := fun s K =>
 (optK (binV .eql (some (Kd.ptr 205)) true t0 (V.ptr none)) s fun t5 s => (condV t5
 (K (V.ptr none) s)
 (optK (nilV t0) s fun t7 s => ((ldA 10 t7) s fun t8 s =>
 ((newC [(V.int .u32 0), (V.int .u32 0), (V.int .u32 0), (V.int .u32 0), (V.int .u32 0), (V.int .u32 0), (V.int .u32 0), (V.int .u32 0), (V.slice none 0 0 true), (V.int .i64 0)]) s fun t3 s =>
 ((st 10 t3 t8) s fun _ s =>
 (optK (nilV t0) s fun t10 s => (optK (fp 8 t10) s fun t11 s => ((ld1 t11) s fun t12 s =>
 ((f107 t12) s fun t13 s =>
 (optK (fp 8 t3) s fun t14 s => ((st 1 t14 t13) s fun _ s =>
 (K t3 s)))))))))))))
noncomputable def sha_Hash_Copy : V → M := sha_Hash_Copy_q slices_CloneB
theorem sha_Hash_Copy_qe (f107 : V → M) (t0 : V) : sha_Hash_Copy_q f107 t0 = evF (E181 f107) Tryz.f181 [t0] := by kernel_rfl
theorem sha_Hash_Copy_s : SP Tryz.prog 181 (F1 sha_Hash_Copy) := mk1 (mkEnv tab (L := L181 slices_CloneB) ⟨slices_CloneB_s, trivial⟩) Tryz.func181 (by kernel_rfl) (sha_Hash_Copy_qe slices_CloneB)

/-! 154: (*sealchain/sha.Hash).Sum -/
abbrev N_sha_Hash_Sum : FuncId := 154
def L154 (f181 : V → M) (f152 : M) (f153 : V → V → M) : List (Nat × (List V → M)) := [(181, F1 f181), (152, F0 f152), (153, F2 f153)]
def E154 (f181 : V → M) (f152 : M) (f153 : V → V → M) : Env := ⟨ty, tabC (L154 f181 f152 f153), meth, tabL [(5, [2, 3, 4]), (8, [2, 3, 4, 25]), (14, [2, 3, 45])], tabL [(5, [2, 3, 4]), (8, [2, 3, 4]), (14, [2])]⟩
noncomputable def sha_Hash_Sum_L1 (f181 : V → M) (f152 : M) (f153 : V → V → M) (t2 t3 t4 : V) : AS → KX → Prop := fun s K =>
 (optK (nilV t3) s fun t14 s => (optK (fp 9 t14) s fun t15 s => ((ld1 t15) s fun t16 s =>
 (optK (lenV (some (Kd.slice 5)) t4) s fun t18 s => (optK (binV .add (some (Kd.int .i64)) false t16 t18) s fun t19 s => (optK (binV .rem (some (Kd.int .i64)) true t19 (V.int .i64 64)) s fun t20 s => (optK (binV .neq (some (Kd.int .i64)) true t20 (V.int .i64 56)) s fun t21 s => (condV t21
 ((bsl 1 [(V.int .u8 0)] 1 [(0, (V.int .u8 0))]) s fun t23 s =>
 ((app 1 1 t4 t23) s fun t24 s =>
 (K .nrm [V.junk, V.junk, t2, t3, t24, V.junk, V.junk, V.junk, V.junk, V.junk, V.junk, V.junk, V.junk, V.junk, V.junk, V.junk, V.junk, V.junk, V.junk, V.junk, V.junk, V.junk, V.junk, V.junk, V.junk, V.junk, V.junk, V.junk, V.junk, V.junk, V.junk, V.junk, V.junk, V.junk, V.junk, V.junk, V.junk, V.junk, V.junk, V.junk, V.junk, V.junk, V.junk, V.junk, V.junk, V.junk, V.junk, V.junk, V.junk, V.junk, V.junk, V.junk, V.junk, V.junk, V.junk, V.junk, V.junk, V.junk, V.junk, V.junk, V.junk, V.junk, V.junk, V.junk, V.junk] s)))
 (K (.exit 0) [V.junk, V.junk, t2, t3, t4, V.junk, V.junk, V.junk, V.junk, V.junk, V.junk, V.junk, V.junk, V.junk, V.junk, V.junk, V.junk, V.junk, V.junk, V.junk, V.junk, V.junk, V.junk, V.junk, V.junk, V.junk, V.junk, V.junk, V.junk, V.junk, V.junk, V.junk, V.junk, V.junk, V.junk, V.junk, V.junk, V.junk, V.junk, V.junk, V.junk, V.junk, V.junk, V.junk, V.junk, V.junk, V.junk, V.junk, V.junk, V.junk, V.junk, V.junk, V.junk, V.junk, V.junk, V.junk, V.junk, V.junk, V.junk, V.junk, V.junk, V.junk, V.junk, V.junk, V.junk] s)))))))))
noncomputable def sha_Hash_Sum_L2 (f181 : V → M) (f152 : M) (f153 : V → V → M) (t2 t3 t4 t25 : V) : AS → KX → Prop := fun s K =>
 (optK (binV .lss (some (Kd.int .i64)) true t25 (V.int .i64 8)) s fun t26 s => (condV t26
 (optK (nilV t3) s fun t30 s => (optK (fp 9 t30) s fun t31 s => ((ld1 t31) s fun t32 s =>
 (optK (binV .mul (some (Kd.int .i64)) true t32 (V.int .i64 8)) s fun t33 s => (optK (binV .mul (some (Kd.int .i64)) true (V.int .i64 8) t25) s fun t35 s => (optK (binV .sub (some (Kd.int .i64)) true (V.int .i64 56) t35) s fun t36 s => (optK (binV .shr (some (Kd.int .i64)) false t33 t36) s fun t37 s => ((cvt (Kd.int .i64) (Kd.int .u8) t37) s fun t38 s =>
 ((bsl 1 [(V.int .u8 0)] 1 [(0, t38)]) s fun t39 s =>
 ((app 1 1 t4 t39) s fun t40 s =>
 (optK (binV .add (some (Kd.int .i64)) true t25 (V.int .i64 1)) s fun t41 s => (K .nrm [V.junk, V.junk, t2, t3, t40, V.junk, V.junk, V.junk, V.junk, V.junk, V.junk, V.junk, V.junk, V.junk, V.junk, V.junk, V.junk, V.junk, V.junk, V.junk, V.junk, V.junk, V.junk, V.junk, V.junk, t41, V.junk, V.junk, V.junk, V.junk, V.junk, V.junk, V.junk, V.junk, V.junk, V.junk, V.junk, V.junk, V.junk, V.junk, V.junk, V.junk, V.junk, V.junk, V.junk, V.junk, V.junk, V.junk, V.junk, V.junk, V.junk, V.junk, V.junk, V.junk, V.junk, V.junk, V.junk, V.junk, V.junk, V.junk, V.junk, V.junk, V.junk, V.junk, V.junk] s))))))))))))
 (K (.exit 2) [V.junk, V.junk, t2, t3, t4, V.junk, V.junk, V.junk, V.junk, V.junk, V.junk, V.junk, V.junk, V.junk, V.junk, V.junk, V.junk, V.junk, V.junk, V.junk, V.junk, V.junk, V.junk, V.junk, V.junk, V.junk, V.junk, V.junk, V.junk, V.junk, V.junk, V.junk, V.junk, V.junk, V.junk, V.junk, V.junk, V.junk, V.junk, V.junk, V.junk, V.junk, V.junk, V.junk, V.junk, V.junk, V.junk, V.junk, V.junk, V.junk, V.junk, V.junk, V.junk, V.junk, V.junk, V.junk, V.junk, V.junk, V.junk, V.junk, V.junk, V.junk, V.junk, V.junk, V.junk] s)))
noncomputable def sha_Hash_Sum_L3 (f181 : V → M) (f152 : M) (f153 : V → V → M) (t2 t3 t45 : V) : AS → KX → Prop := fun s K =>
 (optK (binV .lss (some (Kd.int .i64)) true t45 (V.int .i64 32)) s fun t46 s => (condV t46
 (optK (binV .quo (some (Kd.int .i64)) true t45 (V.int .i64 4)) s fun t51 s => (optK (nilV t3) s fun t52 s => (optK (fp 0 t52) s fun t53 s => (optK (elemPtr (some 8) 1 t53 t51) s fun t54 s => ((ld1 t54) s fun t55 s =>
 (optK (binV .rem (some (Kd.int .i64)) true t45 (V.int .i64 4)) s fun t57 s => (optK (binV .mul (some (Kd.int .i64)) true (V.int .i64 8) t57) s fun t58 s => (optK (binV .sub (some (Kd.int .i64)) true (V.int .i64 24) t58) s fun t59 s => (optK (binV .shr (some (Kd.int .u32)) false t55 t59) s fun t60 s => ((cvt (Kd.int .u32) (Kd.int .u8) t60) s fun t61 s =>
 (optK (elemPtr (some 32) 1 t2 t45) s fun t62 s => ((st 1 t62 t61) s fun _ s =>
 (optK (binV .add (some (Kd.int .i64)) true t45 (V.int .i64 1)) s fun t63 s => (K .nrm [V.junk, V.junk, t2, t3, V.junk, V.junk, V.junk, V.junk, V.junk, V.junk, V.junk, V.junk, V.junk, V.junk, V.junk, V.junk, V.junk, V.junk, V.junk, V.junk, V.junk, V.junk, V.junk, V.junk, V.junk, V.junk, V.junk, V.junk, V.junk, V.junk, V.junk, V.junk, V.junk, V.junk, V.junk, V.junk, V.junk, V.junk, V.junk, V.junk, V.junk, V.junk, V.junk, V.junk, V.junk, t63, V.junk, V.junk, V.junk, V.junk, V.junk, V.junk, V.junk, V.junk, V.junk, V.junk, V.junk, V.junk, V.junk, V.junk, V.junk, V.junk, V.junk, V.junk, V.junk] s))))))))))))))
 (K (.exit 4) [V.junk, V.junk, t2, V.junk, V.junk, V.junk, V.junk, V.junk, V.junk, V.junk, V.junk, V.junk, V.junk, V.junk, V.junk, V.junk, V.junk, V.junk, V.junk, V.junk, V.junk, V.junk, V.junk, V.junk, V.junk, V.junk, V.junk, V.junk, V.junk, V.junk, V.junk, V.junk, V.junk, V.junk, V.junk, V.junk, V.junk, V.junk, V.junk, V.junk, V.junk, V.junk, V.junk, V.junk, V.junk, V.junk, V.junk, V.junk, V.junk, V.junk, V.junk, V.junk, V.junk, V.junk, V.junk, V.junk, V.junk, V.junk, V.junk, V.junk, V.junk, V.junk, V.junk, V.junk, V.junk] s)))
noncomputable def sha_Hash_Sum_q (f181 : V → M) (f152 : M) (f153 : V → V → M) (t0 : V) : M := fun s K =>
 ((newC [(V.int .u8 0), (V.int .u8 0), (V.int .u8 0), (V.int .u8 0), (V.int .u8 0), (V.int .u8 0), (V.int .u8 0), (V.int .u8 0), (V.int .u8 0), (V.int .u8 0), (V.int .u8 0), (V.int .u8 0), (V.int .u8 0), (V.int .u8 0), (V.int .u8 0), (V.int .u8 0), (V.int .u8 0), (V.int .u8 0), (V.int .u8 0), (V.int .u8 0), (V.int .u8 0), (V.int .u8 0), (V.int .u8 0), (V.int .u8 0), (V.int .u8 0), (V.int .u8 0), (V.int .u8 0), (V.int .u8 0), (V.int .u8 0), (V.int .u8 0), (V.int .u8 0), (V.int .u8 0)]) s fun t2 s =>
 ((f181 t0) s fun t8 s =>
 (optK (binV .eql (some (Kd.ptr 205)) true t8 (V.ptr none)) s fun t10 s => (condV t10
 ((f152) s fun t11 s =>
 ((bsl 1 [(V.int .u8 0)] 1 [(0, (V.int .u8 128))]) s fun t12 s =>
 (loopN LOOPS (fun tm s K => sha_Hash_Sum_L1 f181 f152 f153 (tm.getD 2 .junk) (tm.getD 3 .junk) (tm.getD 4 .junk) s K) [V.junk, V.junk, t2, t11, t12, V.junk, V.junk, V.junk, V.junk, V.junk, V.junk, V.junk, V.junk, V.junk, V.junk, V.junk, V.junk, V.junk, V.junk, V.junk, V.junk, V.junk, V.junk, V.junk, V.junk, V.junk, V.junk, V.junk, V.junk, V.junk, V.junk, V.junk, V.junk, V.junk, V.junk, V.junk, V.junk, V.junk, V.junk, V.junk, V.junk, V.junk, V.junk, V.junk, V.junk, V.junk, V.junk, V.junk, V.junk, V.junk, V.junk, V.junk, V.junk, V.junk, V.junk, V.junk, V.junk, V.junk, V.junk, V.junk, V.junk, V.junk, V.junk, V.junk, V.junk] s (fun e tm s => exX e (fun j1 => (exB (j1 == 0)
 (loopN LOOPS (fun tm s K => sha_Hash_Sum_L2 f181 f152 f153 (tm.getD 2 .junk) (tm.getD 3 .junk) (tm.getD 4 .junk) (tm.getD 25 .junk) s K) [V.junk, V.junk, (tm.getD 2 .junk), (tm.getD 3 .junk), (tm.getD 4 .junk), V.junk, V.junk, V.junk, V.junk, V.junk, V.junk, V.junk, V.junk, V.junk, V.junk, V.junk, V.junk, V.junk, V.junk, V.junk, V.junk, V.junk, V.junk, V.junk, V.junk, (V.int .i64 0), V.junk, V.junk, V.junk, V.junk, V.junk, V.junk, V.junk, V.junk, V.junk, V.junk, V.junk, V.junk, V.junk, V.junk, V.junk, V.junk, V.junk, V.junk, V.junk, V.junk, V.junk, V.junk, V.junk, V.junk, V.junk, V.junk, V.junk, V.junk, V.junk, V.junk, V.junk, V.junk, V.junk, V.junk, V.junk, V.junk, V.junk, V.junk, V.junk] s (fun e tm s => exX e (fun j2 => (exB (j2 == 2)
 ((f153 (tm.getD 3 .junk) (tm.getD 4 .junk)) s fun t44 s =>
 (loopN LOOPS (fun tm s K => sha_Hash_Sum_L3 f181 f152 f153 (tm.getD 2 .junk) (tm.getD 3 .junk) (tm.getD 45 .junk) s K) [V.junk, V.junk, (tm.getD 2 .junk), (tm.getD 3 .junk), V.junk, V.junk, V.junk, V.junk, V.junk, V.junk, V.junk, V.junk, V.junk, V.junk, V.junk, V.junk, V.junk, V.junk, V.junk, V.junk, V.junk, V.junk, V.junk, V.junk, V.junk, V.junk, V.junk, V.junk, V.junk, V.junk, V.junk, V.junk, V.junk, V.junk, V.junk, V.junk, V.junk, V.junk, V.junk, V.junk, V.junk, V.junk, V.junk, V.junk, V.junk, (V.int .i64 0), V.junk, V.junk, V.junk, V.junk, V.junk, V.junk, V.junk, V.junk, V.junk, V.junk, V.junk, V.junk, V.junk, V.junk, V.junk, V.junk, V.junk, V.junk, V.junk] s (fun e tm s => exX e (fun j3 => (exB (j3 == 4)
 ((ldA 32 (tm.getD 2 .junk)) s fun t64 s =>
 ((st 32 (tm.getD 2 .junk) t64) s fun _ s =>
 (rfin (rcons (peek ti100 (tm.getD 2 .junk) s) (some [])) s K)))
 False)) (rfin (rcons (peek ti100 (tm.getD 2 .junk) s) (some [])) s K))))
 False)) (rfin (rcons (peek ti100 (tm.getD 2 .junk) s) (some [])) s K)))
 False)) (rfin (rcons (peek ti100 (tm.getD 2 .junk) s) (some [])) s K)))))
 ((bsl 1 [(V.int .u8 0)] 1 [(0, (V.int .u8 128))]) s fun t12 s =>
 (loopN LOOPS (fun tm s K => sha_Hash_Sum_L1 f181 f152 f153 (tm.getD 2 .junk) (tm.getD 3 .junk) (tm.getD 4 .junk) s K) [V.junk, V.junk, t2, t8, t12, V.junk, V.junk, V.junk, V.junk, V.junk, V.junk, V.junk, V.junk, V.junk, V.junk, V.junk, V.junk, V.junk, V.junk, V.junk, V.junk, V.junk, V.junk, V.junk, V.junk, V.junk, V.junk, V.junk, V.junk, V.junk, V.junk, V.junk, V.junk, V.junk, V.junk, V.junk, V.junk, V.junk, V.junk, V.junk, V.junk, V.junk, V.junk, V.junk, V.junk, V.junk, V.junk, V.junk, V.junk, V.junk, V.junk, V.junk, V.junk, V.junk, V.junk, V.junk, V.junk, V.junk, V.junk, V.junk, V.junk, V.junk, V.junk, V.junk, V.junk] s (fun e tm s => exX e (fun j1 => (exB (j1 == 0)
 (loopN LOOPS (fun tm s K => sha_Hash_Sum_L2 f181 f152 f153 (tm.getD 2 .junk) (tm.getD 3 .junk) (tm.getD 4 .junk) (tm.getD 25 .junk) s K) [V.junk, V.junk, (tm.getD 2 .junk), (tm.getD 3 .junk), (tm.getD 4 .junk), V.junk, V.junk, V.junk, V.junk, V.junk, V.junk, V.junk, V.junk, V.junk, V.junk, V.junk, V.junk, V.junk, V.junk, V.junk, V.junk, V.junk, V.junk, V.junk, V.junk, (V.int .i64 0), V.junk, V.junk, V.junk, V.junk, V.junk, V.junk, V.junk, V.junk, V.junk, V.junk, V.junk, V.junk, V.junk, V.junk, V.junk, V.junk, V.junk, V.junk, V.junk, V.junk, V.junk, V.junk, V.junk, V.junk, V.junk, V.junk, V.junk, V.junk, V.junk, V.junk, V.junk, V.junk, V.junk, V.junk, V.junk, V.junk, V.junk, V.junk, V.junk] s (fun e tm s => exX e (fun j2 => (exB (j2 == 2)
 ((f153 (tm.getD 3 .junk) (tm.getD 4 .junk)) s fun t44 s =>
 (loopN LOOPS (fun tm s K => sha_Hash_Sum_L3 f181 f152 f153 (tm.getD 2 .junk) (tm.getD 3 .junk) (tm.getD 45 .junk) s K) [V.junk, V.junk, (tm.getD 2 .junk), (tm.getD 3 .junk), V.junk, V.junk, V.junk, V.junk, V.junk, V.junk, V.junk, V.junk, V.junk, V.junk, V.junk, V.junk, V.junk, V.junk, V.junk, V.junk, V.junk, V.junk, V.junk, V.junk, V.junk, V.junk, V.junk, V.junk, V.junk, V.junk, V.junk, V.junk, V.junk, V.junk, V.junk, V.junk, V.junk, V.junk, V.junk, V.junk, V.junk, V.junk, V.junk, V.junk, V.junk, (V.int .i64 0), V.junk, V.junk, V.junk, V.junk, V.junk, V.junk, V.junk, V.junk, V.junk, V.junk, V.junk, V.junk, V.junk, V.junk, V.junk, V.junk, V.junk, V.junk, V.junk] s (fun e tm s => exX e (fun j3 => (exB (j3 == 4)
 ((ldA 32 (tm.getD 2 .junk)) s fun t64 s =>
 ((st 32 (tm.getD 2 .junk) t64) s fun _ s =>
 (rfin (rcons (peek ti100 (tm.getD 2 .junk) s) (some [])) s K)))
 False)) (rfin (rcons (peek ti100 (tm.getD 2 .junk) s) (some [])) s K))))
 False)) (rfin (rcons (peek ti100 (tm.getD 2 .junk) s) (some [])) s K)))
 False)) (rfin (rcons (peek ti100 (tm.getD 2 .junk) s) (some [])) s K))))))))
noncomputable def sha_Hash_Sum : V → M := sha_Hash_Sum_q sha_Hash_Copy sha_New sha_Hash_Write
theorem sha_Hash_Sum_qe (f181 : V → M) (f152 : M) (f153 : V → V → M) (t0 : V) : sha_Hash_Sum_q f181 f152 f153 t0 = evF (E154 f181 f152 f153) Tryz.f154 [t0] := by kernel_rfl
theorem sha_Hash_Sum_s : SP Tryz.prog 154 (F1 sha_Hash_Sum) := mk1 (mkEnv tab (L := L154 sha_Hash_Copy sha_New sha_Hash_Write) ⟨sha_Hash_Copy_s, sha_New_s, sha_Hash_Write_s, trivial⟩) Tryz.func154 (by kernel_rfl) (sha_Hash_Sum_qe sha_Hash_Copy sha_New sha_Hash_Write)

/-! 139: sealchain/sha.Sum -/
abbrev N_sha_Sum : FuncId := 139
def L139 (f152 : M) (f153 : V → V → M) (f154 : V → M) : List (Nat × (List V → M)) := [(152, F0 f152), (153, F2 f153), (154, F1 f154)]
def E139 (f152 : M) (f153 : V → V → M) (f154 : V → M) : Env := ⟨ty, tabC (L139 f152 f153 f154), meth, tabL [], tabL []⟩
noncomputable def sha_Sum_q (f152 : M) (f153 : V → V → M) (f154 : V → M) (t0 : V) : M := fun s K =>
 ((newC [(V.int .u8 0), (V.int .u8 0), (V.int .u8 0), (V.int .u8 0), (V.int .u8 0), (V.int .u8 0), (V.int .u8 0), (V.int .u8 0), (V.int .u8 0), (V.int .u8 0), (V.int .u8 0), (V.int .u8 0), (V.int .u8 0), (V.int .u8 0), (V.int .u8 0), (V.int .u8 0), (V.int .u8 0), (V.int .u8 0), (V.int .u8 0), (V.int .u8 0), (V.int .u8 0), (V.int .u8 0), (V.int .u8 0), (V.int .u8 0), (V.int .u8 0), (V.int .u8 0), (V.int .u8 0), (V.int .u8 0), (V.int .u8 0), (V.int .u8 0), (V.int .u8 0), (V.int .u8 0)]) s fun t2 s =>
 ((f152) s fun t3 s =>
 ((f153 t3 t0) s fun t5 s =>
 ((f154 t5) s fun t6 s =>
 ((st 32 t2 t6) s fun _ s =>
 (rfin (rcons (peek ti100 t2 s) (some [])) s K))))))
noncomputable def sha_Sum : V → M := sha_Sum_q sha_New sha_Hash_Write sha_Hash_Sum
theorem sha_Sum_qe (f152 : M) (f153 : V → V → M) (f154 : V → M) (t0 : V) : sha_Sum_q f152 f153 f154 t0 = evF (E139 f152 f153 f154) Tryz.f139 [t0] := by kernel_rfl
theorem sha_Sum_s : SP Tryz.prog 139 (F1 sha_Sum) := mk1 (mkEnv tab (L := L139 sha_New sha_Hash_Write sha_Hash_Sum) ⟨sha_New_s, sha_Hash_Write_s, sha_Hash_Sum_s, trivial⟩) Tryz.func139 (by kernel_rfl) (sha_Sum_qe sha_New sha_Hash_Write sha_Hash_Sum)

/-! 106: sealchain/wal.sums -/
abbrev N_wal_sums : FuncId := 106
def L106 (f139 : V → M) : List (Nat × (List V → M)) := [(139, F1 f139)]
def E106 (f139 : V → M) : Env := ⟨ty, tabC (L106 f139), meth, tabL [], tabL []⟩
noncomputable def wal_sums_q (f139 : V → M) (t0 : V) : M := fun s K =>
 ((f139 t0) s fun t5 s =>
 ((newC [(V.int .u8 0), (V.int .u8 0), (V.int .u8 0), (V.int .u8 0), (V.int .u8 0), (V.int .u8 0), (V.int .u8 0), (V.int .u8 0), (V.int .u8 0), (V.int .u8 0), (V.int .u8 0), (V.int .u8 0), (V.int .u8 0), (V.int .u8 0), (V.int .u8 0), (V.int .u8 0), (V.int .u8 0), (V.int .u8 0), (V.int .u8 0), (V.int .u8 0), (V.int .u8 0), (V.int .u8 0), (V.int .u8 0), (V.int .u8 0), (V.int .u8 0), (V.int .u8 0), (V.int .u8 0), (V.int .u8 0), (V.int .u8 0), (V.int .u8 0), (V.int .u8 0), (V.int .u8 0)]) s fun t3 s =>
 ((st 32 t3 t5) s fun _ s =>
 (optK (sliceArr 32 1 t3 none (some (V.int .i64 4)) none) s fun t6 s => (K t6 s)))))
noncomputable def wal_sums : V → M := wal_sums_q sha_Sum
theorem wal_sums_qe (f139 : V → M) (t0 : V) : wal_sums_q f139 t0 = evF (E106 f139) Tryz.f106 [t0] := by kernel_rfl
theorem wal_sums_s : SP Tryz.prog 106 (F1 wal_sums) := mk1 (mkEnv tab (L := L106 sha_Sum) ⟨sha_Sum_s, trivial⟩) Tryz.func106 (by kernel_rfl) (wal_sums_qe sha_Sum)

/-! 105: bytes.Equal -/
abbrev N_bytes_Equal : FuncId := 105
def L105 : List (Nat × (List V → M)) := []
def E105 : Env := ⟨ty, tabC (L105), meth, tabL [], tabL []⟩
noncomputable def bytes_Equal_q (t0 t1 : V) : M := fun s K =>
 ((cvtS (Kd.slice 5) t0) s fun t6 s =>
 ((cvtS (Kd.slice 5) t1) s fun t8 s =>
 (optK (binV .eql (some Kd.str) false t6 t8) s fun t9 s => (K t9 s))))
noncomputable def bytes_Equal : V → V → M := bytes_Equal_q
theorem bytes_Equal_qe (t0 t1 : V) : bytes_Equal_q t0 t1 = evF (E105) Tryz.f105 [t0, t1] := by kernel_rfl
theorem bytes_Equal_s : SP Tryz.prog 105 (F2 bytes_Equal) := mk2 (mkEnv tab (L := L105) trivial) Tryz.func105 (by kernel_rfl) (bytes_Equal_qe)
end Go.Proofs.Vt
