/- A part of the proofs of the Vote laws: functions of the program in the evaluator's form, printed by a program of the prover's, each equation checked by the kernel. -/
import Derived.Test.YtlmjmjpohjdogaaGreatDoorF2
set_option linter.unusedVariables false
set_option linter.unusedSimpArgs false
/- PRINTED by gen.py. -/
set_option maxRecDepth 100000
namespace Go.Proofs.Vt
open Go Go.Rx Go.Proofs
/-! 166: slices.insertionSortCmpFunc[int] -/
abbrev N_slices_insertionSortCmpFuncI : FuncId := 166
def L166 (f88 : V → V → M) : List (Nat × (List V → M)) := [(88, F2 f88)]
def E166 (f88 : V → V → M) : Env := ⟨ty, tabC (L166 f88), meth, tabL [(1, [0, 1, 2, 3, 8]), (4, [0, 1, 2, 3, 8, 9])], tabL [(1, []), (4, [0, 1, 2, 3, 8])]⟩
noncomputable def slices_insertionSortCmpFuncI_L2 (f88 : V → V → M) (t0 t1 t2 t3 t8 t9 : V) : AS → KX → Prop := fun s K =>
 (optK (binV .gtr (some (Kd.int .i64)) false t9 t1) s fun t20 s => (grd t20
 (optK (elemPtr none 1 t0 t9) s fun t25 s => ((ld1 t25) s fun t26 s1 =>
 (optK (binV .sub (some (Kd.int .i64)) true t9 (V.int .i64 1)) s1 fun t29 s1 => (optK (elemPtr none 1 t0 t29) s1 fun t30 s1 => ((ld1 t30) s1 fun t31 s2 =>
 ((callV (E166 f88) t3 [t26, t31]) s2 fun t32 s3 =>
 (optK (binV .lss (some (Kd.int .i64)) true t32 (V.int .i64 0)) s3 fun t33 s3 => (condV t33
 (optK (binV .sub (some (Kd.int .i64)) true t9 (V.int .i64 1)) s3 fun t41 s3 => (optK (binV .sub (some (Kd.int .i64)) true t9 (V.int .i64 1)) s3 fun t44 s3 => (optK (elemPtr none 1 t0 t44) s3 fun t45 s3 => ((ld1 t45) s3 fun t46 s4 =>
 (optK (elemPtr none 1 t0 t9) s4 fun t49 s4 => ((ld1 t49) s4 fun t50 s5 =>
 (optK (elemPtr none 1 t0 t9) s5 fun t51 s5 => ((st 1 t51 t46) s5 fun _ s6 =>
 (optK (elemPtr none 1 t0 t41) s6 fun t52 s6 => ((st 1 t52 t50) s6 fun _ s7 =>
 (optK (binV .sub (some (Kd.int .i64)) true t9 (V.int .i64 1)) s7 fun t36 s7 => (K .nrm [t0, t1, t2, t3, V.junk, V.junk, V.junk, V.junk, t8, t36, V.junk, V.junk, V.junk, V.junk, V.junk, V.junk, V.junk, V.junk, V.junk, V.junk, V.junk, V.junk, V.junk, V.junk, V.junk, V.junk, V.junk, V.junk, V.junk, V.junk, V.junk, V.junk, V.junk, V.junk, V.junk, V.junk, V.junk, V.junk, V.junk, V.junk, V.junk, V.junk, V.junk, V.junk, V.junk, V.junk, V.junk, V.junk, V.junk, V.junk, V.junk, V.junk, V.junk] s7))))))))))))
 (K (.exit 2) [t0, t1, t2, t3, V.junk, V.junk, V.junk, V.junk, t8, V.junk, V.junk, V.junk, V.junk, V.junk, V.junk, V.junk, V.junk, V.junk, V.junk, V.junk, V.junk, V.junk, V.junk, V.junk, V.junk, V.junk, V.junk, V.junk, V.junk, V.junk, V.junk, V.junk, V.junk, V.junk, V.junk, V.junk, V.junk, V.junk, V.junk, V.junk, V.junk, V.junk, V.junk, V.junk, V.junk, V.junk, V.junk, V.junk, V.junk, V.junk, V.junk, V.junk, V.junk] s3)))))))))
 (K (.exit 2) [t0, t1, t2, t3, V.junk, V.junk, V.junk, V.junk, t8, V.junk, V.junk, V.junk, V.junk, V.junk, V.junk, V.junk, V.junk, V.junk, V.junk, V.junk, V.junk, V.junk, V.junk, V.junk, V.junk, V.junk, V.junk, V.junk, V.junk, V.junk, V.junk, V.junk, V.junk, V.junk, V.junk, V.junk, V.junk, V.junk, V.junk, V.junk, V.junk, V.junk, V.junk, V.junk, V.junk, V.junk, V.junk, V.junk, V.junk, V.junk, V.junk, V.junk, V.junk] s)
 False))
noncomputable def slices_insertionSortCmpFuncI_L1 (f88 : V → V → M) (t0 t1 t2 t3 t8 : V) : AS → KX → Prop := fun s K =>
 (optK (binV .lss (some (Kd.int .i64)) false t8 t2) s fun t14 s => (condV t14
 (loopN LOOPS (fun tm s K => slices_insertionSortCmpFuncI_L2 f88 (tm.getD 0 .junk) (tm.getD 1 .junk) (tm.getD 2 .junk) (tm.getD 3 .junk) (tm.getD 8 .junk) (tm.getD 9 .junk) s K) [t0, t1, t2, t3, V.junk, V.junk, V.junk, V.junk, t8, t8, V.junk, V.junk, V.junk, V.junk, V.junk, V.junk, V.junk, V.junk, V.junk, V.junk, V.junk, V.junk, V.junk, V.junk, V.junk, V.junk, V.junk, V.junk, V.junk, V.junk, V.junk, V.junk, V.junk, V.junk, V.junk, V.junk, V.junk, V.junk, V.junk, V.junk, V.junk, V.junk, V.junk, V.junk, V.junk, V.junk, V.junk, V.junk, V.junk, V.junk, V.junk, V.junk, V.junk] s (fun e tm s => exX e (fun j1 => (exB (j1 == 2)
 (optK (binV .add (some (Kd.int .i64)) true (tm.getD 8 .junk) (V.int .i64 1)) s fun t16 s => (K .nrm [(tm.getD 0 .junk), (tm.getD 1 .junk), (tm.getD 2 .junk), (tm.getD 3 .junk), V.junk, V.junk, V.junk, V.junk, t16, V.junk, V.junk, V.junk, V.junk, V.junk, V.junk, V.junk, V.junk, V.junk, V.junk, V.junk, V.junk, V.junk, V.junk, V.junk, V.junk, V.junk, V.junk, V.junk, V.junk, V.junk, V.junk, V.junk, V.junk, V.junk, V.junk, V.junk, V.junk, V.junk, V.junk, V.junk, V.junk, V.junk, V.junk, V.junk, V.junk, V.junk, V.junk, V.junk, V.junk, V.junk, V.junk, V.junk, V.junk] s))
 (exB (j1 == 1)
 (optK (binV .add (some (Kd.int .i64)) true (tm.getD 8 .junk) (V.int .i64 1)) s fun t16 s => (K .nrm [(tm.getD 0 .junk), (tm.getD 1 .junk), (tm.getD 2 .junk), (tm.getD 3 .junk), V.junk, V.junk, V.junk, V.junk, t16, V.junk, V.junk, V.junk, V.junk, V.junk, V.junk, V.junk, V.junk, V.junk, V.junk, V.junk, V.junk, V.junk, V.junk, V.junk, V.junk, V.junk, V.junk, V.junk, V.junk, V.junk, V.junk, V.junk, V.junk, V.junk, V.junk, V.junk, V.junk, V.junk, V.junk, V.junk, V.junk, V.junk, V.junk, V.junk, V.junk, V.junk, V.junk, V.junk, V.junk, V.junk, V.junk, V.junk, V.junk] s))
 (K (.exit j1) [V.junk, V.junk, V.junk, V.junk, V.junk, V.junk, V.junk, V.junk, V.junk, V.junk, V.junk, V.junk, V.junk, V.junk, V.junk, V.junk, V.junk, V.junk, V.junk, V.junk, V.junk, V.junk, V.junk, V.junk, V.junk, V.junk, V.junk, V.junk, V.junk, V.junk, V.junk, V.junk, V.junk, V.junk, V.junk, V.junk, V.junk, V.junk, V.junk, V.junk, V.junk, V.junk, V.junk, V.junk, V.junk, V.junk, V.junk, V.junk, V.junk, V.junk, V.junk, V.junk, V.junk] s)))) (K .ret [V.junk, V.junk, V.junk, V.junk, V.junk, V.junk, V.junk, V.junk, V.junk, V.junk, V.junk, V.junk, V.junk, V.junk, V.junk, V.junk, V.junk, V.junk, V.junk, V.junk, V.junk, V.junk, V.junk, V.junk, V.junk, V.junk, V.junk, V.junk, V.junk, V.junk, V.junk, V.junk, V.junk, V.junk, V.junk, V.junk, V.junk, V.junk, V.junk, V.junk, V.junk, V.junk, V.junk, V.junk, V.junk, V.junk, V.junk, V.junk, V.junk, V.junk, V.junk, V.junk, V.junk] s)))
 (K (.exit 0) [V.junk, V.junk, V.junk, V.junk, V.junk, V.junk, V.junk, V.junk, V.junk, V.junk, V.junk, V.junk, V.junk, V.junk, V.junk, V.junk, V.junk, V.junk, V.junk, V.junk, V.junk, V.junk, V.junk, V.junk, V.junk, V.junk, V.junk, V.junk, V.junk, V.junk, V.junk, V.junk, V.junk, V.junk, V.junk, V.junk, V.junk, V.junk, V.junk, V.junk, V.junk, V.junk, V.junk, V.junk, V.junk, V.junk, V.junk, V.junk, V.junk, V.junk, V.junk, V.junk, V.junk] s)))
noncomputable def slices_insertionSortCmpFuncI_q (f88 : V → V → M) (t0 t1 t2 t3 : V) : M := fun s K =>
 (optK (binV .add (some (Kd.int .i64)) true t1 (V.int .i64 1)) s fun t11 s => (loopN LOOPS (fun tm s K => slices_insertionSortCmpFuncI_L1 f88 (tm.getD 0 .junk) (tm.getD 1 .junk) (tm.getD 2 .junk) (tm.getD 3 .junk) (tm.getD 8 .junk) s K) [t0, t1, t2, t3, V.junk, V.junk, V.junk, V.junk, t11, V.junk, V.junk, V.junk, V.junk, V.junk, V.junk, V.junk, V.junk, V.junk, V.junk, V.junk, V.junk, V.junk, V.junk, V.junk, V.junk, V.junk, V.junk, V.junk, V.junk, V.junk, V.junk, V.junk, V.junk, V.junk, V.junk, V.junk, V.junk, V.junk, V.junk, V.junk, V.junk, V.junk, V.junk, V.junk, V.junk, V.junk, V.junk, V.junk, V.junk, V.junk, V.junk, V.junk, V.junk] s (fun e tm s => exX e (fun j1 => (exB (j1 == 0)
 (K (V.tuple []) s)
 False)) (K (V.tuple []) s))))
noncomputable def slices_insertionSortCmpFuncI : V → V → V → V → M := slices_insertionSortCmpFuncI_q cmp_CompareI
theorem slices_insertionSortCmpFuncI_qe (f88 : V → V → M) (t0 t1 t2 t3 : V) : slices_insertionSortCmpFuncI_q f88 t0 t1 t2 t3 = evF (E166 f88) Tryz.f166 [t0, t1, t2, t3] := by kernel_rfl
theorem slices_insertionSortCmpFuncI_s : SP Tryz.prog 166 (F4 slices_insertionSortCmpFuncI) := mk4 (mkEnv tab (L := L166 cmp_CompareI) ⟨cmp_CompareI_s, trivial⟩) Tryz.func166 (by kernel_rfl) (slices_insertionSortCmpFuncI_qe cmp_CompareI)

/-! 144: slices.pdqsortCmpFunc[int] -/
abbrev N_slices_pdqsortCmpFuncI : FuncId := 144
def L144 (f166 : V → V → V → V → M) : List (Nat × (List V → M)) := [(166, F4 f166)]
def E144 (f166 : V → V → V → V → M) : Env := ⟨ty, tabC (L144 f166), meth, tabL [(2, [0, 1, 2, 3, 4, 10, 11])], tabL [(2, [])]⟩
noncomputable def slices_pdqsortCmpFuncI_L1 (f166 : V → V → V → V → M) (t0 t1 t2 t3 t4 t10 t11 : V) : AS → KX → Prop := fun s K =>
 (optK (binV .sub (some (Kd.int .i64)) false t2 t1) s fun t23 s => (optK (binV .leq (some (Kd.int .i64)) true t23 (V.int .i64 12)) s fun t25 s => (condV t25
 ((f166 t0 t1 t2 t4) s fun t30 s =>
 (K .ret [V.junk, V.junk, V.junk, V.junk, V.junk, V.junk, V.junk, V.junk, V.junk, V.junk, V.junk, V.junk, V.junk, V.junk, V.junk, V.junk, V.junk, V.junk, V.junk, V.junk, V.junk, V.junk, V.junk, V.junk, V.junk, V.junk, V.junk, V.junk, V.junk, V.junk, V.junk, V.junk, V.junk, V.junk, V.junk, V.junk, V.junk, V.junk, V.junk, V.junk, V.junk, V.junk, V.junk, V.junk, V.junk, V.junk, V.junk, V.junk, V.junk, V.junk, V.junk, V.junk, V.junk, V.junk, V.junk, V.junk, V.junk, V.junk, V.junk, V.junk, V.junk, V.junk, V.junk, V.junk, V.junk, V.junk, V.junk, V.junk, V.junk, V.junk, V.junk, V.junk, V.junk, V.junk, V.junk, V.junk, V.junk, V.junk, V.junk, V.junk, V.junk, V.junk, V.junk, V.junk, V.junk, V.junk, V.junk, V.junk, V.junk, V.junk, V.junk, V.junk, V.junk, V.junk, V.junk, V.junk, V.junk, V.junk, V.junk, V.junk, V.junk, V.junk, V.junk, V.junk, V.junk, V.junk, V.junk, V.junk, V.junk, V.junk, V.junk, V.junk, V.junk, V.junk, V.junk, V.junk, V.junk, V.junk, V.junk, V.junk, V.junk, V.junk, V.junk, V.junk, V.junk, V.junk, V.junk, V.junk, V.junk, V.junk, V.junk, V.junk, V.junk, V.junk, V.junk, V.junk, V.junk, V.junk, V.junk, V.junk, V.junk, V.junk, V.junk, V.junk, V.junk, V.junk, V.junk, V.junk] s))
 (optK (binV .eql (some (Kd.int .i64)) true t3 (V.int .i64 0)) s fun t32 s => (condV t32
 False
 (optK (unV .not t10) s fun t39 s => (condV t39
 False
 False)))))))
noncomputable def slices_pdqsortCmpFuncI_q (f166 : V → V → V → V → M) (t0 t1 t2 t3 t4 : V) : M := fun s K =>
 (loopN LOOPS (fun tm s K => slices_pdqsortCmpFuncI_L1 f166 (tm.getD 0 .junk) (tm.getD 1 .junk) (tm.getD 2 .junk) (tm.getD 3 .junk) (tm.getD 4 .junk) (tm.getD 10 .junk) (tm.getD 11 .junk) s K) [t0, t1, t2, t3, t4, V.junk, V.junk, V.junk, V.junk, V.junk, (V.bool true), (V.bool true), V.junk, V.junk, V.junk, V.junk, V.junk, V.junk, V.junk, V.junk, V.junk, V.junk, V.junk, V.junk, V.junk, V.junk, V.junk, V.junk, V.junk, V.junk, V.junk, V.junk, V.junk, V.junk, V.junk, V.junk, V.junk, V.junk, V.junk, V.junk, V.junk, V.junk, V.junk, V.junk, V.junk, V.junk, V.junk, V.junk, V.junk, V.junk, V.junk, V.junk, V.junk, V.junk, V.junk, V.junk, V.junk, V.junk, V.junk, V.junk, V.junk, V.junk, V.junk, V.junk, V.junk, V.junk, V.junk, V.junk, V.junk, V.junk, V.junk, V.junk, V.junk, V.junk, V.junk, V.junk, V.junk, V.junk, V.junk, V.junk, V.junk, V.junk, V.junk, V.junk, V.junk, V.junk, V.junk, V.junk, V.junk, V.junk, V.junk, V.junk, V.junk, V.junk, V.junk, V.junk, V.junk, V.junk, V.junk, V.junk, V.junk, V.junk, V.junk, V.junk, V.junk, V.junk, V.junk, V.junk, V.junk, V.junk, V.junk, V.junk, V.junk, V.junk, V.junk, V.junk, V.junk, V.junk, V.junk, V.junk, V.junk, V.junk, V.junk, V.junk, V.junk, V.junk, V.junk, V.junk, V.junk, V.junk, V.junk, V.junk, V.junk, V.junk, V.junk, V.junk, V.junk, V.junk, V.junk, V.junk, V.junk, V.junk, V.junk, V.junk, V.junk, V.junk, V.junk, V.junk] s (fun e tm s => exX e (fun j1 => (exB (j1 == 0)
 (K (V.tuple []) s)
 False)) (K (V.tuple []) s)))
noncomputable def slices_pdqsortCmpFuncI : V → V → V → V → V → M := slices_pdqsortCmpFuncI_q slices_insertionSortCmpFuncI
theorem slices_pdqsortCmpFuncI_qe (f166 : V → V → V → V → M) (t0 t1 t2 t3 t4 : V) : slices_pdqsortCmpFuncI_q f166 t0 t1 t2 t3 t4 = evF (E144 f166) Tryz.f144 [t0, t1, t2, t3, t4] := by kernel_rfl
theorem slices_pdqsortCmpFuncI_s : SP Tryz.prog 144 (F5 slices_pdqsortCmpFuncI) := mk5 (mkEnv tab (L := L144 slices_insertionSortCmpFuncI) ⟨slices_insertionSortCmpFuncI_s, trivial⟩) Tryz.func144 (by kernel_rfl) (slices_pdqsortCmpFuncI_qe slices_insertionSortCmpFuncI)

/-! 118: slices.SortFunc[[]int,int] -/
abbrev N_slices_SortFuncI : FuncId := 118
def L118 (f143 : V → M) (f144 : V → V → V → V → V → M) : List (Nat × (List V → M)) := [(143, F1 f143), (144, F5 f144)]
def E118 (f143 : V → M) (f144 : V → V → V → V → V → M) : Env := ⟨ty, tabC (L118 f143 f144), meth, tabL [], tabL []⟩
noncomputable def slices_SortFuncI_q (f143 : V → M) (f144 : V → V → V → V → V → M) (t0 t1 : V) : M := fun s K =>
 (optK (lenV (some (Kd.slice 3)) t0) s fun t6 s => ((cvt (Kd.int .i64) (Kd.int .u64) t6) s fun t10 s =>
 ((f143 t10) s fun t11 s =>
 ((f144 t0 (V.int .i64 0) t6 t11 t1) s fun t13 s =>
 (K (V.tuple []) s)))))
noncomputable def slices_SortFuncI : V → V → M := slices_SortFuncI_q math_bits_Len slices_pdqsortCmpFuncI
theorem slices_SortFuncI_qe (f143 : V → M) (f144 : V → V → V → V → V → M) (t0 t1 : V) : slices_SortFuncI_q f143 f144 t0 t1 = evF (E118 f143 f144) Tryz.f118 [t0, t1] := by kernel_rfl
theorem slices_SortFuncI_s : SP Tryz.prog 118 (F2 slices_SortFuncI) := mk2 (mkEnv tab (L := L118 math_bits_Len slices_pdqsortCmpFuncI) ⟨math_bits_Len_s, slices_pdqsortCmpFuncI_s, trivial⟩) Tryz.func118 (by kernel_rfl) (slices_SortFuncI_qe math_bits_Len slices_pdqsortCmpFuncI)

/-! 86: slices.SortedFunc[int] -/
abbrev N_slices_SortedFuncI : FuncId := 86
def L86 (f115 : V → M) (f118 : V → V → M) : List (Nat × (List V → M)) := [(115, F1 f115), (118, F2 f118)]
def E86 (f115 : V → M) (f118 : V → V → M) : Env := ⟨ty, tabC (L86 f115 f118), meth, tabL [], tabL []⟩
noncomputable def slices_SortedFuncI_q (f115 : V → M) (f118 : V → V → M) (t0 t1 : V) : M := fun s K =>
 ((f115 t0) s fun t7 s =>
 ((f118 t7 t1) s fun t10 s =>
 (K t7 s)))
noncomputable def slices_SortedFuncI : V → V → M := slices_SortedFuncI_q slices_CollectI slices_SortFuncI
theorem slices_SortedFuncI_qe (f115 : V → M) (f118 : V → V → M) (t0 t1 : V) : slices_SortedFuncI_q f115 f118 t0 t1 = evF (E86 f115 f118) Tryz.f86 [t0, t1] := by kernel_rfl
theorem slices_SortedFuncI_s : SP Tryz.prog 86 (F2 slices_SortedFuncI) := mk2 (mkEnv tab (L := L86 slices_CollectI slices_SortFuncI) ⟨slices_CollectI_s, slices_SortFuncI_s, trivial⟩) Tryz.func86 (by kernel_rfl) (slices_SortedFuncI_qe slices_CollectI slices_SortFuncI)

/-! 44: slices.Clone[[]int,int] -/
abbrev N_slices_CloneI : FuncId := 44
def L44 : List (Nat × (List V → M)) := []
def E44 : Env := ⟨ty, tabC (L44), meth, tabL [], tabL []⟩
noncomputable def slices_CloneI_q (t0 : V) : M := fun s K =>
 (optK (binV .eql (some (Kd.slice 3)) true t0 (V.slice none 0 0 true)) s fun t4 s => (condV t4
 (K (V.slice none 0 0 true) s)
 ((bsl 1 [(V.int .i64 0)] 0 []) s fun t5 s =>
 ((app 1 8 t5 t0) s fun t7 s =>
 (K t7 s)))))
noncomputable def slices_CloneI : V → M := slices_CloneI_q
theorem slices_CloneI_qe (t0 : V) : slices_CloneI_q t0 = evF (E44) Tryz.f44 [t0] := by kernel_rfl
theorem slices_CloneI_s : SP Tryz.prog 44 (F1 slices_CloneI) := mk1 (mkEnv tab (L := L44) trivial) Tryz.func44 (by kernel_rfl) (slices_CloneI_qe)

/-! 46: (*sealchain/vote.Voter).above -/
abbrev N_vote_Voter_above : FuncId := 46
def L46 (f87 : V → M) (f86 : V → V → M) (f88 : V → V → M) (f44 : V → M) : List (Nat × (List V → M)) := [(87, F1 f87), (86, F2 f86), (88, F2 f88), (44, F1 f44)]
def E46 (f87 : V → M) (f86 : V → V → M) (f88 : V → V → M) (f44 : V → M) : Env := ⟨ty, tabC (L46 f87 f86 f88 f44), meth, tabL [(2, [0, 1, 4, 13, 14, 15])], tabL [(2, [4])]⟩
noncomputable def vote_Voter_above_L1 (f87 : V → M) (f86 : V → V → M) (f88 : V → V → M) (f44 : V → M) (t0 t1 t4 t13 t14 t15 : V) : AS → KX → Prop := fun s K =>
 (optK (binV .lss (some (Kd.int .i64)) false t15 t14) s fun t16 s => (condV t16
 (optK (elemPtr none 1 t13 t15) s fun t17 s => ((ld1 t17) s fun t18 s =>
 (optK (nilV t0) s fun t20 s => (optK (fp 3 t20) s fun t21 s => ((ld1 t21) s fun t22 s =>
 ((lookV (Kd.int .i64) (V.agg [(V.int .i64 0), (V.int .i64 0), (V.int .i64 0), (V.slice none 0 0 true)]) false t22 t18) s fun t24 s =>
 ((newC [(V.int .i64 0), (V.int .i64 0), (V.int .i64 0), (V.slice none 0 0 true)]) s fun t7 s =>
 ((st 4 t7 t24) s fun _ s =>
 (optK (binV .geq (some (Kd.int .i64)) false t18 t1) s fun t27 s => (condV t27
 (optK (fp 1 t7) s fun t28 s => (optK (fp 2 t28) s fun t29 s => ((ld1 t29) s fun t30 s =>
 ((f44 t30) s fun t31 s =>
 (optK (fp 1 t7) s fun t32 s => (optK (fp 2 t32) s fun t33 s => ((st 1 t33 t31) s fun _ s =>
 ((ldA 4 t7) s fun t35 s =>
 ((bsl 4 [(V.int .i64 0), (V.int .i64 0), (V.int .i64 0), (V.slice none 0 0 true)] 1 [(0, t35)]) s fun t36 s =>
 ((app 4 48 t4 t36) s fun t37 s =>
 (optK (binV .add (some (Kd.int .i64)) true t15 (V.int .i64 1)) s fun t38 s => (K .nrm [t0, t1, V.junk, V.junk, t37, V.junk, V.junk, V.junk, V.junk, V.junk, V.junk, V.junk, V.junk, t13, t14, t38, V.junk, V.junk, V.junk, V.junk, V.junk, V.junk, V.junk, V.junk, V.junk, V.junk, V.junk, V.junk, V.junk, V.junk, V.junk, V.junk, V.junk, V.junk, V.junk, V.junk, V.junk, V.junk, V.junk, V.junk] s))))))))))))
 (optK (binV .add (some (Kd.int .i64)) true t15 (V.int .i64 1)) s fun t38 s => (K .nrm [t0, t1, V.junk, V.junk, t4, V.junk, V.junk, V.junk, V.junk, V.junk, V.junk, V.junk, V.junk, t13, t14, t38, V.junk, V.junk, V.junk, V.junk, V.junk, V.junk, V.junk, V.junk, V.junk, V.junk, V.junk, V.junk, V.junk, V.junk, V.junk, V.junk, V.junk, V.junk, V.junk, V.junk, V.junk, V.junk, V.junk, V.junk] s))))))))))))
 (K (.exit 0) [V.junk, V.junk, V.junk, V.junk, t4, V.junk, V.junk, V.junk, V.junk, V.junk, V.junk, V.junk, V.junk, V.junk, V.junk, V.junk, V.junk, V.junk, V.junk, V.junk, V.junk, V.junk, V.junk, V.junk, V.junk, V.junk, V.junk, V.junk, V.junk, V.junk, V.junk, V.junk, V.junk, V.junk, V.junk, V.junk, V.junk, V.junk, V.junk, V.junk] s)))
noncomputable def vote_Voter_above_q (f87 : V → M) (f86 : V → V → M) (f88 : V → V → M) (f44 : V → M) (t0 t1 : V) : M := fun s K =>
 (optK (nilV t0) s fun t9 s => (optK (fp 3 t9) s fun t10 s => ((ld1 t10) s fun t11 s =>
 ((f87 t11) s fun t12 s =>
 ((f86 t12 (V.func (.func 88) [] [])) s fun t13 s =>
 (optK (lenV (some (Kd.slice 3)) t13) s fun t14 s => (loopN LOOPS (fun tm s K => vote_Voter_above_L1 f87 f86 f88 f44 (tm.getD 0 .junk) (tm.getD 1 .junk) (tm.getD 4 .junk) (tm.getD 13 .junk) (tm.getD 14 .junk) (tm.getD 15 .junk) s K) [t0, t1, V.junk, V.junk, (V.slice none 0 0 true), V.junk, V.junk, V.junk, V.junk, V.junk, V.junk, V.junk, V.junk, t13, t14, (V.int .i64 0), V.junk, V.junk, V.junk, V.junk, V.junk, V.junk, V.junk, V.junk, V.junk, V.junk, V.junk, V.junk, V.junk, V.junk, V.junk, V.junk, V.junk, V.junk, V.junk, V.junk, V.junk, V.junk, V.junk, V.junk] s (fun e tm s => exX e (fun j1 => (exB (j1 == 0)
 (K (tm.getD 4 .junk) s)
 False)) (K (tm.getD 4 .junk) s)))))))))
noncomputable def vote_Voter_above : V → V → M := vote_Voter_above_q maps_Keys_mapIapi_Vote_int_api_Vote slices_SortedFuncI cmp_CompareI slices_CloneI
theorem vote_Voter_above_qe (f87 : V → M) (f86 : V → V → M) (f88 : V → V → M) (f44 : V → M) (t0 t1 : V) : vote_Voter_above_q f87 f86 f88 f44 t0 t1 = evF (E46 f87 f86 f88 f44) Tryz.f46 [t0, t1] := by kernel_rfl
theorem vote_Voter_above_s : SP Tryz.prog 46 (F2 vote_Voter_above) := mk2 (mkEnv tab (L := L46 maps_Keys_mapIapi_Vote_int_api_Vote slices_SortedFuncI cmp_CompareI slices_CloneI) ⟨maps_Keys_mapIapi_Vote_int_api_Vote_s, slices_SortedFuncI_s, cmp_CompareI_s, slices_CloneI_s, trivial⟩) Tryz.func46 (by kernel_rfl) (vote_Voter_above_qe maps_Keys_mapIapi_Vote_int_api_Vote slices_SortedFuncI cmp_CompareI slices_CloneI)

/-! 14: (*sealchain/vote.Voter).Prepare -/
abbrev N_vote_Voter_Prepare : FuncId := 14
def L14 (f40 : V → M) (f41 : V → M) (f45 : V → V → M) (f46 : V → V → M) : List (Nat × (List V → M)) := [(40, F1 f40), (41, F1 f41), (45, F2 f45), (46, F2 f46)]
def E14 (f40 : V → M) (f41 : V → M) (f45 : V → V → M) (f46 : V → V → M) : Env := ⟨ty, tabC (L14 f40 f41 f45 f46), meth, tabL [], tabL []⟩
noncomputable def vote_Voter_Prepare_q (f40 : V → M) (f41 : V → M) (f45 : V → V → M) (f46 : V → V → M) (t0 t1 t2 : V) : M := fun s K =>
 ((f40 t0) s fun t12 s =>
 (optK (binV .neq (some (Kd.int .i64)) true t12 (V.int .i64 0)) s fun t14 s => (condV t14
 (K (V.tuple [(V.slice none 0 0 true), (V.bool false), t12]) s)
 ((f41 t1) s fun t18 s =>
 (optK (unV .not t18) s fun t19 s => (condV t19
 (condV t19
 (K (V.tuple [(V.slice none 0 0 true), (V.bool false), (V.int .i64 2)]) s)
 (optK (nilV t0) s fun t26 s => (optK (fp 1 t26) s fun t27 s => ((ld1 t27) s fun t28 s =>
 (optK (binV .lss (some (Kd.int .i64)) false t1 t28) s fun t29 s => (condV t29
 (K (V.tuple [(V.slice none 0 0 true), (V.bool false), (V.int .i64 0)]) s)
 (optK (nilV t0) s fun t33 s => (optK (fp 1 t33) s fun t34 s => ((ld1 t34) s fun t35 s =>
 (optK (binV .gtr (some (Kd.int .i64)) false t1 t35) s fun t36 s => (condV t36
 ((f45 t0 (V.iface 93 t1)) s fun t40 s =>
 (optK (binV .neq (some (Kd.int .i64)) true t40 (V.int .i64 0)) s fun t42 s => (condV t42
 (K (V.tuple [(V.slice none 0 0 true), (V.bool false), t40]) s)
 ((f46 t0 t2) s fun t46 s =>
 (K (V.tuple [t46, (V.bool true), (V.int .i64 0)]) s)))))
 ((f46 t0 t2) s fun t46 s =>
 (K (V.tuple [t46, (V.bool true), (V.int .i64 0)]) s)))))))))))))
 ((f41 t2) s fun t21 s =>
 (optK (unV .not t21) s fun t22 s => (condV t22
 (K (V.tuple [(V.slice none 0 0 true), (V.bool false), (V.int .i64 2)]) s)
 (optK (nilV t0) s fun t26 s => (optK (fp 1 t26) s fun t27 s => ((ld1 t27) s fun t28 s =>
 (optK (binV .lss (some (Kd.int .i64)) false t1 t28) s fun t29 s => (condV t29
 (K (V.tuple [(V.slice none 0 0 true), (V.bool false), (V.int .i64 0)]) s)
 (optK (nilV t0) s fun t33 s => (optK (fp 1 t33) s fun t34 s => ((ld1 t34) s fun t35 s =>
 (optK (binV .gtr (some (Kd.int .i64)) false t1 t35) s fun t36 s => (condV t36
 ((f45 t0 (V.iface 93 t1)) s fun t40 s =>
 (optK (binV .neq (some (Kd.int .i64)) true t40 (V.int .i64 0)) s fun t42 s => (condV t42
 (K (V.tuple [(V.slice none 0 0 true), (V.bool false), t40]) s)
 ((f46 t0 t2) s fun t46 s =>
 (K (V.tuple [t46, (V.bool true), (V.int .i64 0)]) s)))))
 ((f46 t0 t2) s fun t46 s =>
 (K (V.tuple [t46, (V.bool true), (V.int .i64 0)]) s)))))))))))))))))))))
noncomputable def vote_Voter_Prepare : V → V → V → M := vote_Voter_Prepare_q vote_Voter_live vote_number vote_Voter_writes vote_Voter_above
theorem vote_Voter_Prepare_qe (f40 : V → M) (f41 : V → M) (f45 : V → V → M) (f46 : V → V → M) (t0 t1 t2 : V) : vote_Voter_Prepare_q f40 f41 f45 f46 t0 t1 t2 = evF (E14 f40 f41 f45 f46) Tryz.f14 [t0, t1, t2] := by kernel_rfl
theorem vote_Voter_Prepare_s : SP Tryz.prog 14 (F3 vote_Voter_Prepare) := mk3 (mkEnv tab (L := L14 vote_Voter_live vote_number vote_Voter_writes vote_Voter_above) ⟨vote_Voter_live_s, vote_number_s, vote_Voter_writes_s, vote_Voter_above_s, trivial⟩) Tryz.func14 (by kernel_rfl) (vote_Voter_Prepare_qe vote_Voter_live vote_number vote_Voter_writes vote_Voter_above)

/-! 10: sealchain/sealchainref00.Bring -/
abbrev N_sealchainref00_Bring : FuncId := 10
def L10 : List (Nat × (List V → M)) := []
def E10 : Env := ⟨ty, tabC (L10), meth, tabL [], tabL []⟩
noncomputable def sealchainref00_Bring_q (t0 t1 : V) : M := fun s K =>
 (optK (binV .rem (some (Kd.int .i64)) false t0 t1) s fun t7 s => (optK (binV .lss (some (Kd.int .i64)) true t7 (V.int .i64 0)) s fun t9 s => (condV t9
 (optK (binV .add (some (Kd.int .i64)) false t7 t1) s fun t12 s => (K t12 s))
 (K t7 s))))
noncomputable def sealchainref00_Bring : V → V → M := sealchainref00_Bring_q
theorem sealchainref00_Bring_qe (t0 t1 : V) : sealchainref00_Bring_q t0 t1 = evF (E10) Tryz.f10 [t0, t1] := by kernel_rfl
theorem sealchainref00_Bring_s : SP Tryz.prog 10 (F2 sealchainref00_Bring) := mk2 (mkEnv tab (L := L10) trivial) Tryz.func10 (by kernel_rfl) (sealchainref00_Bring_qe)

/-! 13: sealchain/sealchainlaw15.conf -/
abbrev N_sealchainlaw15_conf : FuncId := 13
def L13 (f10 : V → V → M) : List (Nat × (List V → M)) := [(10, F2 f10)]
def E13 (f10 : V → V → M) : Env := ⟨ty, tabC (L13 f10), meth, tabL [], tabL []⟩
noncomputable def sealchainlaw15_conf_q (f10 : V → V → M) (t0 t1 : V) : M := fun s K =>
 ((newC [(V.int .i64 0), (V.int .i64 0), (V.slice none 0 0 true)]) s fun t4 s =>
 ((f10 t1 (V.int .i64 4)) s fun t7 s =>
 (optK (binV .add (some (Kd.int .i64)) true (V.int .i64 10) t7) s fun t8 s => ((bsl 1 [(V.int .i64 0)] 1 [(0, t8)]) s fun t9 s =>
 (optK (aggO (fillV (placeS [(0, 3), (1, 3), (2, 35)] ty) [(V.int .i64 0), (V.int .i64 0), (V.slice none 0 0 true)] [(0, t0), (1, (V.int .i64 1)), (2, t9)])) s fun t10 s => ((st 3 t4 t10) s fun _ s =>
 (rfin (rcons (peek ti37 t4 s) (some [])) s K)))))))
noncomputable def sealchainlaw15_conf : V → V → M := sealchainlaw15_conf_q sealchainref00_Bring
theorem sealchainlaw15_conf_qe (f10 : V → V → M) (t0 t1 : V) : sealchainlaw15_conf_q f10 t0 t1 = evF (E13 f10) Tryz.f13 [t0, t1] := by kernel_rfl
theorem sealchainlaw15_conf_s : SP Tryz.prog 13 (F2 sealchainlaw15_conf) := mk2 (mkEnv tab (L := L13 sealchainref00_Bring) ⟨sealchainref00_Bring_s, trivial⟩) Tryz.func13 (by kernel_rfl) (sealchainlaw15_conf_qe sealchainref00_Bring)

/-! 12: (*sealchain/vote.Voter).Accept -/
abbrev N_vote_Voter_Accept : FuncId := 12
def L12 (f40 : V → M) (f41 : V → M) (f42 : V → M) (f43 : V → V → M) (f44 : V → M) (f45 : V → V → M) : List (Nat × (List V → M)) := [(40, F1 f40), (41, F1 f41), (42, F1 f42), (43, F2 f43), (44, F1 f44), (45, F2 f45)]
def E12 (f40 : V → M) (f41 : V → M) (f42 : V → M) (f43 : V → V → M) (f44 : V → M) (f45 : V → V → M) : Env := ⟨ty, tabC (L12 f40 f41 f42 f43 f44 f45), meth, tabL [], tabL []⟩
noncomputable def vote_Voter_Accept_q (f40 : V → M) (f41 : V → M) (f42 : V → M) (f43 : V → V → M) (f44 : V → M) (f45 : V → V → M) (t0 t1 t2 : V) : M := fun s K =>
 ((boxV t2) s fun t5 s =>
 ((f40 t0) s fun t10 s =>
 (optK (binV .neq (some (Kd.int .i64)) true t10 (V.int .i64 0)) s fun t12 s => (condV t12
 (K (V.tuple [(V.bool false), t10]) s)
 ((f41 t1) s fun t16 s =>
 (optK (unV .not t16) s fun t17 s => (condV t17
 (condV t17
 (K (V.tuple [(V.bool false), (V.int .i64 2)]) s)
 (optK (nilV t0) s fun t24 s => (optK (fp 1 t24) s fun t25 s => ((ld1 t25) s fun t26 s =>
 (optK (binV .lss (some (Kd.int .i64)) false t1 t26) s fun t27 s => (condV t27
 (condV t27
 (K (V.tuple [(V.bool false), (V.int .i64 0)]) s)
 (optK (fp 0 t5) s fun t37 s => ((ld1 t37) s fun t38 s =>
 ((f43 t0 t38) s fun t39 s =>
 (optK (unV .not t39) s fun t40 s => (condV t40
 (K (V.tuple [(V.bool false), (V.int .i64 5)]) s)
 (optK (fp 2 t5) s fun t41 s => ((ld1 t41) s fun t42 s =>
 ((f44 t42) s fun t43 s =>
 (optK (fp 2 t5) s fun t44 s => ((st 1 t44 t43) s fun _ s =>
 ((ldA 3 t5) s fun t47 s =>
 (optK (aggO (fillV (placeS [(0, 3), (1, 37)] ty) [(V.int .i64 0), (V.int .i64 0), (V.int .i64 0), (V.slice none 0 0 true)] [(0, t1), (1, t47)])) s fun t48 s => ((f45 t0 (V.iface 92 t48)) s fun t50 s =>
 (optK (binV .eql (some (Kd.int .i64)) true t50 (V.int .i64 0)) s fun t52 s => (K (V.tuple [t52, t50]) s))))))))))))))))
 (optK (fp 0 t5) s fun t28 s => ((ld1 t28) s fun t29 s1 =>
 (optK (nilV t0) s1 fun t31 s1 => (optK (fp 2 t31) s1 fun t32 s1 => ((ld1 t32) s1 fun t33 s2 =>
 (optK (binV .lss (some (Kd.int .i64)) false t29 t33) s2 fun t34 s2 => (condV t34
 (K (V.tuple [(V.bool false), (V.int .i64 0)]) s2)
 (optK (fp 0 t5) s2 fun t37 s2 => ((ld1 t37) s2 fun t38 s2 =>
 ((f43 t0 t38) s2 fun t39 s2 =>
 (optK (unV .not t39) s2 fun t40 s2 => (condV t40
 (K (V.tuple [(V.bool false), (V.int .i64 5)]) s2)
 (optK (fp 2 t5) s2 fun t41 s2 => ((ld1 t41) s2 fun t42 s2 =>
 ((f44 t42) s2 fun t43 s2 =>
 (optK (fp 2 t5) s2 fun t44 s2 => ((st 1 t44 t43) s2 fun _ s2 =>
 ((ldA 3 t5) s2 fun t47 s2 =>
 (optK (aggO (fillV (placeS [(0, 3), (1, 37)] ty) [(V.int .i64 0), (V.int .i64 0), (V.int .i64 0), (V.slice none 0 0 true)] [(0, t1), (1, t47)])) s2 fun t48 s2 => ((f45 t0 (V.iface 92 t48)) s2 fun t50 s2 =>
 (optK (binV .eql (some (Kd.int .i64)) true t50 (V.int .i64 0)) s2 fun t52 s2 => (K (V.tuple [t52, t50]) s2))))))))))))))))))))))))))))
 ((ldA 3 t5) s fun t18 s =>
 ((f42 t18) s fun t19 s =>
 (optK (binV .neq (some (Kd.int .i64)) true t19 (V.int .i64 0)) s fun t20 s => (condV t20
 (K (V.tuple [(V.bool false), (V.int .i64 2)]) s)
 (optK (nilV t0) s fun t24 s => (optK (fp 1 t24) s fun t25 s => ((ld1 t25) s fun t26 s =>
 (optK (binV .lss (some (Kd.int .i64)) false t1 t26) s fun t27 s => (condV t27
 (condV t27
 (K (V.tuple [(V.bool false), (V.int .i64 0)]) s)
 (optK (fp 0 t5) s fun t37 s => ((ld1 t37) s fun t38 s =>
 ((f43 t0 t38) s fun t39 s =>
 (optK (unV .not t39) s fun t40 s => (condV t40
 (K (V.tuple [(V.bool false), (V.int .i64 5)]) s)
 (optK (fp 2 t5) s fun t41 s => ((ld1 t41) s fun t42 s =>
 ((f44 t42) s fun t43 s =>
 (optK (fp 2 t5) s fun t44 s => ((st 1 t44 t43) s fun _ s =>
 ((ldA 3 t5) s fun t47 s =>
 (optK (aggO (fillV (placeS [(0, 3), (1, 37)] ty) [(V.int .i64 0), (V.int .i64 0), (V.int .i64 0), (V.slice none 0 0 true)] [(0, t1), (1, t47)])) s fun t48 s => ((f45 t0 (V.iface 92 t48)) s fun t50 s =>
 (optK (binV .eql (some (Kd.int .i64)) true t50 (V.int .i64 0)) s fun t52 s => (K (V.tuple [t52, t50]) s))))))))))))))))
 (optK (fp 0 t5) s fun t28 s => ((ld1 t28) s fun t29 s3 =>
 (optK (nilV t0) s3 fun t31 s3 => (optK (fp 2 t31) s3 fun t32 s3 => ((ld1 t32) s3 fun t33 s4 =>
 (optK (binV .lss (some (Kd.int .i64)) false t29 t33) s4 fun t34 s4 => (condV t34
 (K (V.tuple [(V.bool false), (V.int .i64 0)]) s4)
 (optK (fp 0 t5) s4 fun t37 s4 => ((ld1 t37) s4 fun t38 s4 =>
 ((f43 t0 t38) s4 fun t39 s4 =>
 (optK (unV .not t39) s4 fun t40 s4 => (condV t40
 (K (V.tuple [(V.bool false), (V.int .i64 5)]) s4)
 (optK (fp 2 t5) s4 fun t41 s4 => ((ld1 t41) s4 fun t42 s4 =>
 ((f44 t42) s4 fun t43 s4 =>
 (optK (fp 2 t5) s4 fun t44 s4 => ((st 1 t44 t43) s4 fun _ s4 =>
 ((ldA 3 t5) s4 fun t47 s4 =>
 (optK (aggO (fillV (placeS [(0, 3), (1, 37)] ty) [(V.int .i64 0), (V.int .i64 0), (V.int .i64 0), (V.slice none 0 0 true)] [(0, t1), (1, t47)])) s4 fun t48 s4 => ((f45 t0 (V.iface 92 t48)) s4 fun t50 s4 =>
 (optK (binV .eql (some (Kd.int .i64)) true t50 (V.int .i64 0)) s4 fun t52 s4 => (K (V.tuple [t52, t50]) s4))))))))))))))))))))))))))))))))))))))
noncomputable def vote_Voter_Accept : V → V → V → M := vote_Voter_Accept_q vote_Voter_live vote_number pack_CheckConf vote_Voter_room slices_CloneI vote_Voter_writes
theorem vote_Voter_Accept_qe (f40 : V → M) (f41 : V → M) (f42 : V → M) (f43 : V → V → M) (f44 : V → M) (f45 : V → V → M) (t0 t1 t2 : V) : vote_Voter_Accept_q f40 f41 f42 f43 f44 f45 t0 t1 t2 = evF (E12 f40 f41 f42 f43 f44 f45) Tryz.f12 [t0, t1, t2] := by kernel_rfl
theorem vote_Voter_Accept_s : SP Tryz.prog 12 (F3 vote_Voter_Accept) := mk3 (mkEnv tab (L := L12 vote_Voter_live vote_number pack_CheckConf vote_Voter_room slices_CloneI vote_Voter_writes) ⟨vote_Voter_live_s, vote_number_s, pack_CheckConf_s, vote_Voter_room_s, slices_CloneI_s, vote_Voter_writes_s, trivial⟩) Tryz.func12 (by kernel_rfl) (vote_Voter_Accept_qe vote_Voter_live vote_number pack_CheckConf vote_Voter_room slices_CloneI vote_Voter_writes)

/-! 98: (*sealchain/disk.Disk).Swap -/
abbrev N_disk_Disk_Swap : FuncId := 98
def L98 (f52 : V → M) (f53 : V → M) (f38 : V → M) (f61 : V → V → M) : List (Nat × (List V → M)) := [(52, F1 f52), (53, F1 f53), (38, F1 f38), (61, F2 f61)]
def E98 (f52 : V → M) (f53 : V → M) (f38 : V → M) (f61 : V → V → M) : Env := ⟨ty, tabC (L98 f52 f53 f38 f61), meth, tabL [], tabL []⟩
noncomputable def disk_Disk_Swap_q (f52 : V → M) (f53 : V → M) (f38 : V → M) (f61 : V → V → M) (t0 t1 : V) : M := fun s K =>
 ((f52 t0) s fun t7 s =>
 (optK (binV .neq (some (Kd.int .i64)) true t7 (V.int .i64 0)) s fun t9 s => (condV t9
 (K t7 s)
 (optK (lenV (some (Kd.slice 5)) t1) s fun t12 s => (optK (binV .gtr (some (Kd.int .i64)) true t12 (V.int .i64 1048576)) s fun t13 s => (condV t13
 (K (V.int .i64 5) s)
 (optK (nilV t0) s fun t15 s => (optK (fp 3 t15) s fun t16 s => ((ld1 t16) s fun t17 s =>
 ((callV (E98 f52 f53 f38 f61) t17 [t0]) s fun t19 s =>
 (optK (unV .not t19) s fun t20 s => (condV t20
 (K (V.int .i64 130) s)
 ((f53 t1) s fun t24 s =>
 (optK (lenV (some (Kd.slice 5)) t1) s fun t26 s => (optK (nilV t0) s fun t27 s => (optK (fp 0 t27) s fun t28 s => ((st 1 t28 t24) s fun _ s =>
 (optK (nilV t0) s fun t29 s => (optK (fp 1 t29) s fun t30 s => ((st 1 t30 t26) s fun _ s =>
 (optK (nilV t0) s fun t33 s => (optK (fp 4 t33) s fun t34 s => ((ld1 t34) s fun t35 s1 =>
 ((f53 t1) s1 fun t37 s2 =>
 (chkB (holds ti52 t34 s2 t35) ((bsl 1 [(V.slice none 0 0 true)] 1 [(0, t37)]) s2 fun t38 s3 =>
 (chkB (holds ti52 t34 s3 t35) ((app 1 24 t35 t38) s3 fun t39 s4 =>
 (optK (nilV t0) s4 fun t40 s4 => (optK (fp 4 t40) s4 fun t41 s4 => ((st 1 t41 t39) s4 fun _ s5 =>
 (K (V.int .i64 0) s5))))))))))))))))))))))))))))))))
noncomputable def disk_Disk_Swap : V → V → M := disk_Disk_Swap_q disk_Disk_live disk_copied disk_always disk_Disk_Arm_1
theorem disk_Disk_Swap_qe (f52 : V → M) (f53 : V → M) (f38 : V → M) (f61 : V → V → M) (t0 t1 : V) : disk_Disk_Swap_q f52 f53 f38 f61 t0 t1 = evF (E98 f52 f53 f38 f61) Tryz.f98 [t0, t1] := by kernel_rfl
theorem disk_Disk_Swap_s : SP Tryz.prog 98 (F2 disk_Disk_Swap) := mk2 (mkEnv tab (L := L98 disk_Disk_live disk_copied disk_always disk_Disk_Arm_1) ⟨disk_Disk_live_s, disk_copied_s, disk_always_s, disk_Disk_Arm_1_s, trivial⟩) Tryz.func98 (by kernel_rfl) (disk_Disk_Swap_qe disk_Disk_live disk_copied disk_always disk_Disk_Arm_1)

/-! 50: (*sealchain/wal.Log).Swap -/
abbrev N_wal_Log_Swap : FuncId := 50
def L50 (f95 : V → M) (f96 : V → M) (f98 : V → V → M) (f97 : V → V → M) (f68 : V → M) : List (Nat × (List V → M)) := [(95, F1 f95), (96, F1 f96), (98, F2 f98), (97, F2 f97), (68, F1 f68)]
def E50 (f95 : V → M) (f96 : V → M) (f98 : V → V → M) (f97 : V → V → M) (f68 : V → M) : Env := ⟨ty, tabC (L50 f95 f96 f98 f97 f68), meth, tabL [], tabL []⟩
noncomputable def wal_Log_Swap_q (f95 : V → M) (f96 : V → M) (f98 : V → V → M) (f97 : V → V → M) (f68 : V → M) (t0 t1 : V) : M := fun s K =>
 ((f95 t0) s fun t10 s =>
 (optK (binV .neq (some (Kd.int .i64)) true t10 (V.int .i64 0)) s fun t12 s => (condV t12
 (K t10 s)
 ((f96 t1) s fun t16 s =>
 (optK (extractV t16 0) s fun t17 s => (optK (extractV t16 1) s fun t18 s => (optK (binV .neq (some (Kd.int .i64)) true t18 (V.int .i64 0)) s fun t20 s => (condV t20
 (K t18 s)
 (optK (nilV t0) s fun t24 s => (optK (fp 0 t24) s fun t25 s => ((ld1 t25) s fun t26 s =>
 ((f98 t26 t17) s fun t28 s =>
 ((f97 t0 t28) s fun t29 s =>
 (optK (binV .neq (some (Kd.int .i64)) true t29 (V.int .i64 0)) s fun t31 s => (condV t31
 (K t29 s)
 ((f68 t1) s fun t35 s =>
 (optK (nilV t0) s fun t36 s => (optK (fp 1 t36) s fun t37 s => ((st 1 t37 t35) s fun _ s =>
 (K (V.int .i64 0) s))))))))))))))))))))
noncomputable def wal_Log_Swap : V → V → M := wal_Log_Swap_q wal_Log_live wal_records disk_Disk_Swap wal_Log_did wal_copied
theorem wal_Log_Swap_qe (f95 : V → M) (f96 : V → M) (f98 : V → V → M) (f97 : V → V → M) (f68 : V → M) (t0 t1 : V) : wal_Log_Swap_q f95 f96 f98 f97 f68 t0 t1 = evF (E50 f95 f96 f98 f97 f68) Tryz.f50 [t0, t1] := by kernel_rfl
theorem wal_Log_Swap_s : SP Tryz.prog 50 (F2 wal_Log_Swap) := mk2 (mkEnv tab (L := L50 wal_Log_live wal_records disk_Disk_Swap wal_Log_did wal_copied) ⟨wal_Log_live_s, wal_records_s, disk_Disk_Swap_s, wal_Log_did_s, wal_copied_s, trivial⟩) Tryz.func50 (by kernel_rfl) (wal_Log_Swap_qe wal_Log_live wal_records disk_Disk_Swap wal_Log_did wal_copied)

/-! 17: (*sealchain/vote.Voter).Forget -/
abbrev N_vote_Voter_Forget : FuncId := 17
def L17 (f40 : V → M) (f41 : V → M) (f47 : V → M) (f48 : V → M) (f46 : V → V → M) (f49 : V → M) (f50 : V → V → M) (f36 : V → V → M) : List (Nat × (List V → M)) := [(40, F1 f40), (41, F1 f41), (47, F1 f47), (48, F1 f48), (46, F2 f46), (49, F1 f49), (50, F2 f50), (36, F2 f36)]
def E17 (f40 : V → M) (f41 : V → M) (f47 : V → M) (f48 : V → M) (f46 : V → V → M) (f49 : V → M) (f50 : V → V → M) (f36 : V → V → M) : Env := ⟨ty, tabC (L17 f40 f41 f47 f48 f46 f49 f50 f36), meth, tabL [(13, [0, 1, 6, 46, 47, 48])], tabL [(13, [0, 1, 6])]⟩
noncomputable def vote_Voter_Forget_L1 (f40 : V → M) (f41 : V → M) (f47 : V → M) (f48 : V → M) (f46 : V → V → M) (f49 : V → M) (f50 : V → V → M) (f36 : V → V → M) (t0 t1 t6 t46 t47 t48 : V) : AS → KX → Prop := fun s K =>
 (optK (binV .lss (some (Kd.int .i64)) false t48 t47) s fun t49 s => (condV t49
 (optK (elemPtr none 4 t46 t48) s fun t50 s => ((ldA 4 t50) s fun t51 s =>
 ((newC [(V.int .i64 0), (V.int .i64 0), (V.int .i64 0), (V.slice none 0 0 true)]) s fun t8 s =>
 ((st 4 t8 t51) s fun _ s =>
 ((ldA 4 t8) s fun t53 s =>
 ((f49 t53) s fun t54 s =>
 ((bsl 1 [(V.slice none 0 0 true)] 1 [(0, t54)]) s fun t55 s =>
 ((app 1 24 t6 t55) s fun t56 s =>
 (optK (binV .add (some (Kd.int .i64)) true t48 (V.int .i64 1)) s fun t57 s => (K .nrm [t0, t1, V.junk, V.junk, V.junk, V.junk, t56, V.junk, V.junk, V.junk, V.junk, V.junk, V.junk, V.junk, V.junk, V.junk, V.junk, V.junk, V.junk, V.junk, V.junk, V.junk, V.junk, V.junk, V.junk, V.junk, V.junk, V.junk, V.junk, V.junk, V.junk, V.junk, V.junk, V.junk, V.junk, V.junk, V.junk, V.junk, V.junk, V.junk, V.junk, V.junk, V.junk, V.junk, V.junk, V.junk, t46, t47, t57, V.junk, V.junk, V.junk, V.junk, V.junk, V.junk, V.junk, V.junk, V.junk, V.junk, V.junk, V.junk, V.junk, V.junk, V.junk, V.junk, V.junk, V.junk, V.junk, V.junk, V.junk, V.junk] s))))))))))
 (K (.exit 1) [t0, t1, V.junk, V.junk, V.junk, V.junk, t6, V.junk, V.junk, V.junk, V.junk, V.junk, V.junk, V.junk, V.junk, V.junk, V.junk, V.junk, V.junk, V.junk, V.junk, V.junk, V.junk, V.junk, V.junk, V.junk, V.junk, V.junk, V.junk, V.junk, V.junk, V.junk, V.junk, V.junk, V.junk, V.junk, V.junk, V.junk, V.junk, V.junk, V.junk, V.junk, V.junk, V.junk, V.junk, V.junk, V.junk, V.junk, V.junk, V.junk, V.junk, V.junk, V.junk, V.junk, V.junk, V.junk, V.junk, V.junk, V.junk, V.junk, V.junk, V.junk, V.junk, V.junk, V.junk, V.junk, V.junk, V.junk, V.junk, V.junk, V.junk] s)))
noncomputable def vote_Voter_Forget_q (f40 : V → M) (f41 : V → M) (f47 : V → M) (f48 : V → M) (f46 : V → V → M) (f49 : V → M) (f50 : V → V → M) (f36 : V → V → M) (t0 t1 : V) : M := fun s K =>
 ((f40 t0) s fun t11 s =>
 (optK (binV .neq (some (Kd.int .i64)) true t11 (V.int .i64 0)) s fun t13 s => (condV t13
 (K t11 s)
 ((f41 t1) s fun t17 s =>
 (optK (unV .not t17) s fun t18 s => (condV t18
 (K (V.int .i64 2) s)
 (optK (nilV t0) s fun t22 s => (optK (fp 2 t22) s fun t23 s => ((ld1 t23) s fun t24 s =>
 (optK (binV .leq (some (Kd.int .i64)) false t1 t24) s fun t25 s => (condV t25
 (K (V.int .i64 0) s)
 (optK (nilV t0) s fun t27 s => (optK (fp 1 t27) s fun t28 s => ((ld1 t28) s fun t29 s =>
 (optK (binV .gtr (some (Kd.int .i64)) true t29 (V.int .i64 0)) s fun t30 s => (condV t30
 (optK (nilV t0) s fun t33 s => (optK (fp 1 t33) s fun t34 s => ((ld1 t34) s fun t35 s =>
 ((f47 t35) s fun t36 s =>
 ((bsl 1 [(V.slice none 0 0 true)] 1 [(0, t36)]) s fun t37 s =>
 ((app 1 24 (V.slice none 0 0 true) t37) s fun t38 s =>
 ((f48 t1) s fun t41 s =>
 ((bsl 1 [(V.slice none 0 0 true)] 1 [(0, t41)]) s fun t42 s =>
 ((app 1 24 t38 t42) s fun t43 s =>
 ((f46 t0 t1) s fun t46 s =>
 (optK (lenV (some (Kd.slice 43)) t46) s fun t47 s => (loopN LOOPS (fun tm s K => vote_Voter_Forget_L1 f40 f41 f47 f48 f46 f49 f50 f36 (tm.getD 0 .junk) (tm.getD 1 .junk) (tm.getD 6 .junk) (tm.getD 46 .junk) (tm.getD 47 .junk) (tm.getD 48 .junk) s K) [t0, t1, V.junk, V.junk, V.junk, V.junk, t43, V.junk, V.junk, V.junk, V.junk, V.junk, V.junk, V.junk, V.junk, V.junk, V.junk, V.junk, V.junk, V.junk, V.junk, V.junk, V.junk, V.junk, V.junk, V.junk, V.junk, V.junk, V.junk, V.junk, V.junk, V.junk, V.junk, V.junk, V.junk, V.junk, V.junk, V.junk, V.junk, V.junk, V.junk, V.junk, V.junk, V.junk, V.junk, V.junk, t46, t47, (V.int .i64 0), V.junk, V.junk, V.junk, V.junk, V.junk, V.junk, V.junk, V.junk, V.junk, V.junk, V.junk, V.junk, V.junk, V.junk, V.junk, V.junk, V.junk, V.junk, V.junk, V.junk, V.junk, V.junk] s (fun e tm s => exX e (fun j1 => (exB (j1 == 1)
 (optK (nilV (tm.getD 0 .junk)) s fun t59 s => (optK (fp 0 t59) s fun t60 s => ((ld1 t60) s fun t61 s =>
 ((f50 t61 (tm.getD 6 .junk)) s fun t63 s =>
 (optK (binV .neq (some (Kd.int .i64)) true t63 (V.int .i64 0)) s fun t65 s => (condV t65
 (K t63 s)
 ((f36 (tm.getD 0 .junk) (V.iface 96 (tm.getD 1 .junk))) s fun t70 s =>
 (K (V.int .i64 0) s))))))))
 False)) (K V.junk s))))))))))))))
 ((f48 t1) s fun t41 s =>
 ((bsl 1 [(V.slice none 0 0 true)] 1 [(0, t41)]) s fun t42 s =>
 ((app 1 24 (V.slice none 0 0 true) t42) s fun t43 s =>
 ((f46 t0 t1) s fun t46 s =>
 (optK (lenV (some (Kd.slice 43)) t46) s fun t47 s => (loopN LOOPS (fun tm s K => vote_Voter_Forget_L1 f40 f41 f47 f48 f46 f49 f50 f36 (tm.getD 0 .junk) (tm.getD 1 .junk) (tm.getD 6 .junk) (tm.getD 46 .junk) (tm.getD 47 .junk) (tm.getD 48 .junk) s K) [t0, t1, V.junk, V.junk, V.junk, V.junk, t43, V.junk, V.junk, V.junk, V.junk, V.junk, V.junk, V.junk, V.junk, V.junk, V.junk, V.junk, V.junk, V.junk, V.junk, V.junk, V.junk, V.junk, V.junk, V.junk, V.junk, V.junk, V.junk, V.junk, V.junk, V.junk, V.junk, V.junk, V.junk, V.junk, V.junk, V.junk, V.junk, V.junk, V.junk, V.junk, V.junk, V.junk, V.junk, V.junk, t46, t47, (V.int .i64 0), V.junk, V.junk, V.junk, V.junk, V.junk, V.junk, V.junk, V.junk, V.junk, V.junk, V.junk, V.junk, V.junk, V.junk, V.junk, V.junk, V.junk, V.junk, V.junk, V.junk, V.junk, V.junk] s (fun e tm s => exX e (fun j1 => (exB (j1 == 1)
 (optK (nilV (tm.getD 0 .junk)) s fun t59 s => (optK (fp 0 t59) s fun t60 s => ((ld1 t60) s fun t61 s =>
 ((f50 t61 (tm.getD 6 .junk)) s fun t63 s =>
 (optK (binV .neq (some (Kd.int .i64)) true t63 (V.int .i64 0)) s fun t65 s => (condV t65
 (K t63 s)
 ((f36 (tm.getD 0 .junk) (V.iface 96 (tm.getD 1 .junk))) s fun t70 s =>
 (K (V.int .i64 0) s))))))))
 False)) (K V.junk s))))))))))))))))))))))))
noncomputable def vote_Voter_Forget : V → V → M := vote_Voter_Forget_q vote_Voter_live vote_number vote_promise_bytes vote_floored_bytes vote_Voter_above vote_voted_bytes wal_Log_Swap vote_Voter_does
theorem vote_Voter_Forget_qe (f40 : V → M) (f41 : V → M) (f47 : V → M) (f48 : V → M) (f46 : V → V → M) (f49 : V → M) (f50 : V → V → M) (f36 : V → V → M) (t0 t1 : V) : vote_Voter_Forget_q f40 f41 f47 f48 f46 f49 f50 f36 t0 t1 = evF (E17 f40 f41 f47 f48 f46 f49 f50 f36) Tryz.f17 [t0, t1] := by kernel_rfl
theorem vote_Voter_Forget_s : SP Tryz.prog 17 (F2 vote_Voter_Forget) := mk2 (mkEnv tab (L := L17 vote_Voter_live vote_number vote_promise_bytes vote_floored_bytes vote_Voter_above vote_voted_bytes wal_Log_Swap vote_Voter_does) ⟨vote_Voter_live_s, vote_number_s, vote_promise_bytes_s, vote_floored_bytes_s, vote_Voter_above_s, vote_voted_bytes_s, wal_Log_Swap_s, vote_Voter_does_s, trivial⟩) Tryz.func17 (by kernel_rfl) (vote_Voter_Forget_qe vote_Voter_live vote_number vote_promise_bytes vote_floored_bytes vote_Voter_above vote_voted_bytes wal_Log_Swap vote_Voter_does)

/-! 18: (*sealchain/vote.Voter).Floor -/
abbrev N_vote_Voter_Floor : FuncId := 18
def L18 (f39 : V → M) : List (Nat × (List V → M)) := [(39, F1 f39)]
def E18 (f39 : V → M) : Env := ⟨ty, tabC (L18 f39), meth, tabL [], tabL []⟩
noncomputable def vote_Voter_Floor_q (f39 : V → M) (t0 : V) : M := fun s K =>
 ((f39 t0) s fun t4 s =>
 (condV t4
 (K (V.int .i64 0) s)
 (optK (nilV t0) s fun t6 s => (optK (fp 2 t6) s fun t7 s => ((ld1 t7) s fun t8 s =>
 (K t8 s))))))
noncomputable def vote_Voter_Floor : V → M := vote_Voter_Floor_q vote_Voter_none
theorem vote_Voter_Floor_qe (f39 : V → M) (t0 : V) : vote_Voter_Floor_q f39 t0 = evF (E18 f39) Tryz.f18 [t0] := by kernel_rfl
theorem vote_Voter_Floor_s : SP Tryz.prog 18 (F1 vote_Voter_Floor) := mk1 (mkEnv tab (L := L18 vote_Voter_none) ⟨vote_Voter_none_s, trivial⟩) Tryz.func18 (by kernel_rfl) (vote_Voter_Floor_qe vote_Voter_none)

/-! 16: (*sealchain/vote.Voter).Votes -/
abbrev N_vote_Voter_Votes : FuncId := 16
def L16 (f39 : V → M) (f46 : V → V → M) : List (Nat × (List V → M)) := [(39, F1 f39), (46, F2 f46)]
def E16 (f39 : V → M) (f46 : V → V → M) : Env := ⟨ty, tabC (L16 f39 f46), meth, tabL [], tabL []⟩
noncomputable def vote_Voter_Votes_q (f39 : V → M) (f46 : V → V → M) (t0 : V) : M := fun s K =>
 ((f39 t0) s fun t4 s =>
 (condV t4
 (K (V.slice none 0 0 true) s)
 (optK (nilV t0) s fun t7 s => (optK (fp 2 t7) s fun t8 s => ((ld1 t8) s fun t9 s =>
 ((f46 t0 t9) s fun t10 s =>
 (K t10 s)))))))
noncomputable def vote_Voter_Votes : V → M := vote_Voter_Votes_q vote_Voter_none vote_Voter_above
theorem vote_Voter_Votes_qe (f39 : V → M) (f46 : V → V → M) (t0 : V) : vote_Voter_Votes_q f39 f46 t0 = evF (E16 f39 f46) Tryz.f16 [t0] := by kernel_rfl
theorem vote_Voter_Votes_s : SP Tryz.prog 16 (F1 vote_Voter_Votes) := mk1 (mkEnv tab (L := L16 vote_Voter_none vote_Voter_above) ⟨vote_Voter_none_s, vote_Voter_above_s, trivial⟩) Tryz.func16 (by kernel_rfl) (vote_Voter_Votes_qe vote_Voter_none vote_Voter_above)

/-! 15: sealchain/sealchainlaw15.works -/
abbrev N_sealchainlaw15_works : FuncId := 15
def L15 (f9 : M) (f8 : V → M) (f14 : V → V → V → M) (f13 : V → V → M) (f12 : V → V → V → M) (f17 : V → V → M) (f18 : V → M) (f16 : V → M) : List (Nat × (List V → M)) := [(9, F0 f9), (8, F1 f8), (14, F3 f14), (13, F2 f13), (12, F3 f12), (17, F2 f17), (18, F1 f18), (16, F1 f16)]
def E15 (f9 : M) (f8 : V → M) (f14 : V → V → V → M) (f13 : V → V → M) (f12 : V → V → V → M) (f17 : V → V → M) (f18 : V → M) (f16 : V → M) : Env := ⟨ty, tabC (L15 f9 f8 f14 f13 f12 f17 f18 f16), meth, tabL [], tabL []⟩
noncomputable def sealchainlaw15_works_q (f9 : M) (f8 : V → M) (f14 : V → V → V → M) (f13 : V → V → M) (f12 : V → V → V → M) (f17 : V → V → M) (f18 : V → M) (f16 : V → M) : M := fun s K =>
 ((f9) s fun t24 s =>
 ((f8 t24) s fun t25 s =>
 (optK (extractV t25 0) s fun t26 s => (optK (extractV t25 1) s fun t27 s => (optK (binV .neq (some (Kd.int .i64)) true t27 (V.int .i64 0)) s fun t29 s => (grd t29
 (K (V.bool false) s)
 (optK (binV .eql (some (Kd.ptr 69)) true t26 (V.ptr none)) s fun t32 s => (condV t32
 (K (V.bool false) s)
 ((f14 t26 (V.int .i64 4) (V.int .i64 1)) s fun t36 s =>
 (optK (extractV t36 0) s fun t37 s => (optK (extractV t36 1) s fun t38 s => (optK (extractV t36 2) s fun t39 s => ((f14 t26 (V.int .i64 3) (V.int .i64 1)) s fun t42 s =>
 (optK (extractV t42 0) s fun t43 s => (optK (extractV t42 1) s fun t44 s => (optK (extractV t42 2) s fun t45 s => ((f13 (V.int .i64 1) (V.int .i64 0)) s fun t48 s =>
 ((f12 t26 (V.int .i64 3) t48) s fun t49 s =>
 (optK (extractV t49 0) s fun t50 s => (optK (extractV t49 1) s fun t51 s => ((f13 (V.int .i64 1) (V.int .i64 0)) s fun t54 s =>
 ((f12 t26 (V.int .i64 4) t54) s fun t55 s =>
 (optK (extractV t55 0) s fun t56 s => (optK (extractV t55 1) s fun t57 s => ((f14 t26 (V.int .i64 8) (V.int .i64 1)) s fun t60 s =>
 (optK (extractV t60 0) s fun t61 s => (optK (extractV t60 1) s fun t62 s => (optK (extractV t60 2) s fun t63 s => ((f14 t26 (V.int .i64 8) (V.int .i64 2)) s fun t66 s =>
 (optK (extractV t66 0) s fun t67 s => (optK (extractV t66 1) s fun t68 s => (optK (extractV t66 2) s fun t69 s => (optK (lenV (some (Kd.slice 43)) t37) s fun t71 s => (optK (binV .eql (some (Kd.int .i64)) true t71 (V.int .i64 0)) s fun t72 s => (grd t72
 (grd t38
 (optK (unV .not t44) s fun t78 s => (grd t78
 (optK (unV .not t50) s fun t82 s => (grd t82
 (grd t56
 (optK (lenV (some (Kd.slice 43)) t61) s fun t89 s => (optK (binV .eql (some (Kd.int .i64)) true t89 (V.int .i64 1)) s fun t90 s => (grd t90
 (optK (elemPtr none 4 t61 (V.int .i64 0)) s fun t94 s => (optK (fp 0 t94) s fun t95 s => ((ld1 t95) s fun t96 s =>
 (optK (binV .eql (some (Kd.int .i64)) true t96 (V.int .i64 4)) s fun t97 s => (grd t97
 (grd t62
 (optK (lenV (some (Kd.slice 43)) t67) s fun t104 s => (optK (binV .eql (some (Kd.int .i64)) true t104 (V.int .i64 0)) s fun t105 s => (grd t105
 ((f17 t26 (V.int .i64 2)) s fun t111 s =>
 (optK (binV .eql (some (Kd.int .i64)) true t111 (V.int .i64 0)) s fun t112 s => (grd t112
 ((f18 t26) s fun t115 s =>
 (optK (binV .eql (some (Kd.int .i64)) true t115 (V.int .i64 2)) s fun t116 s => (grd t116
 ((f16 t26) s fun t120 s =>
 (optK (lenV (some (Kd.slice 43)) t120) s fun t121 s => (optK (binV .eql (some (Kd.int .i64)) true t121 (V.int .i64 0)) s fun t122 s => ((f13 (V.int .i64 1) (V.int .i64 0)) s fun t126 s =>
 ((f12 t26 (V.int .i64 9) t126) s fun t127 s =>
 (optK (extractV t127 0) s fun t128 s => (optK (extractV t127 1) s fun t129 s => (grd t68
 (grd t122
 (optK (unV .not t128) s fun t136 s => (K t136 s))
 (K (V.bool false) s)
 False)
 (K (V.bool false) s)
 False))))))))
 ((f13 (V.int .i64 1) (V.int .i64 0)) s fun t126 s =>
 ((f12 t26 (V.int .i64 9) t126) s fun t127 s =>
 (optK (extractV t127 0) s fun t128 s => (optK (extractV t127 1) s fun t129 s => (grd t68
 (K (V.bool false) s)
 (K (V.bool false) s)
 False)))))
 False)))
 ((f13 (V.int .i64 1) (V.int .i64 0)) s fun t126 s =>
 ((f12 t26 (V.int .i64 9) t126) s fun t127 s =>
 (optK (extractV t127 0) s fun t128 s => (optK (extractV t127 1) s fun t129 s => (grd t68
 (K (V.bool false) s)
 (K (V.bool false) s)
 False)))))
 False)))
 ((f17 t26 (V.int .i64 2)) s fun t111 s =>
 (optK (binV .eql (some (Kd.int .i64)) true t111 (V.int .i64 0)) s fun t112 s => (grd t112
 ((f18 t26) s fun t115 s =>
 (optK (binV .eql (some (Kd.int .i64)) true t115 (V.int .i64 2)) s fun t116 s => (grd t116
 ((f16 t26) s fun t120 s =>
 (optK (lenV (some (Kd.slice 43)) t120) s fun t121 s => (optK (binV .eql (some (Kd.int .i64)) true t121 (V.int .i64 0)) s fun t122 s => ((f13 (V.int .i64 1) (V.int .i64 0)) s fun t126 s =>
 ((f12 t26 (V.int .i64 9) t126) s fun t127 s =>
 (optK (extractV t127 0) s fun t128 s => (optK (extractV t127 1) s fun t129 s => (K (V.bool false) s))))))))
 ((f13 (V.int .i64 1) (V.int .i64 0)) s fun t126 s =>
 ((f12 t26 (V.int .i64 9) t126) s fun t127 s =>
 (optK (extractV t127 0) s fun t128 s => (optK (extractV t127 1) s fun t129 s => (K (V.bool false) s)))))
 False)))
 ((f13 (V.int .i64 1) (V.int .i64 0)) s fun t126 s =>
 ((f12 t26 (V.int .i64 9) t126) s fun t127 s =>
 (optK (extractV t127 0) s fun t128 s => (optK (extractV t127 1) s fun t129 s => (K (V.bool false) s)))))
 False)))
 False)))
 ((f17 t26 (V.int .i64 2)) s fun t111 s =>
 (optK (binV .eql (some (Kd.int .i64)) true t111 (V.int .i64 0)) s fun t112 s => (grd t112
 ((f18 t26) s fun t115 s =>
 (optK (binV .eql (some (Kd.int .i64)) true t115 (V.int .i64 2)) s fun t116 s => (grd t116
 ((f16 t26) s fun t120 s =>
 (optK (lenV (some (Kd.slice 43)) t120) s fun t121 s => (optK (binV .eql (some (Kd.int .i64)) true t121 (V.int .i64 0)) s fun t122 s => ((f13 (V.int .i64 1) (V.int .i64 0)) s fun t126 s =>
 ((f12 t26 (V.int .i64 9) t126) s fun t127 s =>
 (optK (extractV t127 0) s fun t128 s => (optK (extractV t127 1) s fun t129 s => (K (V.bool false) s))))))))
 ((f13 (V.int .i64 1) (V.int .i64 0)) s fun t126 s =>
 ((f12 t26 (V.int .i64 9) t126) s fun t127 s =>
 (optK (extractV t127 0) s fun t128 s => (optK (extractV t127 1) s fun t129 s => (K (V.bool false) s)))))
 False)))
 ((f13 (V.int .i64 1) (V.int .i64 0)) s fun t126 s =>
 ((f12 t26 (V.int .i64 9) t126) s fun t127 s =>
 (optK (extractV t127 0) s fun t128 s => (optK (extractV t127 1) s fun t129 s => (K (V.bool false) s)))))
 False)))
 False)
 ((f17 t26 (V.int .i64 2)) s fun t111 s =>
 (optK (binV .eql (some (Kd.int .i64)) true t111 (V.int .i64 0)) s fun t112 s => (grd t112
 ((f18 t26) s fun t115 s =>
 (optK (binV .eql (some (Kd.int .i64)) true t115 (V.int .i64 2)) s fun t116 s => (grd t116
 ((f16 t26) s fun t120 s =>
 (optK (lenV (some (Kd.slice 43)) t120) s fun t121 s => (optK (binV .eql (some (Kd.int .i64)) true t121 (V.int .i64 0)) s fun t122 s => ((f13 (V.int .i64 1) (V.int .i64 0)) s fun t126 s =>
 ((f12 t26 (V.int .i64 9) t126) s fun t127 s =>
 (optK (extractV t127 0) s fun t128 s => (optK (extractV t127 1) s fun t129 s => (K (V.bool false) s))))))))
 ((f13 (V.int .i64 1) (V.int .i64 0)) s fun t126 s =>
 ((f12 t26 (V.int .i64 9) t126) s fun t127 s =>
 (optK (extractV t127 0) s fun t128 s => (optK (extractV t127 1) s fun t129 s => (K (V.bool false) s)))))
 False)))
 ((f13 (V.int .i64 1) (V.int .i64 0)) s fun t126 s =>
 ((f12 t26 (V.int .i64 9) t126) s fun t127 s =>
 (optK (extractV t127 0) s fun t128 s => (optK (extractV t127 1) s fun t129 s => (K (V.bool false) s)))))
 False)))
 False)))))
 ((f17 t26 (V.int .i64 2)) s fun t111 s =>
 (optK (binV .eql (some (Kd.int .i64)) true t111 (V.int .i64 0)) s fun t112 s => (grd t112
 ((f18 t26) s fun t115 s =>
 (optK (binV .eql (some (Kd.int .i64)) true t115 (V.int .i64 2)) s fun t116 s => (grd t116
 ((f16 t26) s fun t120 s =>
 (optK (lenV (some (Kd.slice 43)) t120) s fun t121 s => (optK (binV .eql (some (Kd.int .i64)) true t121 (V.int .i64 0)) s fun t122 s => ((f13 (V.int .i64 1) (V.int .i64 0)) s fun t126 s =>
 ((f12 t26 (V.int .i64 9) t126) s fun t127 s =>
 (optK (extractV t127 0) s fun t128 s => (optK (extractV t127 1) s fun t129 s => (K (V.bool false) s))))))))
 ((f13 (V.int .i64 1) (V.int .i64 0)) s fun t126 s =>
 ((f12 t26 (V.int .i64 9) t126) s fun t127 s =>
 (optK (extractV t127 0) s fun t128 s => (optK (extractV t127 1) s fun t129 s => (K (V.bool false) s)))))
 False)))
 ((f13 (V.int .i64 1) (V.int .i64 0)) s fun t126 s =>
 ((f12 t26 (V.int .i64 9) t126) s fun t127 s =>
 (optK (extractV t127 0) s fun t128 s => (optK (extractV t127 1) s fun t129 s => (K (V.bool false) s)))))
 False)))
 False)))
 ((f17 t26 (V.int .i64 2)) s fun t111 s =>
 (optK (binV .eql (some (Kd.int .i64)) true t111 (V.int .i64 0)) s fun t112 s => (grd t112
 ((f18 t26) s fun t115 s =>
 (optK (binV .eql (some (Kd.int .i64)) true t115 (V.int .i64 2)) s fun t116 s => (grd t116
 ((f16 t26) s fun t120 s =>
 (optK (lenV (some (Kd.slice 43)) t120) s fun t121 s => (optK (binV .eql (some (Kd.int .i64)) true t121 (V.int .i64 0)) s fun t122 s => ((f13 (V.int .i64 1) (V.int .i64 0)) s fun t126 s =>
 ((f12 t26 (V.int .i64 9) t126) s fun t127 s =>
 (optK (extractV t127 0) s fun t128 s => (optK (extractV t127 1) s fun t129 s => (K (V.bool false) s))))))))
 ((f13 (V.int .i64 1) (V.int .i64 0)) s fun t126 s =>
 ((f12 t26 (V.int .i64 9) t126) s fun t127 s =>
 (optK (extractV t127 0) s fun t128 s => (optK (extractV t127 1) s fun t129 s => (K (V.bool false) s)))))
 False)))
 ((f13 (V.int .i64 1) (V.int .i64 0)) s fun t126 s =>
 ((f12 t26 (V.int .i64 9) t126) s fun t127 s =>
 (optK (extractV t127 0) s fun t128 s => (optK (extractV t127 1) s fun t129 s => (K (V.bool false) s)))))
 False)))
 False)
 ((f17 t26 (V.int .i64 2)) s fun t111 s =>
 (optK (binV .eql (some (Kd.int .i64)) true t111 (V.int .i64 0)) s fun t112 s => (grd t112
 ((f18 t26) s fun t115 s =>
 (optK (binV .eql (some (Kd.int .i64)) true t115 (V.int .i64 2)) s fun t116 s => (grd t116
 ((f16 t26) s fun t120 s =>
 (optK (lenV (some (Kd.slice 43)) t120) s fun t121 s => (optK (binV .eql (some (Kd.int .i64)) true t121 (V.int .i64 0)) s fun t122 s => ((f13 (V.int .i64 1) (V.int .i64 0)) s fun t126 s =>
 ((f12 t26 (V.int .i64 9) t126) s fun t127 s =>
 (optK (extractV t127 0) s fun t128 s => (optK (extractV t127 1) s fun t129 s => (K (V.bool false) s))))))))
 ((f13 (V.int .i64 1) (V.int .i64 0)) s fun t126 s =>
 ((f12 t26 (V.int .i64 9) t126) s fun t127 s =>
 (optK (extractV t127 0) s fun t128 s => (optK (extractV t127 1) s fun t129 s => (K (V.bool false) s)))))
 False)))
 ((f13 (V.int .i64 1) (V.int .i64 0)) s fun t126 s =>
 ((f12 t26 (V.int .i64 9) t126) s fun t127 s =>
 (optK (extractV t127 0) s fun t128 s => (optK (extractV t127 1) s fun t129 s => (K (V.bool false) s)))))
 False)))
 False))
 ((f17 t26 (V.int .i64 2)) s fun t111 s =>
 (optK (binV .eql (some (Kd.int .i64)) true t111 (V.int .i64 0)) s fun t112 s => (grd t112
 ((f18 t26) s fun t115 s =>
 (optK (binV .eql (some (Kd.int .i64)) true t115 (V.int .i64 2)) s fun t116 s => (grd t116
 ((f16 t26) s fun t120 s =>
 (optK (lenV (some (Kd.slice 43)) t120) s fun t121 s => (optK (binV .eql (some (Kd.int .i64)) true t121 (V.int .i64 0)) s fun t122 s => ((f13 (V.int .i64 1) (V.int .i64 0)) s fun t126 s =>
 ((f12 t26 (V.int .i64 9) t126) s fun t127 s =>
 (optK (extractV t127 0) s fun t128 s => (optK (extractV t127 1) s fun t129 s => (K (V.bool false) s))))))))
 ((f13 (V.int .i64 1) (V.int .i64 0)) s fun t126 s =>
 ((f12 t26 (V.int .i64 9) t126) s fun t127 s =>
 (optK (extractV t127 0) s fun t128 s => (optK (extractV t127 1) s fun t129 s => (K (V.bool false) s)))))
 False)))
 ((f13 (V.int .i64 1) (V.int .i64 0)) s fun t126 s =>
 ((f12 t26 (V.int .i64 9) t126) s fun t127 s =>
 (optK (extractV t127 0) s fun t128 s => (optK (extractV t127 1) s fun t129 s => (K (V.bool false) s)))))
 False)))
 False))
 ((f17 t26 (V.int .i64 2)) s fun t111 s =>
 (optK (binV .eql (some (Kd.int .i64)) true t111 (V.int .i64 0)) s fun t112 s => (grd t112
 ((f18 t26) s fun t115 s =>
 (optK (binV .eql (some (Kd.int .i64)) true t115 (V.int .i64 2)) s fun t116 s => (grd t116
 ((f16 t26) s fun t120 s =>
 (optK (lenV (some (Kd.slice 43)) t120) s fun t121 s => (optK (binV .eql (some (Kd.int .i64)) true t121 (V.int .i64 0)) s fun t122 s => ((f13 (V.int .i64 1) (V.int .i64 0)) s fun t126 s =>
 ((f12 t26 (V.int .i64 9) t126) s fun t127 s =>
 (optK (extractV t127 0) s fun t128 s => (optK (extractV t127 1) s fun t129 s => (K (V.bool false) s))))))))
 ((f13 (V.int .i64 1) (V.int .i64 0)) s fun t126 s =>
 ((f12 t26 (V.int .i64 9) t126) s fun t127 s =>
 (optK (extractV t127 0) s fun t128 s => (optK (extractV t127 1) s fun t129 s => (K (V.bool false) s)))))
 False)))
 ((f13 (V.int .i64 1) (V.int .i64 0)) s fun t126 s =>
 ((f12 t26 (V.int .i64 9) t126) s fun t127 s =>
 (optK (extractV t127 0) s fun t128 s => (optK (extractV t127 1) s fun t129 s => (K (V.bool false) s)))))
 False)))
 False)
 ((f17 t26 (V.int .i64 2)) s fun t111 s =>
 (optK (binV .eql (some (Kd.int .i64)) true t111 (V.int .i64 0)) s fun t112 s => (grd t112
 ((f18 t26) s fun t115 s =>
 (optK (binV .eql (some (Kd.int .i64)) true t115 (V.int .i64 2)) s fun t116 s => (grd t116
 ((f16 t26) s fun t120 s =>
 (optK (lenV (some (Kd.slice 43)) t120) s fun t121 s => (optK (binV .eql (some (Kd.int .i64)) true t121 (V.int .i64 0)) s fun t122 s => ((f13 (V.int .i64 1) (V.int .i64 0)) s fun t126 s =>
 ((f12 t26 (V.int .i64 9) t126) s fun t127 s =>
 (optK (extractV t127 0) s fun t128 s => (optK (extractV t127 1) s fun t129 s => (K (V.bool false) s))))))))
 ((f13 (V.int .i64 1) (V.int .i64 0)) s fun t126 s =>
 ((f12 t26 (V.int .i64 9) t126) s fun t127 s =>
 (optK (extractV t127 0) s fun t128 s => (optK (extractV t127 1) s fun t129 s => (K (V.bool false) s)))))
 False)))
 ((f13 (V.int .i64 1) (V.int .i64 0)) s fun t126 s =>
 ((f12 t26 (V.int .i64 9) t126) s fun t127 s =>
 (optK (extractV t127 0) s fun t128 s => (optK (extractV t127 1) s fun t129 s => (K (V.bool false) s)))))
 False)))
 False)))))))))))))))))))))))))))))
 False))))))
noncomputable def sealchainlaw15_works : M := sealchainlaw15_works_q disk_New vote_Open vote_Voter_Prepare sealchainlaw15_conf vote_Voter_Accept vote_Voter_Forget vote_Voter_Floor vote_Voter_Votes
theorem sealchainlaw15_works_qe (f9 : M) (f8 : V → M) (f14 : V → V → V → M) (f13 : V → V → M) (f12 : V → V → V → M) (f17 : V → V → M) (f18 : V → M) (f16 : V → M) : sealchainlaw15_works_q f9 f8 f14 f13 f12 f17 f18 f16 = evF (E15 f9 f8 f14 f13 f12 f17 f18 f16) Tryz.f15 [] := by kernel_rfl
theorem sealchainlaw15_works_s : SP Tryz.prog 15 (F0 sealchainlaw15_works) := mk0 (mkEnv tab (L := L15 disk_New vote_Open vote_Voter_Prepare sealchainlaw15_conf vote_Voter_Accept vote_Voter_Forget vote_Voter_Floor vote_Voter_Votes) ⟨disk_New_s, vote_Open_s, vote_Voter_Prepare_s, sealchainlaw15_conf_s, vote_Voter_Accept_s, vote_Voter_Forget_s, vote_Voter_Floor_s, vote_Voter_Votes_s, trivial⟩) Tryz.func15 (by kernel_rfl) (sealchainlaw15_works_qe disk_New vote_Open vote_Voter_Prepare sealchainlaw15_conf vote_Voter_Accept vote_Voter_Forget vote_Voter_Floor vote_Voter_Votes)

/-! 11: (*sealchain/vote.Voter).Promised -/
abbrev N_vote_Voter_Promised : FuncId := 11
def L11 (f39 : V → M) : List (Nat × (List V → M)) := [(39, F1 f39)]
def E11 (f39 : V → M) : Env := ⟨ty, tabC (L11 f39), meth, tabL [], tabL []⟩
noncomputable def vote_Voter_Promised_q (f39 : V → M) (t0 : V) : M := fun s K =>
 ((f39 t0) s fun t4 s =>
 (condV t4
 (K (V.int .i64 0) s)
 (optK (nilV t0) s fun t6 s => (optK (fp 1 t6) s fun t7 s => ((ld1 t7) s fun t8 s =>
 (K t8 s))))))
noncomputable def vote_Voter_Promised : V → M := vote_Voter_Promised_q vote_Voter_none
theorem vote_Voter_Promised_qe (f39 : V → M) (t0 : V) : vote_Voter_Promised_q f39 t0 = evF (E11 f39) Tryz.f11 [t0] := by kernel_rfl
theorem vote_Voter_Promised_s : SP Tryz.prog 11 (F1 vote_Voter_Promised) := mk1 (mkEnv tab (L := L11 vote_Voter_none) ⟨vote_Voter_none_s, trivial⟩) Tryz.func11 (by kernel_rfl) (vote_Voter_Promised_qe vote_Voter_none)

/-! 28: (*sealchain/disk.Disk).Arm -/
abbrev N_disk_Disk_Arm : FuncId := 28
def L28 (f52 : V → M) (f61 : V → V → M) : List (Nat × (List V → M)) := [(52, F1 f52), (61, F2 f61)]
def E28 (f52 : V → M) (f61 : V → V → M) : Env := ⟨ty, tabC (L28 f52 f61), meth, tabL [], tabL []⟩
noncomputable def disk_Disk_Arm_q (f52 : V → M) (f61 : V → V → M) (t0 t1 : V) : M := fun s K =>
 ((boxV t1) s fun t3 s =>
 ((f52 t0) s fun t7 s =>
 (optK (binV .neq (some (Kd.int .i64)) true t7 (V.int .i64 0)) s fun t9 s => (condV t9
 (K t7 s)
 ((ld1 t3) s fun t11 s =>
 (optK (binV .lss (some (Kd.int .i64)) true t11 (V.int .i64 0)) s fun t12 s => (condV t12
 (K (V.int .i64 2) s)
 (optK (nilV t0) s fun t15 s => (optK (fp 3 t15) s fun t16 s => ((st 1 t16 (V.func (.func 61) [] [t3])) s fun _ s =>
 (K (V.int .i64 0) s)))))))))))
noncomputable def disk_Disk_Arm : V → V → M := disk_Disk_Arm_q disk_Disk_live disk_Disk_Arm_1
theorem disk_Disk_Arm_qe (f52 : V → M) (f61 : V → V → M) (t0 t1 : V) : disk_Disk_Arm_q f52 f61 t0 t1 = evF (E28 f52 f61) Tryz.f28 [t0, t1] := by kernel_rfl
theorem disk_Disk_Arm_s : SP Tryz.prog 28 (F2 disk_Disk_Arm) := mk2 (mkEnv tab (L := L28 disk_Disk_live disk_Disk_Arm_1) ⟨disk_Disk_live_s, disk_Disk_Arm_1_s, trivial⟩) Tryz.func28 (by kernel_rfl) (disk_Disk_Arm_qe disk_Disk_live disk_Disk_Arm_1)

/-! 30: (*sealchain/disk.Disk).Crash -/
abbrev N_disk_Disk_Crash : FuncId := 30
def L30 (f64 : V → M) (f62 : V → V → M) : List (Nat × (List V → M)) := [(64, F1 f64), (62, F2 f62)]
def E30 (f64 : V → M) (f62 : V → V → M) : Env := ⟨ty, tabC (L30 f64 f62), meth, tabL [], tabL []⟩
noncomputable def disk_Disk_Crash_q (f64 : V → M) (f62 : V → V → M) (t0 t1 : V) : M := fun s K =>
 ((f64 t0) s fun t7 s =>
 (condV t7
 (K (V.int .i64 1) s)
 (optK (binV .lss (some (Kd.int .i64)) true t1 (V.int .i64 0)) s fun t10 s => (condV t10
 (K (V.int .i64 2) s)
 (optK (nilV t0) s fun t13 s => (optK (fp 2 t13) s fun t14 s => ((ld1 t14) s fun t15 s =>
 (optK (unV .not t15) s fun t16 s => (condV t16
 ((f62 t0 t1) s fun t19 s =>
 (K (V.int .i64 0) s))
 (K (V.int .i64 0) s))))))))))
noncomputable def disk_Disk_Crash : V → V → M := disk_Disk_Crash_q disk_Disk_none disk_Disk_tear
theorem disk_Disk_Crash_qe (f64 : V → M) (f62 : V → V → M) (t0 t1 : V) : disk_Disk_Crash_q f64 f62 t0 t1 = evF (E30 f64 f62) Tryz.f30 [t0, t1] := by kernel_rfl
theorem disk_Disk_Crash_s : SP Tryz.prog 30 (F2 disk_Disk_Crash) := mk2 (mkEnv tab (L := L30 disk_Disk_none disk_Disk_tear) ⟨disk_Disk_none_s, disk_Disk_tear_s, trivial⟩) Tryz.func30 (by kernel_rfl) (disk_Disk_Crash_qe disk_Disk_none disk_Disk_tear)

/-! 31: (*sealchain/disk.Disk).Dead -/
abbrev N_disk_Disk_Dead : FuncId := 31
def L31 (f64 : V → M) : List (Nat × (List V → M)) := [(64, F1 f64)]
def E31 (f64 : V → M) : Env := ⟨ty, tabC (L31 f64), meth, tabL [], tabL []⟩
noncomputable def disk_Disk_Dead_q (f64 : V → M) (t0 : V) : M := fun s K =>
 ((f64 t0) s fun t4 s =>
 (optK (unV .not t4) s fun t5 s => (grd t5
 (optK (nilV t0) s fun t8 s => (optK (fp 2 t8) s fun t9 s => ((ld1 t9) s fun t10 s =>
 (K t10 s))))
 (K (V.bool false) s)
 False)))
noncomputable def disk_Disk_Dead : V → M := disk_Disk_Dead_q disk_Disk_none
theorem disk_Disk_Dead_qe (f64 : V → M) (t0 : V) : disk_Disk_Dead_q f64 t0 = evF (E31 f64) Tryz.f31 [t0] := by kernel_rfl
theorem disk_Disk_Dead_s : SP Tryz.prog 31 (F1 disk_Disk_Dead) := mk1 (mkEnv tab (L := L31 disk_Disk_none) ⟨disk_Disk_none_s, trivial⟩) Tryz.func31 (by kernel_rfl) (disk_Disk_Dead_qe disk_Disk_none)

/-! 32: (*sealchain/disk.Disk).Revive -/
abbrev N_disk_Disk_Revive : FuncId := 32
def L32 (f64 : V → M) (f38 : V → M) : List (Nat × (List V → M)) := [(64, F1 f64), (38, F1 f38)]
def E32 (f64 : V → M) (f38 : V → M) : Env := ⟨ty, tabC (L32 f64 f38), meth, tabL [], tabL []⟩
noncomputable def disk_Disk_Revive_q (f64 : V → M) (f38 : V → M) (t0 : V) : M := fun s K =>
 ((f64 t0) s fun t4 s =>
 (condV t4
 (K (V.int .i64 1) s)
 (optK (nilV t0) s fun t7 s => (optK (fp 2 t7) s fun t8 s => ((st 1 t8 (V.bool false)) s fun _ s =>
 (optK (nilV t0) s fun t9 s => (optK (fp 3 t9) s fun t10 s => ((st 1 t10 (V.func (.func 38) [] [])) s fun _ s =>
 (K (V.int .i64 0) s)))))))))
noncomputable def disk_Disk_Revive : V → M := disk_Disk_Revive_q disk_Disk_none disk_always
theorem disk_Disk_Revive_qe (f64 : V → M) (f38 : V → M) (t0 : V) : disk_Disk_Revive_q f64 f38 t0 = evF (E32 f64 f38) Tryz.f32 [t0] := by kernel_rfl
theorem disk_Disk_Revive_s : SP Tryz.prog 32 (F1 disk_Disk_Revive) := mk1 (mkEnv tab (L := L32 disk_Disk_none disk_always) ⟨disk_Disk_none_s, disk_always_s, trivial⟩) Tryz.func32 (by kernel_rfl) (disk_Disk_Revive_qe disk_Disk_none disk_always)

/-! 33: (sealchain/sealchainlaw15.told).holds -/
abbrev N_sealchainlaw15_told_holds : FuncId := 33
def L33 (f11 : V → M) (f16 : V → M) (f18 : V → M) : List (Nat × (List V → M)) := [(11, F1 f11), (16, F1 f16), (18, F1 f18)]
def E33 (f11 : V → M) (f16 : V → M) (f18 : V → M) : Env := ⟨ty, tabC (L33 f11 f16 f18), meth, tabL [(5, [2, 5, 6]), (9, [2, 5, 6, 7, 8])], tabL [(5, [4]), (9, [2, 5, 6, 7])]⟩
noncomputable def sealchainlaw15_told_holds_L2 (f11 : V → M) (f16 : V → M) (f18 : V → M) (t2 t5 t6 t7 t8 : V) : AS → KX → Prop := fun s K =>
 (optK (lenV (some (Kd.slice 43)) t5) s fun t28 s => (optK (binV .lss (some (Kd.int .i64)) false t8 t28) s fun t29 s => (condV t29
 (optK (elemPtr none 4 t5 t8) s fun t34 s => (optK (fp 1 t34) s fun t35 s => (optK (fp 0 t35) s fun t36 s => ((ld1 t36) s fun t37 s =>
 (optK (binV .eql (some (Kd.int .i64)) false t37 t6) s fun t39 s => (condV t39
 (optK (elemPtr none 4 t5 t8) s fun t42 s => (optK (fp 0 t42) s fun t43 s => ((ld1 t43) s fun t44 s =>
 (optK (binV .add (some (Kd.int .i64)) true t8 (V.int .i64 1)) s fun t31 s => (K .nrm [V.junk, V.junk, t2, V.junk, V.junk, t5, t6, t44, t31, V.junk, V.junk, V.junk, V.junk, V.junk, V.junk, V.junk, V.junk, V.junk, V.junk, V.junk, V.junk, V.junk, V.junk, V.junk, V.junk, V.junk, V.junk, V.junk, V.junk, V.junk, V.junk, V.junk, V.junk, V.junk, V.junk, V.junk, V.junk, V.junk, V.junk, V.junk, V.junk, V.junk, V.junk, V.junk, V.junk, V.junk, V.junk, V.junk, V.junk, V.junk, V.junk] s)))))
 (optK (binV .add (some (Kd.int .i64)) true t8 (V.int .i64 1)) s fun t31 s => (K .nrm [V.junk, V.junk, t2, V.junk, V.junk, t5, t6, t7, t31, V.junk, V.junk, V.junk, V.junk, V.junk, V.junk, V.junk, V.junk, V.junk, V.junk, V.junk, V.junk, V.junk, V.junk, V.junk, V.junk, V.junk, V.junk, V.junk, V.junk, V.junk, V.junk, V.junk, V.junk, V.junk, V.junk, V.junk, V.junk, V.junk, V.junk, V.junk, V.junk, V.junk, V.junk, V.junk, V.junk, V.junk, V.junk, V.junk, V.junk, V.junk, V.junk] s))))))))
 (K (.exit 2) [V.junk, V.junk, t2, V.junk, V.junk, t5, t6, t7, V.junk, V.junk, V.junk, V.junk, V.junk, V.junk, V.junk, V.junk, V.junk, V.junk, V.junk, V.junk, V.junk, V.junk, V.junk, V.junk, V.junk, V.junk, V.junk, V.junk, V.junk, V.junk, V.junk, V.junk, V.junk, V.junk, V.junk, V.junk, V.junk, V.junk, V.junk, V.junk, V.junk, V.junk, V.junk, V.junk, V.junk, V.junk, V.junk, V.junk, V.junk, V.junk, V.junk] s))))
noncomputable def sealchainlaw15_told_holds_L1 (f11 : V → M) (f16 : V → M) (f18 : V → M) (t2 t5 t6 : V) : AS → KX → Prop := fun s K =>
 (optK (binV .lss (some (Kd.int .i64)) true t6 (V.int .i64 12)) s fun t19 s => (grd t19
 (optK (binV .geq (some (Kd.int .i64)) true t6 (V.int .i64 0)) s fun t22 s => (condV t22
 (loopN LOOPS (fun tm s K => sealchainlaw15_told_holds_L2 f11 f16 f18 (tm.getD 2 .junk) (tm.getD 5 .junk) (tm.getD 6 .junk) (tm.getD 7 .junk) (tm.getD 8 .junk) s K) [V.junk, V.junk, t2, V.junk, V.junk, t5, t6, (V.int .i64 0), (V.int .i64 0), V.junk, V.junk, V.junk, V.junk, V.junk, V.junk, V.junk, V.junk, V.junk, V.junk, V.junk, V.junk, V.junk, V.junk, V.junk, V.junk, V.junk, V.junk, V.junk, V.junk, V.junk, V.junk, V.junk, V.junk, V.junk, V.junk, V.junk, V.junk, V.junk, V.junk, V.junk, V.junk, V.junk, V.junk, V.junk, V.junk, V.junk, V.junk, V.junk, V.junk, V.junk, V.junk] s (fun e tm s => exX e (fun j1 => (exB (j1 == 2)
 (optK (fp 1 (tm.getD 2 .junk)) s fun t47 s => (optK (elemPtr (some 12) 1 t47 (tm.getD 6 .junk)) s fun t48 s => ((ld1 t48) s fun t49 s =>
 (optK (binV .lss (some (Kd.int .i64)) false (tm.getD 7 .junk) t49) s fun t50 s => (condV t50
 (K .ret [V.junk, V.junk, V.junk, V.junk, (V.bool false), V.junk, V.junk, V.junk, V.junk, V.junk, V.junk, V.junk, V.junk, V.junk, V.junk, V.junk, V.junk, V.junk, V.junk, V.junk, V.junk, V.junk, V.junk, V.junk, V.junk, V.junk, V.junk, V.junk, V.junk, V.junk, V.junk, V.junk, V.junk, V.junk, V.junk, V.junk, V.junk, V.junk, V.junk, V.junk, V.junk, V.junk, V.junk, V.junk, V.junk, V.junk, V.junk, V.junk, V.junk, V.junk, V.junk] s)
 (optK (binV .add (some (Kd.int .i64)) true (tm.getD 6 .junk) (V.int .i64 1)) s fun t25 s => (K .nrm [V.junk, V.junk, (tm.getD 2 .junk), V.junk, V.junk, (tm.getD 5 .junk), t25, V.junk, V.junk, V.junk, V.junk, V.junk, V.junk, V.junk, V.junk, V.junk, V.junk, V.junk, V.junk, V.junk, V.junk, V.junk, V.junk, V.junk, V.junk, V.junk, V.junk, V.junk, V.junk, V.junk, V.junk, V.junk, V.junk, V.junk, V.junk, V.junk, V.junk, V.junk, V.junk, V.junk, V.junk, V.junk, V.junk, V.junk, V.junk, V.junk, V.junk, V.junk, V.junk, V.junk, V.junk] s)))))))
 (exB (j1 == 1)
 (optK (binV .add (some (Kd.int .i64)) true (tm.getD 6 .junk) (V.int .i64 1)) s fun t25 s => (K .nrm [V.junk, V.junk, (tm.getD 2 .junk), V.junk, V.junk, (tm.getD 5 .junk), t25, V.junk, V.junk, V.junk, V.junk, V.junk, V.junk, V.junk, V.junk, V.junk, V.junk, V.junk, V.junk, V.junk, V.junk, V.junk, V.junk, V.junk, V.junk, V.junk, V.junk, V.junk, V.junk, V.junk, V.junk, V.junk, V.junk, V.junk, V.junk, V.junk, V.junk, V.junk, V.junk, V.junk, V.junk, V.junk, V.junk, V.junk, V.junk, V.junk, V.junk, V.junk, V.junk, V.junk, V.junk] s))
 (K (.exit j1) [V.junk, V.junk, V.junk, V.junk, V.junk, V.junk, V.junk, V.junk, V.junk, V.junk, V.junk, V.junk, V.junk, V.junk, V.junk, V.junk, V.junk, V.junk, V.junk, V.junk, V.junk, V.junk, V.junk, V.junk, V.junk, V.junk, V.junk, V.junk, V.junk, V.junk, V.junk, V.junk, V.junk, V.junk, V.junk, V.junk, V.junk, V.junk, V.junk, V.junk, V.junk, V.junk, V.junk, V.junk, V.junk, V.junk, V.junk, V.junk, V.junk, V.junk, V.junk] s)))) (K .ret [V.junk, V.junk, V.junk, V.junk, V.junk, V.junk, V.junk, V.junk, V.junk, V.junk, V.junk, V.junk, V.junk, V.junk, V.junk, V.junk, V.junk, V.junk, V.junk, V.junk, V.junk, V.junk, V.junk, V.junk, V.junk, V.junk, V.junk, V.junk, V.junk, V.junk, V.junk, V.junk, V.junk, V.junk, V.junk, V.junk, V.junk, V.junk, V.junk, V.junk, V.junk, V.junk, V.junk, V.junk, V.junk, V.junk, V.junk, V.junk, V.junk, V.junk, V.junk] s)))
 (K (.exit 0) [V.junk, V.junk, V.junk, V.junk, V.junk, V.junk, V.junk, V.junk, V.junk, V.junk, V.junk, V.junk, V.junk, V.junk, V.junk, V.junk, V.junk, V.junk, V.junk, V.junk, V.junk, V.junk, V.junk, V.junk, V.junk, V.junk, V.junk, V.junk, V.junk, V.junk, V.junk, V.junk, V.junk, V.junk, V.junk, V.junk, V.junk, V.junk, V.junk, V.junk, V.junk, V.junk, V.junk, V.junk, V.junk, V.junk, V.junk, V.junk, V.junk, V.junk, V.junk] s)))
 (K (.exit 0) [V.junk, V.junk, V.junk, V.junk, V.junk, V.junk, V.junk, V.junk, V.junk, V.junk, V.junk, V.junk, V.junk, V.junk, V.junk, V.junk, V.junk, V.junk, V.junk, V.junk, V.junk, V.junk, V.junk, V.junk, V.junk, V.junk, V.junk, V.junk, V.junk, V.junk, V.junk, V.junk, V.junk, V.junk, V.junk, V.junk, V.junk, V.junk, V.junk, V.junk, V.junk, V.junk, V.junk, V.junk, V.junk, V.junk, V.junk, V.junk, V.junk, V.junk, V.junk] s)
 False))
noncomputable def sealchainlaw15_told_holds_q (f11 : V → M) (f16 : V → M) (f18 : V → M) (t0 t1 : V) : M := fun s K =>
 ((boxV t0) s fun t2 s =>
 ((f11 t1) s fun t10 s1 =>
 (optK (fp 0 t2) s1 fun t11 s1 => ((ld1 t11) s1 fun t12 s2 =>
 (chkB (holds ti3 t11 s t12) (optK (binV .lss (some (Kd.int .i64)) false t10 t12) s2 fun t13 s2 => (condV t13
 (K (V.bool false) s2)
 ((f16 t1) s2 fun t15 s2 =>
 ((f18 t1) s2 fun t17 s2 =>
 (loopN LOOPS (fun tm s K => sealchainlaw15_told_holds_L1 f11 f16 f18 (tm.getD 2 .junk) (tm.getD 5 .junk) (tm.getD 6 .junk) s K) [V.junk, V.junk, t2, V.junk, V.junk, t15, t17, V.junk, V.junk, V.junk, V.junk, V.junk, V.junk, V.junk, V.junk, V.junk, V.junk, V.junk, V.junk, V.junk, V.junk, V.junk, V.junk, V.junk, V.junk, V.junk, V.junk, V.junk, V.junk, V.junk, V.junk, V.junk, V.junk, V.junk, V.junk, V.junk, V.junk, V.junk, V.junk, V.junk, V.junk, V.junk, V.junk, V.junk, V.junk, V.junk, V.junk, V.junk, V.junk, V.junk, V.junk] s2 (fun e tm s => exX e (fun j1 => (exB (j1 == 0)
 (K (V.bool true) s)
 False)) (K (tm.getD 4 .junk) s))))))))))))
noncomputable def sealchainlaw15_told_holds : V → V → M := sealchainlaw15_told_holds_q vote_Voter_Promised vote_Voter_Votes vote_Voter_Floor
theorem sealchainlaw15_told_holds_qe (f11 : V → M) (f16 : V → M) (f18 : V → M) (t0 t1 : V) : sealchainlaw15_told_holds_q f11 f16 f18 t0 t1 = evF (E33 f11 f16 f18) Tryz.f33 [t0, t1] := by kernel_rfl
theorem sealchainlaw15_told_holds_s : SP Tryz.prog 33 (F2 sealchainlaw15_told_holds) := mk2 (mkEnv tab (L := L33 vote_Voter_Promised vote_Voter_Votes vote_Voter_Floor) ⟨vote_Voter_Promised_s, vote_Voter_Votes_s, vote_Voter_Floor_s, trivial⟩) Tryz.func33 (by kernel_rfl) (sealchainlaw15_told_holds_qe vote_Voter_Promised vote_Voter_Votes vote_Voter_Floor)
end Go.Proofs.Vt
