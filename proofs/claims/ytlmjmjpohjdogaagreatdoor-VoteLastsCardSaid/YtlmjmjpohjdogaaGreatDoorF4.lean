/- A part of the proofs of the Vote laws: functions of the program in the evaluator's form, printed by a program of the prover's, each equation checked by the kernel. -/
import Derived.Test.YtlmjmjpohjdogaaGreatDoorF3
set_option linter.unusedVariables false
set_option linter.unusedSimpArgs false
/- PRINTED by gen.py. -/
set_option maxRecDepth 100000
namespace Go.Proofs.Vt
open Go Go.Rx Go.Proofs
/-! 7: sealchain/sealchainlaw15.VoteLasts -/
abbrev N_sealchainlaw15_VoteLasts : FuncId := 7
def L7 (f15 : M) (f9 : M) (f8 : V → M) (f10 : V → V → M) (f11 : V → M) (f14 : V → V → V → M) (f17 : V → V → M) (f28 : V → V → M) (f30 : V → V → M) (f13 : V → V → M) (f12 : V → V → V → M) (f18 : V → M) (f31 : V → M) (f32 : V → M) (f33 : V → V → M) : List (Nat × (List V → M)) := [(15, F0 f15), (9, F0 f9), (8, F1 f8), (10, F2 f10), (11, F1 f11), (14, F3 f14), (17, F2 f17), (28, F2 f28), (30, F2 f30), (13, F2 f13), (12, F3 f12), (18, F1 f18), (31, F1 f31), (32, F1 f32), (33, F2 f33)]
def E7 (f15 : M) (f9 : M) (f8 : V → M) (f10 : V → V → M) (f11 : V → M) (f14 : V → V → V → M) (f17 : V → V → M) (f28 : V → V → M) (f30 : V → V → M) (f13 : V → V → M) (f12 : V → V → V → M) (f18 : V → M) (f31 : V → M) (f32 : V → M) (f33 : V → V → M) : Env := ⟨ty, tabC (L7 f15 f9 f8 f10 f11 f14 f17 f28 f30 f13 f12 f18 f31 f32 f33), meth, tabL [(9, [0, 3, 4, 6, 7])], tabL [(9, [2])]⟩
noncomputable def sealchainlaw15_VoteLasts_L1 (f15 : M) (f9 : M) (f8 : V → M) (f10 : V → V → M) (f11 : V → M) (f14 : V → V → V → M) (f17 : V → V → M) (f28 : V → V → M) (f30 : V → V → M) (f13 : V → V → M) (f12 : V → V → V → M) (f18 : V → M) (f31 : V → M) (f32 : V → M) (f33 : V → V → M) (t0 t3 t4 t6 t7 : V) : AS → KX → Prop := fun s K =>
 (optK (lenV (some (Kd.slice 75)) t0) s fun t35 s => (optK (binV .lss (some (Kd.int .i64)) false t7 t35) s fun t36 s => (grd t36
 (optK (binV .lss (some (Kd.int .i64)) true t7 (V.int .i64 60)) s fun t39 s => (condV t39
 (optK (elemPtr none 6 t0 t7) s fun t45 s => ((ldA 6 t45) s fun t46 s =>
 ((newC [(V.int .i64 0), (V.int .i64 0), (V.int .i64 0), (V.int .i64 0), (V.int .i64 0), (V.slice none 0 0 true)]) s fun t8 s =>
 ((st 6 t8 t46) s fun _ s =>
 (optK (fp 1 t8) s fun t47 s => ((ld1 t47) s fun t48 s1 =>
 ((f10 t48 (V.int .i64 30)) s1 fun t49 s2 =>
 (optK (binV .add (some (Kd.int .i64)) true (V.int .i64 1) t49) s2 fun t50 s2 => (optK (fp 2 t8) s2 fun t51 s2 => ((ld1 t51) s2 fun t52 s3 =>
 (chkB (holds ti3 t51 s1 t52) ((f10 t52 (V.int .i64 11)) s3 fun t53 s4 =>
 (optK (binV .add (some (Kd.int .i64)) true (V.int .i64 1) t53) s4 fun t54 s4 => ((f11 t4) s4 fun t56 s4 =>
 (optK (fp 0 t8) s4 fun t57 s4 => ((ld1 t57) s4 fun t58 s4 =>
 ((f10 t58 (V.int .i64 9)) s4 fun t59 s4 =>
 (optK (binV .eql (some (Kd.int .i64)) true t59 (V.int .i64 0)) s4 fun t97 s4 => (condV t97
 (condV t97
 ((f14 t4 t50 t54) s4 fun t103 s4 =>
 (optK (extractV t103 0) s4 fun t104 s4 => (optK (extractV t103 1) s4 fun t105 s4 => (optK (extractV t103 2) s4 fun t106 s4 => (optK (binV .eql (some (Kd.int .i64)) true t106 (V.int .i64 0)) s4 fun t109 s4 => (grd t109
 (optK (binV .geq (some (Kd.int .i64)) false t50 t56) s4 fun t113 s4 => (optK (binV .neq (some Kd.bool) false t105 t113) s4 fun t115 s4 => (condV t115
 (K .ret (V.junk :: (V.junk :: ((V.bool false) :: (jk 163 [])))) s4)
 (condV t105
 (optK (fp 0 t6) s4 fun t117 s4 => ((ld1 t117) s4 fun t118 s4 =>
 (optK (foldV max2V t118 [t50]) s4 fun t120 s4 => (optK (fp 0 t6) s4 fun t121 s4 => ((st 1 t121 t120) s4 fun _ s4 =>
 ((f11 t4) s4 fun t143 s4 =>
 (optK (binV .lss (some (Kd.int .i64)) false t143 t56) s4 fun t145 s4 => (condV t145
 (K .ret (V.junk :: (V.junk :: ((V.bool false) :: (jk 163 [])))) s4)
 ((f31 t3) s4 fun t147 s4 =>
 (condV t147
 ((f32 t3) s4 fun t149 s4 =>
 ((f8 t3) s4 fun t152 s4 =>
 (optK (extractV t152 0) s4 fun t153 s4 => (optK (extractV t152 1) s4 fun t154 s4 => (optK (binV .neq (some (Kd.int .i64)) true t154 (V.int .i64 0)) s4 fun t156 s4 => (grd t156
 (K .ret (V.junk :: (V.junk :: ((V.bool false) :: (jk 163 [])))) s4)
 (optK (binV .eql (some (Kd.ptr 69)) true t153 (V.ptr none)) s4 fun t159 s4 => (condV t159
 (K .ret (V.junk :: (V.junk :: ((V.bool false) :: (jk 163 [])))) s4)
 ((ldA 13 t6) s4 fun t162 s4 =>
 ((f33 t162 t153) s4 fun t164 s4 =>
 (optK (unV .not t164) s4 fun t165 s4 => (condV t165
 (K .ret (V.junk :: (V.junk :: ((V.bool false) :: (jk 163 [])))) s4)
 (optK (binV .add (some (Kd.int .i64)) true t7 (V.int .i64 1)) s4 fun t42 s4 => (K .nrm (t0 :: (V.junk :: (V.junk :: (t3 :: (t153 :: (V.junk :: (t6 :: (t42 :: (jk 158 []))))))))) s4))))))))
 False))))))
 ((ldA 13 t6) s4 fun t162 s4 =>
 ((f33 t162 t4) s4 fun t164 s4 =>
 (optK (unV .not t164) s4 fun t165 s4 => (condV t165
 (K .ret (V.junk :: (V.junk :: ((V.bool false) :: (jk 163 [])))) s4)
 (optK (binV .add (some (Kd.int .i64)) true t7 (V.int .i64 1)) s4 fun t42 s4 => (K .nrm (t0 :: (V.junk :: (V.junk :: (t3 :: (t4 :: (V.junk :: (t6 :: (t42 :: (jk 158 []))))))))) s4))))))))))))))))
 ((f11 t4) s4 fun t143 s4 =>
 (optK (binV .lss (some (Kd.int .i64)) false t143 t56) s4 fun t145 s4 => (condV t145
 (K .ret (V.junk :: (V.junk :: ((V.bool false) :: (jk 163 [])))) s4)
 ((f31 t3) s4 fun t147 s4 =>
 (condV t147
 ((f32 t3) s4 fun t149 s4 =>
 ((f8 t3) s4 fun t152 s4 =>
 (optK (extractV t152 0) s4 fun t153 s4 => (optK (extractV t152 1) s4 fun t154 s4 => (optK (binV .neq (some (Kd.int .i64)) true t154 (V.int .i64 0)) s4 fun t156 s4 => (grd t156
 (K .ret (V.junk :: (V.junk :: ((V.bool false) :: (jk 163 [])))) s4)
 (optK (binV .eql (some (Kd.ptr 69)) true t153 (V.ptr none)) s4 fun t159 s4 => (condV t159
 (K .ret (V.junk :: (V.junk :: ((V.bool false) :: (jk 163 [])))) s4)
 ((ldA 13 t6) s4 fun t162 s4 =>
 ((f33 t162 t153) s4 fun t164 s4 =>
 (optK (unV .not t164) s4 fun t165 s4 => (condV t165
 (K .ret (V.junk :: (V.junk :: ((V.bool false) :: (jk 163 [])))) s4)
 (optK (binV .add (some (Kd.int .i64)) true t7 (V.int .i64 1)) s4 fun t42 s4 => (K .nrm (t0 :: (V.junk :: (V.junk :: (t3 :: (t153 :: (V.junk :: (t6 :: (t42 :: (jk 158 []))))))))) s4))))))))
 False))))))
 ((ldA 13 t6) s4 fun t162 s4 =>
 ((f33 t162 t4) s4 fun t164 s4 =>
 (optK (unV .not t164) s4 fun t165 s4 => (condV t165
 (K .ret (V.junk :: (V.junk :: ((V.bool false) :: (jk 163 [])))) s4)
 (optK (binV .add (some (Kd.int .i64)) true t7 (V.int .i64 1)) s4 fun t42 s4 => (K .nrm (t0 :: (V.junk :: (V.junk :: (t3 :: (t4 :: (V.junk :: (t6 :: (t42 :: (jk 158 []))))))))) s4)))))))))))))))
 (optK (binV .neq (some Kd.bool) false t105 (V.bool false)) s4 fun t115 s4 => (condV t115
 (K .ret (V.junk :: (V.junk :: ((V.bool false) :: (jk 163 [])))) s4)
 (condV t105
 (optK (fp 0 t6) s4 fun t117 s4 => ((ld1 t117) s4 fun t118 s4 =>
 (optK (foldV max2V t118 [t50]) s4 fun t120 s4 => (optK (fp 0 t6) s4 fun t121 s4 => ((st 1 t121 t120) s4 fun _ s4 =>
 ((f11 t4) s4 fun t143 s4 =>
 (optK (binV .lss (some (Kd.int .i64)) false t143 t56) s4 fun t145 s4 => (condV t145
 (K .ret (V.junk :: (V.junk :: ((V.bool false) :: (jk 163 [])))) s4)
 ((f31 t3) s4 fun t147 s4 =>
 (condV t147
 ((f32 t3) s4 fun t149 s4 =>
 ((f8 t3) s4 fun t152 s4 =>
 (optK (extractV t152 0) s4 fun t153 s4 => (optK (extractV t152 1) s4 fun t154 s4 => (optK (binV .neq (some (Kd.int .i64)) true t154 (V.int .i64 0)) s4 fun t156 s4 => (grd t156
 (K .ret (V.junk :: (V.junk :: ((V.bool false) :: (jk 163 [])))) s4)
 (optK (binV .eql (some (Kd.ptr 69)) true t153 (V.ptr none)) s4 fun t159 s4 => (condV t159
 (K .ret (V.junk :: (V.junk :: ((V.bool false) :: (jk 163 [])))) s4)
 ((ldA 13 t6) s4 fun t162 s4 =>
 ((f33 t162 t153) s4 fun t164 s4 =>
 (optK (unV .not t164) s4 fun t165 s4 => (condV t165
 (K .ret (V.junk :: (V.junk :: ((V.bool false) :: (jk 163 [])))) s4)
 (optK (binV .add (some (Kd.int .i64)) true t7 (V.int .i64 1)) s4 fun t42 s4 => (K .nrm (t0 :: (V.junk :: (V.junk :: (t3 :: (t153 :: (V.junk :: (t6 :: (t42 :: (jk 158 []))))))))) s4))))))))
 False))))))
 ((ldA 13 t6) s4 fun t162 s4 =>
 ((f33 t162 t4) s4 fun t164 s4 =>
 (optK (unV .not t164) s4 fun t165 s4 => (condV t165
 (K .ret (V.junk :: (V.junk :: ((V.bool false) :: (jk 163 [])))) s4)
 (optK (binV .add (some (Kd.int .i64)) true t7 (V.int .i64 1)) s4 fun t42 s4 => (K .nrm (t0 :: (V.junk :: (V.junk :: (t3 :: (t4 :: (V.junk :: (t6 :: (t42 :: (jk 158 []))))))))) s4))))))))))))))))
 ((f11 t4) s4 fun t143 s4 =>
 (optK (binV .lss (some (Kd.int .i64)) false t143 t56) s4 fun t145 s4 => (condV t145
 (K .ret (V.junk :: (V.junk :: ((V.bool false) :: (jk 163 [])))) s4)
 ((f31 t3) s4 fun t147 s4 =>
 (condV t147
 ((f32 t3) s4 fun t149 s4 =>
 ((f8 t3) s4 fun t152 s4 =>
 (optK (extractV t152 0) s4 fun t153 s4 => (optK (extractV t152 1) s4 fun t154 s4 => (optK (binV .neq (some (Kd.int .i64)) true t154 (V.int .i64 0)) s4 fun t156 s4 => (grd t156
 (K .ret (V.junk :: (V.junk :: ((V.bool false) :: (jk 163 [])))) s4)
 (optK (binV .eql (some (Kd.ptr 69)) true t153 (V.ptr none)) s4 fun t159 s4 => (condV t159
 (K .ret (V.junk :: (V.junk :: ((V.bool false) :: (jk 163 [])))) s4)
 ((ldA 13 t6) s4 fun t162 s4 =>
 ((f33 t162 t153) s4 fun t164 s4 =>
 (optK (unV .not t164) s4 fun t165 s4 => (condV t165
 (K .ret (V.junk :: (V.junk :: ((V.bool false) :: (jk 163 [])))) s4)
 (optK (binV .add (some (Kd.int .i64)) true t7 (V.int .i64 1)) s4 fun t42 s4 => (K .nrm (t0 :: (V.junk :: (V.junk :: (t3 :: (t153 :: (V.junk :: (t6 :: (t42 :: (jk 158 []))))))))) s4))))))))
 False))))))
 ((ldA 13 t6) s4 fun t162 s4 =>
 ((f33 t162 t4) s4 fun t164 s4 =>
 (optK (unV .not t164) s4 fun t165 s4 => (condV t165
 (K .ret (V.junk :: (V.junk :: ((V.bool false) :: (jk 163 [])))) s4)
 (optK (binV .add (some (Kd.int .i64)) true t7 (V.int .i64 1)) s4 fun t42 s4 => (K .nrm (t0 :: (V.junk :: (V.junk :: (t3 :: (t4 :: (V.junk :: (t6 :: (t42 :: (jk 158 []))))))))) s4))))))))))))))
 False))))))
 (optK (binV .eql (some (Kd.int .i64)) true t59 (V.int .i64 5)) s4 fun t123 s4 => (condV t123
 ((f17 t4 t54) s4 fun t126 s4 =>
 ((f11 t4) s4 fun t143 s4 =>
 (optK (binV .lss (some (Kd.int .i64)) false t143 t56) s4 fun t145 s4 => (condV t145
 (K .ret (V.junk :: (V.junk :: ((V.bool false) :: (jk 163 [])))) s4)
 ((f31 t3) s4 fun t147 s4 =>
 (condV t147
 ((f32 t3) s4 fun t149 s4 =>
 ((f8 t3) s4 fun t152 s4 =>
 (optK (extractV t152 0) s4 fun t153 s4 => (optK (extractV t152 1) s4 fun t154 s4 => (optK (binV .neq (some (Kd.int .i64)) true t154 (V.int .i64 0)) s4 fun t156 s4 => (grd t156
 (K .ret (V.junk :: (V.junk :: ((V.bool false) :: (jk 163 [])))) s4)
 (optK (binV .eql (some (Kd.ptr 69)) true t153 (V.ptr none)) s4 fun t159 s4 => (condV t159
 (K .ret (V.junk :: (V.junk :: ((V.bool false) :: (jk 163 [])))) s4)
 ((ldA 13 t6) s4 fun t162 s4 =>
 ((f33 t162 t153) s4 fun t164 s4 =>
 (optK (unV .not t164) s4 fun t165 s4 => (condV t165
 (K .ret (V.junk :: (V.junk :: ((V.bool false) :: (jk 163 [])))) s4)
 (optK (binV .add (some (Kd.int .i64)) true t7 (V.int .i64 1)) s4 fun t42 s4 => (K .nrm (t0 :: (V.junk :: (V.junk :: (t3 :: (t153 :: (V.junk :: (t6 :: (t42 :: (jk 158 []))))))))) s4))))))))
 False))))))
 ((ldA 13 t6) s4 fun t162 s4 =>
 ((f33 t162 t4) s4 fun t164 s4 =>
 (optK (unV .not t164) s4 fun t165 s4 => (condV t165
 (K .ret (V.junk :: (V.junk :: ((V.bool false) :: (jk 163 [])))) s4)
 (optK (binV .add (some (Kd.int .i64)) true t7 (V.int .i64 1)) s4 fun t42 s4 => (K .nrm (t0 :: (V.junk :: (V.junk :: (t3 :: (t4 :: (V.junk :: (t6 :: (t42 :: (jk 158 []))))))))) s4))))))))))))
 (optK (binV .eql (some (Kd.int .i64)) true t59 (V.int .i64 6)) s4 fun t128 s4 => (condV t128
 (optK (fp 1 t8) s4 fun t130 s4 => ((ld1 t130) s4 fun t131 s4 =>
 ((f10 t131 (V.int .i64 40)) s4 fun t132 s4 =>
 ((f28 t3 t132) s4 fun t133 s4 =>
 ((f11 t4) s4 fun t143 s4 =>
 (optK (binV .lss (some (Kd.int .i64)) false t143 t56) s4 fun t145 s4 => (condV t145
 (K .ret (V.junk :: (V.junk :: ((V.bool false) :: (jk 163 [])))) s4)
 ((f31 t3) s4 fun t147 s4 =>
 (condV t147
 ((f32 t3) s4 fun t149 s4 =>
 ((f8 t3) s4 fun t152 s4 =>
 (optK (extractV t152 0) s4 fun t153 s4 => (optK (extractV t152 1) s4 fun t154 s4 => (optK (binV .neq (some (Kd.int .i64)) true t154 (V.int .i64 0)) s4 fun t156 s4 => (grd t156
 (K .ret (V.junk :: (V.junk :: ((V.bool false) :: (jk 163 [])))) s4)
 (optK (binV .eql (some (Kd.ptr 69)) true t153 (V.ptr none)) s4 fun t159 s4 => (condV t159
 (K .ret (V.junk :: (V.junk :: ((V.bool false) :: (jk 163 [])))) s4)
 ((ldA 13 t6) s4 fun t162 s4 =>
 ((f33 t162 t153) s4 fun t164 s4 =>
 (optK (unV .not t164) s4 fun t165 s4 => (condV t165
 (K .ret (V.junk :: (V.junk :: ((V.bool false) :: (jk 163 [])))) s4)
 (optK (binV .add (some (Kd.int .i64)) true t7 (V.int .i64 1)) s4 fun t42 s4 => (K .nrm (t0 :: (V.junk :: (V.junk :: (t3 :: (t153 :: (V.junk :: (t6 :: (t42 :: (jk 158 []))))))))) s4))))))))
 False))))))
 ((ldA 13 t6) s4 fun t162 s4 =>
 ((f33 t162 t4) s4 fun t164 s4 =>
 (optK (unV .not t164) s4 fun t165 s4 => (condV t165
 (K .ret (V.junk :: (V.junk :: ((V.bool false) :: (jk 163 [])))) s4)
 (optK (binV .add (some (Kd.int .i64)) true t7 (V.int .i64 1)) s4 fun t42 s4 => (K .nrm (t0 :: (V.junk :: (V.junk :: (t3 :: (t4 :: (V.junk :: (t6 :: (t42 :: (jk 158 []))))))))) s4)))))))))))))))
 (optK (binV .eql (some (Kd.int .i64)) true t59 (V.int .i64 7)) s4 fun t135 s4 => (condV t135
 (condV t135
 (optK (fp 2 t8) s4 fun t138 s4 => ((ld1 t138) s4 fun t139 s4 =>
 ((f10 t139 (V.int .i64 9)) s4 fun t140 s4 =>
 ((f30 t3 t140) s4 fun t141 s4 =>
 ((f11 t4) s4 fun t143 s4 =>
 (optK (binV .lss (some (Kd.int .i64)) false t143 t56) s4 fun t145 s4 => (condV t145
 (K .ret (V.junk :: (V.junk :: ((V.bool false) :: (jk 163 [])))) s4)
 ((f31 t3) s4 fun t147 s4 =>
 (condV t147
 ((f32 t3) s4 fun t149 s4 =>
 ((f8 t3) s4 fun t152 s4 =>
 (optK (extractV t152 0) s4 fun t153 s4 => (optK (extractV t152 1) s4 fun t154 s4 => (optK (binV .neq (some (Kd.int .i64)) true t154 (V.int .i64 0)) s4 fun t156 s4 => (grd t156
 (K .ret (V.junk :: (V.junk :: ((V.bool false) :: (jk 163 [])))) s4)
 (optK (binV .eql (some (Kd.ptr 69)) true t153 (V.ptr none)) s4 fun t159 s4 => (condV t159
 (K .ret (V.junk :: (V.junk :: ((V.bool false) :: (jk 163 [])))) s4)
 ((ldA 13 t6) s4 fun t162 s4 =>
 ((f33 t162 t153) s4 fun t164 s4 =>
 (optK (unV .not t164) s4 fun t165 s4 => (condV t165
 (K .ret (V.junk :: (V.junk :: ((V.bool false) :: (jk 163 [])))) s4)
 (optK (binV .add (some (Kd.int .i64)) true t7 (V.int .i64 1)) s4 fun t42 s4 => (K .nrm (t0 :: (V.junk :: (V.junk :: (t3 :: (t153 :: (V.junk :: (t6 :: (t42 :: (jk 158 []))))))))) s4))))))))
 False))))))
 ((ldA 13 t6) s4 fun t162 s4 =>
 ((f33 t162 t4) s4 fun t164 s4 =>
 (optK (unV .not t164) s4 fun t165 s4 => (condV t165
 (K .ret (V.junk :: (V.junk :: ((V.bool false) :: (jk 163 [])))) s4)
 (optK (binV .add (some (Kd.int .i64)) true t7 (V.int .i64 1)) s4 fun t42 s4 => (K .nrm (t0 :: (V.junk :: (V.junk :: (t3 :: (t4 :: (V.junk :: (t6 :: (t42 :: (jk 158 []))))))))) s4)))))))))))))))
 (optK (fp 1 t8) s4 fun t64 s4 => ((ld1 t64) s4 fun t65 s4 =>
 ((f13 t54 t65) s4 fun t66 s4 =>
 ((f12 t4 t50 t66) s4 fun t67 s4 =>
 (optK (extractV t67 0) s4 fun t68 s4 => (optK (extractV t67 1) s4 fun t69 s4 => (grd t68
 (optK (binV .neq (some (Kd.int .i64)) true t69 (V.int .i64 0)) s4 fun t73 s4 => (grd t73
 (K .ret (V.junk :: (V.junk :: ((V.bool false) :: (jk 163 [])))) s4)
 (optK (binV .lss (some (Kd.int .i64)) false t50 t56) s4 fun t77 s4 => (grd t77
 (K .ret (V.junk :: (V.junk :: ((V.bool false) :: (jk 163 [])))) s4)
 ((f18 t4) s4 fun t82 s4 =>
 (optK (binV .lss (some (Kd.int .i64)) false t54 t82) s4 fun t83 s4 => (condV t83
 (K .ret (V.junk :: (V.junk :: ((V.bool false) :: (jk 163 [])))) s4)
 (condV t68
 (optK (fp 0 t6) s4 fun t87 s4 => ((ld1 t87) s4 fun t88 s4 =>
 (optK (foldV max2V t88 [t50]) s4 fun t90 s4 => (optK (fp 0 t6) s4 fun t91 s4 => ((st 1 t91 t90) s4 fun _ s4 =>
 (optK (fp 1 t6) s4 fun t94 s4 => (optK (elemPtr (some 12) 1 t94 t54) s4 fun t95 s4 => ((st 1 t95 t50) s4 fun _ s4 =>
 ((f11 t4) s4 fun t143 s4 =>
 (optK (binV .lss (some (Kd.int .i64)) false t143 t56) s4 fun t145 s4 => (condV t145
 (K .ret (V.junk :: (V.junk :: ((V.bool false) :: (jk 163 [])))) s4)
 ((f31 t3) s4 fun t147 s4 =>
 (condV t147
 ((f32 t3) s4 fun t149 s4 =>
 ((f8 t3) s4 fun t152 s4 =>
 (optK (extractV t152 0) s4 fun t153 s4 => (optK (extractV t152 1) s4 fun t154 s4 => (optK (binV .neq (some (Kd.int .i64)) true t154 (V.int .i64 0)) s4 fun t156 s4 => (grd t156
 (K .ret (V.junk :: (V.junk :: ((V.bool false) :: (jk 163 [])))) s4)
 (optK (binV .eql (some (Kd.ptr 69)) true t153 (V.ptr none)) s4 fun t159 s4 => (condV t159
 (K .ret (V.junk :: (V.junk :: ((V.bool false) :: (jk 163 [])))) s4)
 ((ldA 13 t6) s4 fun t162 s4 =>
 ((f33 t162 t153) s4 fun t164 s4 =>
 (optK (unV .not t164) s4 fun t165 s4 => (condV t165
 (K .ret (V.junk :: (V.junk :: ((V.bool false) :: (jk 163 [])))) s4)
 (optK (binV .add (some (Kd.int .i64)) true t7 (V.int .i64 1)) s4 fun t42 s4 => (K .nrm (t0 :: (V.junk :: (V.junk :: (t3 :: (t153 :: (V.junk :: (t6 :: (t42 :: (jk 158 []))))))))) s4))))))))
 False))))))
 ((ldA 13 t6) s4 fun t162 s4 =>
 ((f33 t162 t4) s4 fun t164 s4 =>
 (optK (unV .not t164) s4 fun t165 s4 => (condV t165
 (K .ret (V.junk :: (V.junk :: ((V.bool false) :: (jk 163 [])))) s4)
 (optK (binV .add (some (Kd.int .i64)) true t7 (V.int .i64 1)) s4 fun t42 s4 => (K .nrm (t0 :: (V.junk :: (V.junk :: (t3 :: (t4 :: (V.junk :: (t6 :: (t42 :: (jk 158 []))))))))) s4)))))))))))))))))))
 ((f11 t4) s4 fun t143 s4 =>
 (optK (binV .lss (some (Kd.int .i64)) false t143 t56) s4 fun t145 s4 => (condV t145
 (K .ret (V.junk :: (V.junk :: ((V.bool false) :: (jk 163 [])))) s4)
 ((f31 t3) s4 fun t147 s4 =>
 (condV t147
 ((f32 t3) s4 fun t149 s4 =>
 ((f8 t3) s4 fun t152 s4 =>
 (optK (extractV t152 0) s4 fun t153 s4 => (optK (extractV t152 1) s4 fun t154 s4 => (optK (binV .neq (some (Kd.int .i64)) true t154 (V.int .i64 0)) s4 fun t156 s4 => (grd t156
 (K .ret (V.junk :: (V.junk :: ((V.bool false) :: (jk 163 [])))) s4)
 (optK (binV .eql (some (Kd.ptr 69)) true t153 (V.ptr none)) s4 fun t159 s4 => (condV t159
 (K .ret (V.junk :: (V.junk :: ((V.bool false) :: (jk 163 [])))) s4)
 ((ldA 13 t6) s4 fun t162 s4 =>
 ((f33 t162 t153) s4 fun t164 s4 =>
 (optK (unV .not t164) s4 fun t165 s4 => (condV t165
 (K .ret (V.junk :: (V.junk :: ((V.bool false) :: (jk 163 [])))) s4)
 (optK (binV .add (some (Kd.int .i64)) true t7 (V.int .i64 1)) s4 fun t42 s4 => (K .nrm (t0 :: (V.junk :: (V.junk :: (t3 :: (t153 :: (V.junk :: (t6 :: (t42 :: (jk 158 []))))))))) s4))))))))
 False))))))
 ((ldA 13 t6) s4 fun t162 s4 =>
 ((f33 t162 t4) s4 fun t164 s4 =>
 (optK (unV .not t164) s4 fun t165 s4 => (condV t165
 (K .ret (V.junk :: (V.junk :: ((V.bool false) :: (jk 163 [])))) s4)
 (optK (binV .add (some (Kd.int .i64)) true t7 (V.int .i64 1)) s4 fun t42 s4 => (K .nrm (t0 :: (V.junk :: (V.junk :: (t3 :: (t4 :: (V.junk :: (t6 :: (t42 :: (jk 158 []))))))))) s4)))))))))))))))
 False))
 False))
 (condV t68
 (optK (fp 0 t6) s4 fun t87 s4 => ((ld1 t87) s4 fun t88 s4 =>
 (optK (foldV max2V t88 [t50]) s4 fun t90 s4 => (optK (fp 0 t6) s4 fun t91 s4 => ((st 1 t91 t90) s4 fun _ s4 =>
 (optK (fp 1 t6) s4 fun t94 s4 => (optK (elemPtr (some 12) 1 t94 t54) s4 fun t95 s4 => ((st 1 t95 t50) s4 fun _ s4 =>
 ((f11 t4) s4 fun t143 s4 =>
 (optK (binV .lss (some (Kd.int .i64)) false t143 t56) s4 fun t145 s4 => (condV t145
 (K .ret (V.junk :: (V.junk :: ((V.bool false) :: (jk 163 [])))) s4)
 ((f31 t3) s4 fun t147 s4 =>
 (condV t147
 ((f32 t3) s4 fun t149 s4 =>
 ((f8 t3) s4 fun t152 s4 =>
 (optK (extractV t152 0) s4 fun t153 s4 => (optK (extractV t152 1) s4 fun t154 s4 => (optK (binV .neq (some (Kd.int .i64)) true t154 (V.int .i64 0)) s4 fun t156 s4 => (grd t156
 (K .ret (V.junk :: (V.junk :: ((V.bool false) :: (jk 163 [])))) s4)
 (optK (binV .eql (some (Kd.ptr 69)) true t153 (V.ptr none)) s4 fun t159 s4 => (condV t159
 (K .ret (V.junk :: (V.junk :: ((V.bool false) :: (jk 163 [])))) s4)
 ((ldA 13 t6) s4 fun t162 s4 =>
 ((f33 t162 t153) s4 fun t164 s4 =>
 (optK (unV .not t164) s4 fun t165 s4 => (condV t165
 (K .ret (V.junk :: (V.junk :: ((V.bool false) :: (jk 163 [])))) s4)
 (optK (binV .add (some (Kd.int .i64)) true t7 (V.int .i64 1)) s4 fun t42 s4 => (K .nrm (t0 :: (V.junk :: (V.junk :: (t3 :: (t153 :: (V.junk :: (t6 :: (t42 :: (jk 158 []))))))))) s4))))))))
 False))))))
 ((ldA 13 t6) s4 fun t162 s4 =>
 ((f33 t162 t4) s4 fun t164 s4 =>
 (optK (unV .not t164) s4 fun t165 s4 => (condV t165
 (K .ret (V.junk :: (V.junk :: ((V.bool false) :: (jk 163 [])))) s4)
 (optK (binV .add (some (Kd.int .i64)) true t7 (V.int .i64 1)) s4 fun t42 s4 => (K .nrm (t0 :: (V.junk :: (V.junk :: (t3 :: (t4 :: (V.junk :: (t6 :: (t42 :: (jk 158 []))))))))) s4)))))))))))))))))))
 ((f11 t4) s4 fun t143 s4 =>
 (optK (binV .lss (some (Kd.int .i64)) false t143 t56) s4 fun t145 s4 => (condV t145
 (K .ret (V.junk :: (V.junk :: ((V.bool false) :: (jk 163 [])))) s4)
 ((f31 t3) s4 fun t147 s4 =>
 (condV t147
 ((f32 t3) s4 fun t149 s4 =>
 ((f8 t3) s4 fun t152 s4 =>
 (optK (extractV t152 0) s4 fun t153 s4 => (optK (extractV t152 1) s4 fun t154 s4 => (optK (binV .neq (some (Kd.int .i64)) true t154 (V.int .i64 0)) s4 fun t156 s4 => (grd t156
 (K .ret (V.junk :: (V.junk :: ((V.bool false) :: (jk 163 [])))) s4)
 (optK (binV .eql (some (Kd.ptr 69)) true t153 (V.ptr none)) s4 fun t159 s4 => (condV t159
 (K .ret (V.junk :: (V.junk :: ((V.bool false) :: (jk 163 [])))) s4)
 ((ldA 13 t6) s4 fun t162 s4 =>
 ((f33 t162 t153) s4 fun t164 s4 =>
 (optK (unV .not t164) s4 fun t165 s4 => (condV t165
 (K .ret (V.junk :: (V.junk :: ((V.bool false) :: (jk 163 [])))) s4)
 (optK (binV .add (some (Kd.int .i64)) true t7 (V.int .i64 1)) s4 fun t42 s4 => (K .nrm (t0 :: (V.junk :: (V.junk :: (t3 :: (t153 :: (V.junk :: (t6 :: (t42 :: (jk 158 []))))))))) s4))))))))
 False))))))
 ((ldA 13 t6) s4 fun t162 s4 =>
 ((f33 t162 t4) s4 fun t164 s4 =>
 (optK (unV .not t164) s4 fun t165 s4 => (condV t165
 (K .ret (V.junk :: (V.junk :: ((V.bool false) :: (jk 163 [])))) s4)
 (optK (binV .add (some (Kd.int .i64)) true t7 (V.int .i64 1)) s4 fun t42 s4 => (K .nrm (t0 :: (V.junk :: (V.junk :: (t3 :: (t4 :: (V.junk :: (t6 :: (t42 :: (jk 158 []))))))))) s4))))))))))))
 False))))))))
 (optK (binV .eql (some (Kd.int .i64)) true t59 (V.int .i64 8)) s4 fun t136 s4 => (condV t136
 (optK (fp 2 t8) s4 fun t138 s4 => ((ld1 t138) s4 fun t139 s4 =>
 ((f10 t139 (V.int .i64 9)) s4 fun t140 s4 =>
 ((f30 t3 t140) s4 fun t141 s4 =>
 ((f11 t4) s4 fun t143 s4 =>
 (optK (binV .lss (some (Kd.int .i64)) false t143 t56) s4 fun t145 s4 => (condV t145
 (K .ret (V.junk :: (V.junk :: ((V.bool false) :: (jk 163 [])))) s4)
 ((f31 t3) s4 fun t147 s4 =>
 (condV t147
 ((f32 t3) s4 fun t149 s4 =>
 ((f8 t3) s4 fun t152 s4 =>
 (optK (extractV t152 0) s4 fun t153 s4 => (optK (extractV t152 1) s4 fun t154 s4 => (optK (binV .neq (some (Kd.int .i64)) true t154 (V.int .i64 0)) s4 fun t156 s4 => (grd t156
 (K .ret (V.junk :: (V.junk :: ((V.bool false) :: (jk 163 [])))) s4)
 (optK (binV .eql (some (Kd.ptr 69)) true t153 (V.ptr none)) s4 fun t159 s4 => (condV t159
 (K .ret (V.junk :: (V.junk :: ((V.bool false) :: (jk 163 [])))) s4)
 ((ldA 13 t6) s4 fun t162 s4 =>
 ((f33 t162 t153) s4 fun t164 s4 =>
 (optK (unV .not t164) s4 fun t165 s4 => (condV t165
 (K .ret (V.junk :: (V.junk :: ((V.bool false) :: (jk 163 [])))) s4)
 (optK (binV .add (some (Kd.int .i64)) true t7 (V.int .i64 1)) s4 fun t42 s4 => (K .nrm (t0 :: (V.junk :: (V.junk :: (t3 :: (t153 :: (V.junk :: (t6 :: (t42 :: (jk 158 []))))))))) s4))))))))
 False))))))
 ((ldA 13 t6) s4 fun t162 s4 =>
 ((f33 t162 t4) s4 fun t164 s4 =>
 (optK (unV .not t164) s4 fun t165 s4 => (condV t165
 (K .ret (V.junk :: (V.junk :: ((V.bool false) :: (jk 163 [])))) s4)
 (optK (binV .add (some (Kd.int .i64)) true t7 (V.int .i64 1)) s4 fun t42 s4 => (K .nrm (t0 :: (V.junk :: (V.junk :: (t3 :: (t4 :: (V.junk :: (t6 :: (t42 :: (jk 158 []))))))))) s4)))))))))))))))
 (optK (fp 1 t8) s4 fun t64 s4 => ((ld1 t64) s4 fun t65 s4 =>
 ((f13 t54 t65) s4 fun t66 s4 =>
 ((f12 t4 t50 t66) s4 fun t67 s4 =>
 (optK (extractV t67 0) s4 fun t68 s4 => (optK (extractV t67 1) s4 fun t69 s4 => (grd t68
 (optK (binV .neq (some (Kd.int .i64)) true t69 (V.int .i64 0)) s4 fun t73 s4 => (grd t73
 (K .ret (V.junk :: (V.junk :: ((V.bool false) :: (jk 163 [])))) s4)
 (optK (binV .lss (some (Kd.int .i64)) false t50 t56) s4 fun t77 s4 => (grd t77
 (K .ret (V.junk :: (V.junk :: ((V.bool false) :: (jk 163 [])))) s4)
 ((f18 t4) s4 fun t82 s4 =>
 (optK (binV .lss (some (Kd.int .i64)) false t54 t82) s4 fun t83 s4 => (condV t83
 (K .ret (V.junk :: (V.junk :: ((V.bool false) :: (jk 163 [])))) s4)
 (condV t68
 (optK (fp 0 t6) s4 fun t87 s4 => ((ld1 t87) s4 fun t88 s4 =>
 (optK (foldV max2V t88 [t50]) s4 fun t90 s4 => (optK (fp 0 t6) s4 fun t91 s4 => ((st 1 t91 t90) s4 fun _ s4 =>
 (optK (fp 1 t6) s4 fun t94 s4 => (optK (elemPtr (some 12) 1 t94 t54) s4 fun t95 s4 => ((st 1 t95 t50) s4 fun _ s4 =>
 ((f11 t4) s4 fun t143 s4 =>
 (optK (binV .lss (some (Kd.int .i64)) false t143 t56) s4 fun t145 s4 => (condV t145
 (K .ret (V.junk :: (V.junk :: ((V.bool false) :: (jk 163 [])))) s4)
 ((f31 t3) s4 fun t147 s4 =>
 (condV t147
 ((f32 t3) s4 fun t149 s4 =>
 ((f8 t3) s4 fun t152 s4 =>
 (optK (extractV t152 0) s4 fun t153 s4 => (optK (extractV t152 1) s4 fun t154 s4 => (optK (binV .neq (some (Kd.int .i64)) true t154 (V.int .i64 0)) s4 fun t156 s4 => (grd t156
 (K .ret (V.junk :: (V.junk :: ((V.bool false) :: (jk 163 [])))) s4)
 (optK (binV .eql (some (Kd.ptr 69)) true t153 (V.ptr none)) s4 fun t159 s4 => (condV t159
 (K .ret (V.junk :: (V.junk :: ((V.bool false) :: (jk 163 [])))) s4)
 ((ldA 13 t6) s4 fun t162 s4 =>
 ((f33 t162 t153) s4 fun t164 s4 =>
 (optK (unV .not t164) s4 fun t165 s4 => (condV t165
 (K .ret (V.junk :: (V.junk :: ((V.bool false) :: (jk 163 [])))) s4)
 (optK (binV .add (some (Kd.int .i64)) true t7 (V.int .i64 1)) s4 fun t42 s4 => (K .nrm (t0 :: (V.junk :: (V.junk :: (t3 :: (t153 :: (V.junk :: (t6 :: (t42 :: (jk 158 []))))))))) s4))))))))
 False))))))
 ((ldA 13 t6) s4 fun t162 s4 =>
 ((f33 t162 t4) s4 fun t164 s4 =>
 (optK (unV .not t164) s4 fun t165 s4 => (condV t165
 (K .ret (V.junk :: (V.junk :: ((V.bool false) :: (jk 163 [])))) s4)
 (optK (binV .add (some (Kd.int .i64)) true t7 (V.int .i64 1)) s4 fun t42 s4 => (K .nrm (t0 :: (V.junk :: (V.junk :: (t3 :: (t4 :: (V.junk :: (t6 :: (t42 :: (jk 158 []))))))))) s4)))))))))))))))))))
 ((f11 t4) s4 fun t143 s4 =>
 (optK (binV .lss (some (Kd.int .i64)) false t143 t56) s4 fun t145 s4 => (condV t145
 (K .ret (V.junk :: (V.junk :: ((V.bool false) :: (jk 163 [])))) s4)
 ((f31 t3) s4 fun t147 s4 =>
 (condV t147
 ((f32 t3) s4 fun t149 s4 =>
 ((f8 t3) s4 fun t152 s4 =>
 (optK (extractV t152 0) s4 fun t153 s4 => (optK (extractV t152 1) s4 fun t154 s4 => (optK (binV .neq (some (Kd.int .i64)) true t154 (V.int .i64 0)) s4 fun t156 s4 => (grd t156
 (K .ret (V.junk :: (V.junk :: ((V.bool false) :: (jk 163 [])))) s4)
 (optK (binV .eql (some (Kd.ptr 69)) true t153 (V.ptr none)) s4 fun t159 s4 => (condV t159
 (K .ret (V.junk :: (V.junk :: ((V.bool false) :: (jk 163 [])))) s4)
 ((ldA 13 t6) s4 fun t162 s4 =>
 ((f33 t162 t153) s4 fun t164 s4 =>
 (optK (unV .not t164) s4 fun t165 s4 => (condV t165
 (K .ret (V.junk :: (V.junk :: ((V.bool false) :: (jk 163 [])))) s4)
 (optK (binV .add (some (Kd.int .i64)) true t7 (V.int .i64 1)) s4 fun t42 s4 => (K .nrm (t0 :: (V.junk :: (V.junk :: (t3 :: (t153 :: (V.junk :: (t6 :: (t42 :: (jk 158 []))))))))) s4))))))))
 False))))))
 ((ldA 13 t6) s4 fun t162 s4 =>
 ((f33 t162 t4) s4 fun t164 s4 =>
 (optK (unV .not t164) s4 fun t165 s4 => (condV t165
 (K .ret (V.junk :: (V.junk :: ((V.bool false) :: (jk 163 [])))) s4)
 (optK (binV .add (some (Kd.int .i64)) true t7 (V.int .i64 1)) s4 fun t42 s4 => (K .nrm (t0 :: (V.junk :: (V.junk :: (t3 :: (t4 :: (V.junk :: (t6 :: (t42 :: (jk 158 []))))))))) s4)))))))))))))))
 False))
 False))
 (condV t68
 (optK (fp 0 t6) s4 fun t87 s4 => ((ld1 t87) s4 fun t88 s4 =>
 (optK (foldV max2V t88 [t50]) s4 fun t90 s4 => (optK (fp 0 t6) s4 fun t91 s4 => ((st 1 t91 t90) s4 fun _ s4 =>
 (optK (fp 1 t6) s4 fun t94 s4 => (optK (elemPtr (some 12) 1 t94 t54) s4 fun t95 s4 => ((st 1 t95 t50) s4 fun _ s4 =>
 ((f11 t4) s4 fun t143 s4 =>
 (optK (binV .lss (some (Kd.int .i64)) false t143 t56) s4 fun t145 s4 => (condV t145
 (K .ret (V.junk :: (V.junk :: ((V.bool false) :: (jk 163 [])))) s4)
 ((f31 t3) s4 fun t147 s4 =>
 (condV t147
 ((f32 t3) s4 fun t149 s4 =>
 ((f8 t3) s4 fun t152 s4 =>
 (optK (extractV t152 0) s4 fun t153 s4 => (optK (extractV t152 1) s4 fun t154 s4 => (optK (binV .neq (some (Kd.int .i64)) true t154 (V.int .i64 0)) s4 fun t156 s4 => (grd t156
 (K .ret (V.junk :: (V.junk :: ((V.bool false) :: (jk 163 [])))) s4)
 (optK (binV .eql (some (Kd.ptr 69)) true t153 (V.ptr none)) s4 fun t159 s4 => (condV t159
 (K .ret (V.junk :: (V.junk :: ((V.bool false) :: (jk 163 [])))) s4)
 ((ldA 13 t6) s4 fun t162 s4 =>
 ((f33 t162 t153) s4 fun t164 s4 =>
 (optK (unV .not t164) s4 fun t165 s4 => (condV t165
 (K .ret (V.junk :: (V.junk :: ((V.bool false) :: (jk 163 [])))) s4)
 (optK (binV .add (some (Kd.int .i64)) true t7 (V.int .i64 1)) s4 fun t42 s4 => (K .nrm (t0 :: (V.junk :: (V.junk :: (t3 :: (t153 :: (V.junk :: (t6 :: (t42 :: (jk 158 []))))))))) s4))))))))
 False))))))
 ((ldA 13 t6) s4 fun t162 s4 =>
 ((f33 t162 t4) s4 fun t164 s4 =>
 (optK (unV .not t164) s4 fun t165 s4 => (condV t165
 (K .ret (V.junk :: (V.junk :: ((V.bool false) :: (jk 163 [])))) s4)
 (optK (binV .add (some (Kd.int .i64)) true t7 (V.int .i64 1)) s4 fun t42 s4 => (K .nrm (t0 :: (V.junk :: (V.junk :: (t3 :: (t4 :: (V.junk :: (t6 :: (t42 :: (jk 158 []))))))))) s4)))))))))))))))))))
 ((f11 t4) s4 fun t143 s4 =>
 (optK (binV .lss (some (Kd.int .i64)) false t143 t56) s4 fun t145 s4 => (condV t145
 (K .ret (V.junk :: (V.junk :: ((V.bool false) :: (jk 163 [])))) s4)
 ((f31 t3) s4 fun t147 s4 =>
 (condV t147
 ((f32 t3) s4 fun t149 s4 =>
 ((f8 t3) s4 fun t152 s4 =>
 (optK (extractV t152 0) s4 fun t153 s4 => (optK (extractV t152 1) s4 fun t154 s4 => (optK (binV .neq (some (Kd.int .i64)) true t154 (V.int .i64 0)) s4 fun t156 s4 => (grd t156
 (K .ret (V.junk :: (V.junk :: ((V.bool false) :: (jk 163 [])))) s4)
 (optK (binV .eql (some (Kd.ptr 69)) true t153 (V.ptr none)) s4 fun t159 s4 => (condV t159
 (K .ret (V.junk :: (V.junk :: ((V.bool false) :: (jk 163 [])))) s4)
 ((ldA 13 t6) s4 fun t162 s4 =>
 ((f33 t162 t153) s4 fun t164 s4 =>
 (optK (unV .not t164) s4 fun t165 s4 => (condV t165
 (K .ret (V.junk :: (V.junk :: ((V.bool false) :: (jk 163 [])))) s4)
 (optK (binV .add (some (Kd.int .i64)) true t7 (V.int .i64 1)) s4 fun t42 s4 => (K .nrm (t0 :: (V.junk :: (V.junk :: (t3 :: (t153 :: (V.junk :: (t6 :: (t42 :: (jk 158 []))))))))) s4))))))))
 False))))))
 ((ldA 13 t6) s4 fun t162 s4 =>
 ((f33 t162 t4) s4 fun t164 s4 =>
 (optK (unV .not t164) s4 fun t165 s4 => (condV t165
 (K .ret (V.junk :: (V.junk :: ((V.bool false) :: (jk 163 [])))) s4)
 (optK (binV .add (some (Kd.int .i64)) true t7 (V.int .i64 1)) s4 fun t42 s4 => (K .nrm (t0 :: (V.junk :: (V.junk :: (t3 :: (t4 :: (V.junk :: (t6 :: (t42 :: (jk 158 []))))))))) s4))))))))))))
 False))))))))))))))))
 (optK (binV .eql (some (Kd.int .i64)) true t59 (V.int .i64 1)) s4 fun t98 s4 => (condV t98
 ((f14 t4 t50 t54) s4 fun t103 s4 =>
 (optK (extractV t103 0) s4 fun t104 s4 => (optK (extractV t103 1) s4 fun t105 s4 => (optK (extractV t103 2) s4 fun t106 s4 => (optK (binV .eql (some (Kd.int .i64)) true t106 (V.int .i64 0)) s4 fun t109 s4 => (grd t109
 (optK (binV .geq (some (Kd.int .i64)) false t50 t56) s4 fun t113 s4 => (optK (binV .neq (some Kd.bool) false t105 t113) s4 fun t115 s4 => (condV t115
 (K .ret (V.junk :: (V.junk :: ((V.bool false) :: (jk 163 [])))) s4)
 (condV t105
 (optK (fp 0 t6) s4 fun t117 s4 => ((ld1 t117) s4 fun t118 s4 =>
 (optK (foldV max2V t118 [t50]) s4 fun t120 s4 => (optK (fp 0 t6) s4 fun t121 s4 => ((st 1 t121 t120) s4 fun _ s4 =>
 ((f11 t4) s4 fun t143 s4 =>
 (optK (binV .lss (some (Kd.int .i64)) false t143 t56) s4 fun t145 s4 => (condV t145
 (K .ret (V.junk :: (V.junk :: ((V.bool false) :: (jk 163 [])))) s4)
 ((f31 t3) s4 fun t147 s4 =>
 (condV t147
 ((f32 t3) s4 fun t149 s4 =>
 ((f8 t3) s4 fun t152 s4 =>
 (optK (extractV t152 0) s4 fun t153 s4 => (optK (extractV t152 1) s4 fun t154 s4 => (optK (binV .neq (some (Kd.int .i64)) true t154 (V.int .i64 0)) s4 fun t156 s4 => (grd t156
 (K .ret (V.junk :: (V.junk :: ((V.bool false) :: (jk 163 [])))) s4)
 (optK (binV .eql (some (Kd.ptr 69)) true t153 (V.ptr none)) s4 fun t159 s4 => (condV t159
 (K .ret (V.junk :: (V.junk :: ((V.bool false) :: (jk 163 [])))) s4)
 ((ldA 13 t6) s4 fun t162 s4 =>
 ((f33 t162 t153) s4 fun t164 s4 =>
 (optK (unV .not t164) s4 fun t165 s4 => (condV t165
 (K .ret (V.junk :: (V.junk :: ((V.bool false) :: (jk 163 [])))) s4)
 (optK (binV .add (some (Kd.int .i64)) true t7 (V.int .i64 1)) s4 fun t42 s4 => (K .nrm (t0 :: (V.junk :: (V.junk :: (t3 :: (t153 :: (V.junk :: (t6 :: (t42 :: (jk 158 []))))))))) s4))))))))
 False))))))
 ((ldA 13 t6) s4 fun t162 s4 =>
 ((f33 t162 t4) s4 fun t164 s4 =>
 (optK (unV .not t164) s4 fun t165 s4 => (condV t165
 (K .ret (V.junk :: (V.junk :: ((V.bool false) :: (jk 163 [])))) s4)
 (optK (binV .add (some (Kd.int .i64)) true t7 (V.int .i64 1)) s4 fun t42 s4 => (K .nrm (t0 :: (V.junk :: (V.junk :: (t3 :: (t4 :: (V.junk :: (t6 :: (t42 :: (jk 158 []))))))))) s4))))))))))))))))
 ((f11 t4) s4 fun t143 s4 =>
 (optK (binV .lss (some (Kd.int .i64)) false t143 t56) s4 fun t145 s4 => (condV t145
 (K .ret (V.junk :: (V.junk :: ((V.bool false) :: (jk 163 [])))) s4)
 ((f31 t3) s4 fun t147 s4 =>
 (condV t147
 ((f32 t3) s4 fun t149 s4 =>
 ((f8 t3) s4 fun t152 s4 =>
 (optK (extractV t152 0) s4 fun t153 s4 => (optK (extractV t152 1) s4 fun t154 s4 => (optK (binV .neq (some (Kd.int .i64)) true t154 (V.int .i64 0)) s4 fun t156 s4 => (grd t156
 (K .ret (V.junk :: (V.junk :: ((V.bool false) :: (jk 163 [])))) s4)
 (optK (binV .eql (some (Kd.ptr 69)) true t153 (V.ptr none)) s4 fun t159 s4 => (condV t159
 (K .ret (V.junk :: (V.junk :: ((V.bool false) :: (jk 163 [])))) s4)
 ((ldA 13 t6) s4 fun t162 s4 =>
 ((f33 t162 t153) s4 fun t164 s4 =>
 (optK (unV .not t164) s4 fun t165 s4 => (condV t165
 (K .ret (V.junk :: (V.junk :: ((V.bool false) :: (jk 163 [])))) s4)
 (optK (binV .add (some (Kd.int .i64)) true t7 (V.int .i64 1)) s4 fun t42 s4 => (K .nrm (t0 :: (V.junk :: (V.junk :: (t3 :: (t153 :: (V.junk :: (t6 :: (t42 :: (jk 158 []))))))))) s4))))))))
 False))))))
 ((ldA 13 t6) s4 fun t162 s4 =>
 ((f33 t162 t4) s4 fun t164 s4 =>
 (optK (unV .not t164) s4 fun t165 s4 => (condV t165
 (K .ret (V.junk :: (V.junk :: ((V.bool false) :: (jk 163 [])))) s4)
 (optK (binV .add (some (Kd.int .i64)) true t7 (V.int .i64 1)) s4 fun t42 s4 => (K .nrm (t0 :: (V.junk :: (V.junk :: (t3 :: (t4 :: (V.junk :: (t6 :: (t42 :: (jk 158 []))))))))) s4)))))))))))))))
 (optK (binV .neq (some Kd.bool) false t105 (V.bool false)) s4 fun t115 s4 => (condV t115
 (K .ret (V.junk :: (V.junk :: ((V.bool false) :: (jk 163 [])))) s4)
 (condV t105
 (optK (fp 0 t6) s4 fun t117 s4 => ((ld1 t117) s4 fun t118 s4 =>
 (optK (foldV max2V t118 [t50]) s4 fun t120 s4 => (optK (fp 0 t6) s4 fun t121 s4 => ((st 1 t121 t120) s4 fun _ s4 =>
 ((f11 t4) s4 fun t143 s4 =>
 (optK (binV .lss (some (Kd.int .i64)) false t143 t56) s4 fun t145 s4 => (condV t145
 (K .ret (V.junk :: (V.junk :: ((V.bool false) :: (jk 163 [])))) s4)
 ((f31 t3) s4 fun t147 s4 =>
 (condV t147
 ((f32 t3) s4 fun t149 s4 =>
 ((f8 t3) s4 fun t152 s4 =>
 (optK (extractV t152 0) s4 fun t153 s4 => (optK (extractV t152 1) s4 fun t154 s4 => (optK (binV .neq (some (Kd.int .i64)) true t154 (V.int .i64 0)) s4 fun t156 s4 => (grd t156
 (K .ret (V.junk :: (V.junk :: ((V.bool false) :: (jk 163 [])))) s4)
 (optK (binV .eql (some (Kd.ptr 69)) true t153 (V.ptr none)) s4 fun t159 s4 => (condV t159
 (K .ret (V.junk :: (V.junk :: ((V.bool false) :: (jk 163 [])))) s4)
 ((ldA 13 t6) s4 fun t162 s4 =>
 ((f33 t162 t153) s4 fun t164 s4 =>
 (optK (unV .not t164) s4 fun t165 s4 => (condV t165
 (K .ret (V.junk :: (V.junk :: ((V.bool false) :: (jk 163 [])))) s4)
 (optK (binV .add (some (Kd.int .i64)) true t7 (V.int .i64 1)) s4 fun t42 s4 => (K .nrm (t0 :: (V.junk :: (V.junk :: (t3 :: (t153 :: (V.junk :: (t6 :: (t42 :: (jk 158 []))))))))) s4))))))))
 False))))))
 ((ldA 13 t6) s4 fun t162 s4 =>
 ((f33 t162 t4) s4 fun t164 s4 =>
 (optK (unV .not t164) s4 fun t165 s4 => (condV t165
 (K .ret (V.junk :: (V.junk :: ((V.bool false) :: (jk 163 [])))) s4)
 (optK (binV .add (some (Kd.int .i64)) true t7 (V.int .i64 1)) s4 fun t42 s4 => (K .nrm (t0 :: (V.junk :: (V.junk :: (t3 :: (t4 :: (V.junk :: (t6 :: (t42 :: (jk 158 []))))))))) s4))))))))))))))))
 ((f11 t4) s4 fun t143 s4 =>
 (optK (binV .lss (some (Kd.int .i64)) false t143 t56) s4 fun t145 s4 => (condV t145
 (K .ret (V.junk :: (V.junk :: ((V.bool false) :: (jk 163 [])))) s4)
 ((f31 t3) s4 fun t147 s4 =>
 (condV t147
 ((f32 t3) s4 fun t149 s4 =>
 ((f8 t3) s4 fun t152 s4 =>
 (optK (extractV t152 0) s4 fun t153 s4 => (optK (extractV t152 1) s4 fun t154 s4 => (optK (binV .neq (some (Kd.int .i64)) true t154 (V.int .i64 0)) s4 fun t156 s4 => (grd t156
 (K .ret (V.junk :: (V.junk :: ((V.bool false) :: (jk 163 [])))) s4)
 (optK (binV .eql (some (Kd.ptr 69)) true t153 (V.ptr none)) s4 fun t159 s4 => (condV t159
 (K .ret (V.junk :: (V.junk :: ((V.bool false) :: (jk 163 [])))) s4)
 ((ldA 13 t6) s4 fun t162 s4 =>
 ((f33 t162 t153) s4 fun t164 s4 =>
 (optK (unV .not t164) s4 fun t165 s4 => (condV t165
 (K .ret (V.junk :: (V.junk :: ((V.bool false) :: (jk 163 [])))) s4)
 (optK (binV .add (some (Kd.int .i64)) true t7 (V.int .i64 1)) s4 fun t42 s4 => (K .nrm (t0 :: (V.junk :: (V.junk :: (t3 :: (t153 :: (V.junk :: (t6 :: (t42 :: (jk 158 []))))))))) s4))))))))
 False))))))
 ((ldA 13 t6) s4 fun t162 s4 =>
 ((f33 t162 t4) s4 fun t164 s4 =>
 (optK (unV .not t164) s4 fun t165 s4 => (condV t165
 (K .ret (V.junk :: (V.junk :: ((V.bool false) :: (jk 163 [])))) s4)
 (optK (binV .add (some (Kd.int .i64)) true t7 (V.int .i64 1)) s4 fun t42 s4 => (K .nrm (t0 :: (V.junk :: (V.junk :: (t3 :: (t4 :: (V.junk :: (t6 :: (t42 :: (jk 158 []))))))))) s4))))))))))))))
 False))))))
 (optK (binV .eql (some (Kd.int .i64)) true t59 (V.int .i64 5)) s4 fun t123 s4 => (condV t123
 ((f17 t4 t54) s4 fun t126 s4 =>
 ((f11 t4) s4 fun t143 s4 =>
 (optK (binV .lss (some (Kd.int .i64)) false t143 t56) s4 fun t145 s4 => (condV t145
 (K .ret (V.junk :: (V.junk :: ((V.bool false) :: (jk 163 [])))) s4)
 ((f31 t3) s4 fun t147 s4 =>
 (condV t147
 ((f32 t3) s4 fun t149 s4 =>
 ((f8 t3) s4 fun t152 s4 =>
 (optK (extractV t152 0) s4 fun t153 s4 => (optK (extractV t152 1) s4 fun t154 s4 => (optK (binV .neq (some (Kd.int .i64)) true t154 (V.int .i64 0)) s4 fun t156 s4 => (grd t156
 (K .ret (V.junk :: (V.junk :: ((V.bool false) :: (jk 163 [])))) s4)
 (optK (binV .eql (some (Kd.ptr 69)) true t153 (V.ptr none)) s4 fun t159 s4 => (condV t159
 (K .ret (V.junk :: (V.junk :: ((V.bool false) :: (jk 163 [])))) s4)
 ((ldA 13 t6) s4 fun t162 s4 =>
 ((f33 t162 t153) s4 fun t164 s4 =>
 (optK (unV .not t164) s4 fun t165 s4 => (condV t165
 (K .ret (V.junk :: (V.junk :: ((V.bool false) :: (jk 163 [])))) s4)
 (optK (binV .add (some (Kd.int .i64)) true t7 (V.int .i64 1)) s4 fun t42 s4 => (K .nrm (t0 :: (V.junk :: (V.junk :: (t3 :: (t153 :: (V.junk :: (t6 :: (t42 :: (jk 158 []))))))))) s4))))))))
 False))))))
 ((ldA 13 t6) s4 fun t162 s4 =>
 ((f33 t162 t4) s4 fun t164 s4 =>
 (optK (unV .not t164) s4 fun t165 s4 => (condV t165
 (K .ret (V.junk :: (V.junk :: ((V.bool false) :: (jk 163 [])))) s4)
 (optK (binV .add (some (Kd.int .i64)) true t7 (V.int .i64 1)) s4 fun t42 s4 => (K .nrm (t0 :: (V.junk :: (V.junk :: (t3 :: (t4 :: (V.junk :: (t6 :: (t42 :: (jk 158 []))))))))) s4))))))))))))
 (optK (binV .eql (some (Kd.int .i64)) true t59 (V.int .i64 6)) s4 fun t128 s4 => (condV t128
 (optK (fp 1 t8) s4 fun t130 s4 => ((ld1 t130) s4 fun t131 s4 =>
 ((f10 t131 (V.int .i64 40)) s4 fun t132 s4 =>
 ((f28 t3 t132) s4 fun t133 s4 =>
 ((f11 t4) s4 fun t143 s4 =>
 (optK (binV .lss (some (Kd.int .i64)) false t143 t56) s4 fun t145 s4 => (condV t145
 (K .ret (V.junk :: (V.junk :: ((V.bool false) :: (jk 163 [])))) s4)
 ((f31 t3) s4 fun t147 s4 =>
 (condV t147
 ((f32 t3) s4 fun t149 s4 =>
 ((f8 t3) s4 fun t152 s4 =>
 (optK (extractV t152 0) s4 fun t153 s4 => (optK (extractV t152 1) s4 fun t154 s4 => (optK (binV .neq (some (Kd.int .i64)) true t154 (V.int .i64 0)) s4 fun t156 s4 => (grd t156
 (K .ret (V.junk :: (V.junk :: ((V.bool false) :: (jk 163 [])))) s4)
 (optK (binV .eql (some (Kd.ptr 69)) true t153 (V.ptr none)) s4 fun t159 s4 => (condV t159
 (K .ret (V.junk :: (V.junk :: ((V.bool false) :: (jk 163 [])))) s4)
 ((ldA 13 t6) s4 fun t162 s4 =>
 ((f33 t162 t153) s4 fun t164 s4 =>
 (optK (unV .not t164) s4 fun t165 s4 => (condV t165
 (K .ret (V.junk :: (V.junk :: ((V.bool false) :: (jk 163 [])))) s4)
 (optK (binV .add (some (Kd.int .i64)) true t7 (V.int .i64 1)) s4 fun t42 s4 => (K .nrm (t0 :: (V.junk :: (V.junk :: (t3 :: (t153 :: (V.junk :: (t6 :: (t42 :: (jk 158 []))))))))) s4))))))))
 False))))))
 ((ldA 13 t6) s4 fun t162 s4 =>
 ((f33 t162 t4) s4 fun t164 s4 =>
 (optK (unV .not t164) s4 fun t165 s4 => (condV t165
 (K .ret (V.junk :: (V.junk :: ((V.bool false) :: (jk 163 [])))) s4)
 (optK (binV .add (some (Kd.int .i64)) true t7 (V.int .i64 1)) s4 fun t42 s4 => (K .nrm (t0 :: (V.junk :: (V.junk :: (t3 :: (t4 :: (V.junk :: (t6 :: (t42 :: (jk 158 []))))))))) s4)))))))))))))))
 (optK (binV .eql (some (Kd.int .i64)) true t59 (V.int .i64 7)) s4 fun t135 s4 => (condV t135
 (condV t135
 (optK (fp 2 t8) s4 fun t138 s4 => ((ld1 t138) s4 fun t139 s4 =>
 ((f10 t139 (V.int .i64 9)) s4 fun t140 s4 =>
 ((f30 t3 t140) s4 fun t141 s4 =>
 ((f11 t4) s4 fun t143 s4 =>
 (optK (binV .lss (some (Kd.int .i64)) false t143 t56) s4 fun t145 s4 => (condV t145
 (K .ret (V.junk :: (V.junk :: ((V.bool false) :: (jk 163 [])))) s4)
 ((f31 t3) s4 fun t147 s4 =>
 (condV t147
 ((f32 t3) s4 fun t149 s4 =>
 ((f8 t3) s4 fun t152 s4 =>
 (optK (extractV t152 0) s4 fun t153 s4 => (optK (extractV t152 1) s4 fun t154 s4 => (optK (binV .neq (some (Kd.int .i64)) true t154 (V.int .i64 0)) s4 fun t156 s4 => (grd t156
 (K .ret (V.junk :: (V.junk :: ((V.bool false) :: (jk 163 [])))) s4)
 (optK (binV .eql (some (Kd.ptr 69)) true t153 (V.ptr none)) s4 fun t159 s4 => (condV t159
 (K .ret (V.junk :: (V.junk :: ((V.bool false) :: (jk 163 [])))) s4)
 ((ldA 13 t6) s4 fun t162 s4 =>
 ((f33 t162 t153) s4 fun t164 s4 =>
 (optK (unV .not t164) s4 fun t165 s4 => (condV t165
 (K .ret (V.junk :: (V.junk :: ((V.bool false) :: (jk 163 [])))) s4)
 (optK (binV .add (some (Kd.int .i64)) true t7 (V.int .i64 1)) s4 fun t42 s4 => (K .nrm (t0 :: (V.junk :: (V.junk :: (t3 :: (t153 :: (V.junk :: (t6 :: (t42 :: (jk 158 []))))))))) s4))))))))
 False))))))
 ((ldA 13 t6) s4 fun t162 s4 =>
 ((f33 t162 t4) s4 fun t164 s4 =>
 (optK (unV .not t164) s4 fun t165 s4 => (condV t165
 (K .ret (V.junk :: (V.junk :: ((V.bool false) :: (jk 163 [])))) s4)
 (optK (binV .add (some (Kd.int .i64)) true t7 (V.int .i64 1)) s4 fun t42 s4 => (K .nrm (t0 :: (V.junk :: (V.junk :: (t3 :: (t4 :: (V.junk :: (t6 :: (t42 :: (jk 158 []))))))))) s4)))))))))))))))
 (optK (fp 1 t8) s4 fun t64 s4 => ((ld1 t64) s4 fun t65 s4 =>
 ((f13 t54 t65) s4 fun t66 s4 =>
 ((f12 t4 t50 t66) s4 fun t67 s4 =>
 (optK (extractV t67 0) s4 fun t68 s4 => (optK (extractV t67 1) s4 fun t69 s4 => (grd t68
 (optK (binV .neq (some (Kd.int .i64)) true t69 (V.int .i64 0)) s4 fun t73 s4 => (grd t73
 (K .ret (V.junk :: (V.junk :: ((V.bool false) :: (jk 163 [])))) s4)
 (optK (binV .lss (some (Kd.int .i64)) false t50 t56) s4 fun t77 s4 => (grd t77
 (K .ret (V.junk :: (V.junk :: ((V.bool false) :: (jk 163 [])))) s4)
 ((f18 t4) s4 fun t82 s4 =>
 (optK (binV .lss (some (Kd.int .i64)) false t54 t82) s4 fun t83 s4 => (condV t83
 (K .ret (V.junk :: (V.junk :: ((V.bool false) :: (jk 163 [])))) s4)
 (condV t68
 (optK (fp 0 t6) s4 fun t87 s4 => ((ld1 t87) s4 fun t88 s4 =>
 (optK (foldV max2V t88 [t50]) s4 fun t90 s4 => (optK (fp 0 t6) s4 fun t91 s4 => ((st 1 t91 t90) s4 fun _ s4 =>
 (optK (fp 1 t6) s4 fun t94 s4 => (optK (elemPtr (some 12) 1 t94 t54) s4 fun t95 s4 => ((st 1 t95 t50) s4 fun _ s4 =>
 ((f11 t4) s4 fun t143 s4 =>
 (optK (binV .lss (some (Kd.int .i64)) false t143 t56) s4 fun t145 s4 => (condV t145
 (K .ret (V.junk :: (V.junk :: ((V.bool false) :: (jk 163 [])))) s4)
 ((f31 t3) s4 fun t147 s4 =>
 (condV t147
 ((f32 t3) s4 fun t149 s4 =>
 ((f8 t3) s4 fun t152 s4 =>
 (optK (extractV t152 0) s4 fun t153 s4 => (optK (extractV t152 1) s4 fun t154 s4 => (optK (binV .neq (some (Kd.int .i64)) true t154 (V.int .i64 0)) s4 fun t156 s4 => (grd t156
 (K .ret (V.junk :: (V.junk :: ((V.bool false) :: (jk 163 [])))) s4)
 (optK (binV .eql (some (Kd.ptr 69)) true t153 (V.ptr none)) s4 fun t159 s4 => (condV t159
 (K .ret (V.junk :: (V.junk :: ((V.bool false) :: (jk 163 [])))) s4)
 ((ldA 13 t6) s4 fun t162 s4 =>
 ((f33 t162 t153) s4 fun t164 s4 =>
 (optK (unV .not t164) s4 fun t165 s4 => (condV t165
 (K .ret (V.junk :: (V.junk :: ((V.bool false) :: (jk 163 [])))) s4)
 (optK (binV .add (some (Kd.int .i64)) true t7 (V.int .i64 1)) s4 fun t42 s4 => (K .nrm (t0 :: (V.junk :: (V.junk :: (t3 :: (t153 :: (V.junk :: (t6 :: (t42 :: (jk 158 []))))))))) s4))))))))
 False))))))
 ((ldA 13 t6) s4 fun t162 s4 =>
 ((f33 t162 t4) s4 fun t164 s4 =>
 (optK (unV .not t164) s4 fun t165 s4 => (condV t165
 (K .ret (V.junk :: (V.junk :: ((V.bool false) :: (jk 163 [])))) s4)
 (optK (binV .add (some (Kd.int .i64)) true t7 (V.int .i64 1)) s4 fun t42 s4 => (K .nrm (t0 :: (V.junk :: (V.junk :: (t3 :: (t4 :: (V.junk :: (t6 :: (t42 :: (jk 158 []))))))))) s4)))))))))))))))))))
 ((f11 t4) s4 fun t143 s4 =>
 (optK (binV .lss (some (Kd.int .i64)) false t143 t56) s4 fun t145 s4 => (condV t145
 (K .ret (V.junk :: (V.junk :: ((V.bool false) :: (jk 163 [])))) s4)
 ((f31 t3) s4 fun t147 s4 =>
 (condV t147
 ((f32 t3) s4 fun t149 s4 =>
 ((f8 t3) s4 fun t152 s4 =>
 (optK (extractV t152 0) s4 fun t153 s4 => (optK (extractV t152 1) s4 fun t154 s4 => (optK (binV .neq (some (Kd.int .i64)) true t154 (V.int .i64 0)) s4 fun t156 s4 => (grd t156
 (K .ret (V.junk :: (V.junk :: ((V.bool false) :: (jk 163 [])))) s4)
 (optK (binV .eql (some (Kd.ptr 69)) true t153 (V.ptr none)) s4 fun t159 s4 => (condV t159
 (K .ret (V.junk :: (V.junk :: ((V.bool false) :: (jk 163 [])))) s4)
 ((ldA 13 t6) s4 fun t162 s4 =>
 ((f33 t162 t153) s4 fun t164 s4 =>
 (optK (unV .not t164) s4 fun t165 s4 => (condV t165
 (K .ret (V.junk :: (V.junk :: ((V.bool false) :: (jk 163 [])))) s4)
 (optK (binV .add (some (Kd.int .i64)) true t7 (V.int .i64 1)) s4 fun t42 s4 => (K .nrm (t0 :: (V.junk :: (V.junk :: (t3 :: (t153 :: (V.junk :: (t6 :: (t42 :: (jk 158 []))))))))) s4))))))))
 False))))))
 ((ldA 13 t6) s4 fun t162 s4 =>
 ((f33 t162 t4) s4 fun t164 s4 =>
 (optK (unV .not t164) s4 fun t165 s4 => (condV t165
 (K .ret (V.junk :: (V.junk :: ((V.bool false) :: (jk 163 [])))) s4)
 (optK (binV .add (some (Kd.int .i64)) true t7 (V.int .i64 1)) s4 fun t42 s4 => (K .nrm (t0 :: (V.junk :: (V.junk :: (t3 :: (t4 :: (V.junk :: (t6 :: (t42 :: (jk 158 []))))))))) s4)))))))))))))))
 False))
 False))
 (condV t68
 (optK (fp 0 t6) s4 fun t87 s4 => ((ld1 t87) s4 fun t88 s4 =>
 (optK (foldV max2V t88 [t50]) s4 fun t90 s4 => (optK (fp 0 t6) s4 fun t91 s4 => ((st 1 t91 t90) s4 fun _ s4 =>
 (optK (fp 1 t6) s4 fun t94 s4 => (optK (elemPtr (some 12) 1 t94 t54) s4 fun t95 s4 => ((st 1 t95 t50) s4 fun _ s4 =>
 ((f11 t4) s4 fun t143 s4 =>
 (optK (binV .lss (some (Kd.int .i64)) false t143 t56) s4 fun t145 s4 => (condV t145
 (K .ret (V.junk :: (V.junk :: ((V.bool false) :: (jk 163 [])))) s4)
 ((f31 t3) s4 fun t147 s4 =>
 (condV t147
 ((f32 t3) s4 fun t149 s4 =>
 ((f8 t3) s4 fun t152 s4 =>
 (optK (extractV t152 0) s4 fun t153 s4 => (optK (extractV t152 1) s4 fun t154 s4 => (optK (binV .neq (some (Kd.int .i64)) true t154 (V.int .i64 0)) s4 fun t156 s4 => (grd t156
 (K .ret (V.junk :: (V.junk :: ((V.bool false) :: (jk 163 [])))) s4)
 (optK (binV .eql (some (Kd.ptr 69)) true t153 (V.ptr none)) s4 fun t159 s4 => (condV t159
 (K .ret (V.junk :: (V.junk :: ((V.bool false) :: (jk 163 [])))) s4)
 ((ldA 13 t6) s4 fun t162 s4 =>
 ((f33 t162 t153) s4 fun t164 s4 =>
 (optK (unV .not t164) s4 fun t165 s4 => (condV t165
 (K .ret (V.junk :: (V.junk :: ((V.bool false) :: (jk 163 [])))) s4)
 (optK (binV .add (some (Kd.int .i64)) true t7 (V.int .i64 1)) s4 fun t42 s4 => (K .nrm (t0 :: (V.junk :: (V.junk :: (t3 :: (t153 :: (V.junk :: (t6 :: (t42 :: (jk 158 []))))))))) s4))))))))
 False))))))
 ((ldA 13 t6) s4 fun t162 s4 =>
 ((f33 t162 t4) s4 fun t164 s4 =>
 (optK (unV .not t164) s4 fun t165 s4 => (condV t165
 (K .ret (V.junk :: (V.junk :: ((V.bool false) :: (jk 163 [])))) s4)
 (optK (binV .add (some (Kd.int .i64)) true t7 (V.int .i64 1)) s4 fun t42 s4 => (K .nrm (t0 :: (V.junk :: (V.junk :: (t3 :: (t4 :: (V.junk :: (t6 :: (t42 :: (jk 158 []))))))))) s4)))))))))))))))))))
 ((f11 t4) s4 fun t143 s4 =>
 (optK (binV .lss (some (Kd.int .i64)) false t143 t56) s4 fun t145 s4 => (condV t145
 (K .ret (V.junk :: (V.junk :: ((V.bool false) :: (jk 163 [])))) s4)
 ((f31 t3) s4 fun t147 s4 =>
 (condV t147
 ((f32 t3) s4 fun t149 s4 =>
 ((f8 t3) s4 fun t152 s4 =>
 (optK (extractV t152 0) s4 fun t153 s4 => (optK (extractV t152 1) s4 fun t154 s4 => (optK (binV .neq (some (Kd.int .i64)) true t154 (V.int .i64 0)) s4 fun t156 s4 => (grd t156
 (K .ret (V.junk :: (V.junk :: ((V.bool false) :: (jk 163 [])))) s4)
 (optK (binV .eql (some (Kd.ptr 69)) true t153 (V.ptr none)) s4 fun t159 s4 => (condV t159
 (K .ret (V.junk :: (V.junk :: ((V.bool false) :: (jk 163 [])))) s4)
 ((ldA 13 t6) s4 fun t162 s4 =>
 ((f33 t162 t153) s4 fun t164 s4 =>
 (optK (unV .not t164) s4 fun t165 s4 => (condV t165
 (K .ret (V.junk :: (V.junk :: ((V.bool false) :: (jk 163 [])))) s4)
 (optK (binV .add (some (Kd.int .i64)) true t7 (V.int .i64 1)) s4 fun t42 s4 => (K .nrm (t0 :: (V.junk :: (V.junk :: (t3 :: (t153 :: (V.junk :: (t6 :: (t42 :: (jk 158 []))))))))) s4))))))))
 False))))))
 ((ldA 13 t6) s4 fun t162 s4 =>
 ((f33 t162 t4) s4 fun t164 s4 =>
 (optK (unV .not t164) s4 fun t165 s4 => (condV t165
 (K .ret (V.junk :: (V.junk :: ((V.bool false) :: (jk 163 [])))) s4)
 (optK (binV .add (some (Kd.int .i64)) true t7 (V.int .i64 1)) s4 fun t42 s4 => (K .nrm (t0 :: (V.junk :: (V.junk :: (t3 :: (t4 :: (V.junk :: (t6 :: (t42 :: (jk 158 []))))))))) s4))))))))))))
 False))))))))
 (optK (binV .eql (some (Kd.int .i64)) true t59 (V.int .i64 8)) s4 fun t136 s4 => (condV t136
 (optK (fp 2 t8) s4 fun t138 s4 => ((ld1 t138) s4 fun t139 s4 =>
 ((f10 t139 (V.int .i64 9)) s4 fun t140 s4 =>
 ((f30 t3 t140) s4 fun t141 s4 =>
 ((f11 t4) s4 fun t143 s4 =>
 (optK (binV .lss (some (Kd.int .i64)) false t143 t56) s4 fun t145 s4 => (condV t145
 (K .ret (V.junk :: (V.junk :: ((V.bool false) :: (jk 163 [])))) s4)
 ((f31 t3) s4 fun t147 s4 =>
 (condV t147
 ((f32 t3) s4 fun t149 s4 =>
 ((f8 t3) s4 fun t152 s4 =>
 (optK (extractV t152 0) s4 fun t153 s4 => (optK (extractV t152 1) s4 fun t154 s4 => (optK (binV .neq (some (Kd.int .i64)) true t154 (V.int .i64 0)) s4 fun t156 s4 => (grd t156
 (K .ret (V.junk :: (V.junk :: ((V.bool false) :: (jk 163 [])))) s4)
 (optK (binV .eql (some (Kd.ptr 69)) true t153 (V.ptr none)) s4 fun t159 s4 => (condV t159
 (K .ret (V.junk :: (V.junk :: ((V.bool false) :: (jk 163 [])))) s4)
 ((ldA 13 t6) s4 fun t162 s4 =>
 ((f33 t162 t153) s4 fun t164 s4 =>
 (optK (unV .not t164) s4 fun t165 s4 => (condV t165
 (K .ret (V.junk :: (V.junk :: ((V.bool false) :: (jk 163 [])))) s4)
 (optK (binV .add (some (Kd.int .i64)) true t7 (V.int .i64 1)) s4 fun t42 s4 => (K .nrm (t0 :: (V.junk :: (V.junk :: (t3 :: (t153 :: (V.junk :: (t6 :: (t42 :: (jk 158 []))))))))) s4))))))))
 False))))))
 ((ldA 13 t6) s4 fun t162 s4 =>
 ((f33 t162 t4) s4 fun t164 s4 =>
 (optK (unV .not t164) s4 fun t165 s4 => (condV t165
 (K .ret (V.junk :: (V.junk :: ((V.bool false) :: (jk 163 [])))) s4)
 (optK (binV .add (some (Kd.int .i64)) true t7 (V.int .i64 1)) s4 fun t42 s4 => (K .nrm (t0 :: (V.junk :: (V.junk :: (t3 :: (t4 :: (V.junk :: (t6 :: (t42 :: (jk 158 []))))))))) s4)))))))))))))))
 (optK (fp 1 t8) s4 fun t64 s4 => ((ld1 t64) s4 fun t65 s4 =>
 ((f13 t54 t65) s4 fun t66 s4 =>
 ((f12 t4 t50 t66) s4 fun t67 s4 =>
 (optK (extractV t67 0) s4 fun t68 s4 => (optK (extractV t67 1) s4 fun t69 s4 => (grd t68
 (optK (binV .neq (some (Kd.int .i64)) true t69 (V.int .i64 0)) s4 fun t73 s4 => (grd t73
 (K .ret (V.junk :: (V.junk :: ((V.bool false) :: (jk 163 [])))) s4)
 (optK (binV .lss (some (Kd.int .i64)) false t50 t56) s4 fun t77 s4 => (grd t77
 (K .ret (V.junk :: (V.junk :: ((V.bool false) :: (jk 163 [])))) s4)
 ((f18 t4) s4 fun t82 s4 =>
 (optK (binV .lss (some (Kd.int .i64)) false t54 t82) s4 fun t83 s4 => (condV t83
 (K .ret (V.junk :: (V.junk :: ((V.bool false) :: (jk 163 [])))) s4)
 (condV t68
 (optK (fp 0 t6) s4 fun t87 s4 => ((ld1 t87) s4 fun t88 s4 =>
 (optK (foldV max2V t88 [t50]) s4 fun t90 s4 => (optK (fp 0 t6) s4 fun t91 s4 => ((st 1 t91 t90) s4 fun _ s4 =>
 (optK (fp 1 t6) s4 fun t94 s4 => (optK (elemPtr (some 12) 1 t94 t54) s4 fun t95 s4 => ((st 1 t95 t50) s4 fun _ s4 =>
 ((f11 t4) s4 fun t143 s4 =>
 (optK (binV .lss (some (Kd.int .i64)) false t143 t56) s4 fun t145 s4 => (condV t145
 (K .ret (V.junk :: (V.junk :: ((V.bool false) :: (jk 163 [])))) s4)
 ((f31 t3) s4 fun t147 s4 =>
 (condV t147
 ((f32 t3) s4 fun t149 s4 =>
 ((f8 t3) s4 fun t152 s4 =>
 (optK (extractV t152 0) s4 fun t153 s4 => (optK (extractV t152 1) s4 fun t154 s4 => (optK (binV .neq (some (Kd.int .i64)) true t154 (V.int .i64 0)) s4 fun t156 s4 => (grd t156
 (K .ret (V.junk :: (V.junk :: ((V.bool false) :: (jk 163 [])))) s4)
 (optK (binV .eql (some (Kd.ptr 69)) true t153 (V.ptr none)) s4 fun t159 s4 => (condV t159
 (K .ret (V.junk :: (V.junk :: ((V.bool false) :: (jk 163 [])))) s4)
 ((ldA 13 t6) s4 fun t162 s4 =>
 ((f33 t162 t153) s4 fun t164 s4 =>
 (optK (unV .not t164) s4 fun t165 s4 => (condV t165
 (K .ret (V.junk :: (V.junk :: ((V.bool false) :: (jk 163 [])))) s4)
 (optK (binV .add (some (Kd.int .i64)) true t7 (V.int .i64 1)) s4 fun t42 s4 => (K .nrm (t0 :: (V.junk :: (V.junk :: (t3 :: (t153 :: (V.junk :: (t6 :: (t42 :: (jk 158 []))))))))) s4))))))))
 False))))))
 ((ldA 13 t6) s4 fun t162 s4 =>
 ((f33 t162 t4) s4 fun t164 s4 =>
 (optK (unV .not t164) s4 fun t165 s4 => (condV t165
 (K .ret (V.junk :: (V.junk :: ((V.bool false) :: (jk 163 [])))) s4)
 (optK (binV .add (some (Kd.int .i64)) true t7 (V.int .i64 1)) s4 fun t42 s4 => (K .nrm (t0 :: (V.junk :: (V.junk :: (t3 :: (t4 :: (V.junk :: (t6 :: (t42 :: (jk 158 []))))))))) s4)))))))))))))))))))
 ((f11 t4) s4 fun t143 s4 =>
 (optK (binV .lss (some (Kd.int .i64)) false t143 t56) s4 fun t145 s4 => (condV t145
 (K .ret (V.junk :: (V.junk :: ((V.bool false) :: (jk 163 [])))) s4)
 ((f31 t3) s4 fun t147 s4 =>
 (condV t147
 ((f32 t3) s4 fun t149 s4 =>
 ((f8 t3) s4 fun t152 s4 =>
 (optK (extractV t152 0) s4 fun t153 s4 => (optK (extractV t152 1) s4 fun t154 s4 => (optK (binV .neq (some (Kd.int .i64)) true t154 (V.int .i64 0)) s4 fun t156 s4 => (grd t156
 (K .ret (V.junk :: (V.junk :: ((V.bool false) :: (jk 163 [])))) s4)
 (optK (binV .eql (some (Kd.ptr 69)) true t153 (V.ptr none)) s4 fun t159 s4 => (condV t159
 (K .ret (V.junk :: (V.junk :: ((V.bool false) :: (jk 163 [])))) s4)
 ((ldA 13 t6) s4 fun t162 s4 =>
 ((f33 t162 t153) s4 fun t164 s4 =>
 (optK (unV .not t164) s4 fun t165 s4 => (condV t165
 (K .ret (V.junk :: (V.junk :: ((V.bool false) :: (jk 163 [])))) s4)
 (optK (binV .add (some (Kd.int .i64)) true t7 (V.int .i64 1)) s4 fun t42 s4 => (K .nrm (t0 :: (V.junk :: (V.junk :: (t3 :: (t153 :: (V.junk :: (t6 :: (t42 :: (jk 158 []))))))))) s4))))))))
 False))))))
 ((ldA 13 t6) s4 fun t162 s4 =>
 ((f33 t162 t4) s4 fun t164 s4 =>
 (optK (unV .not t164) s4 fun t165 s4 => (condV t165
 (K .ret (V.junk :: (V.junk :: ((V.bool false) :: (jk 163 [])))) s4)
 (optK (binV .add (some (Kd.int .i64)) true t7 (V.int .i64 1)) s4 fun t42 s4 => (K .nrm (t0 :: (V.junk :: (V.junk :: (t3 :: (t4 :: (V.junk :: (t6 :: (t42 :: (jk 158 []))))))))) s4)))))))))))))))
 False))
 False))
 (condV t68
 (optK (fp 0 t6) s4 fun t87 s4 => ((ld1 t87) s4 fun t88 s4 =>
 (optK (foldV max2V t88 [t50]) s4 fun t90 s4 => (optK (fp 0 t6) s4 fun t91 s4 => ((st 1 t91 t90) s4 fun _ s4 =>
 (optK (fp 1 t6) s4 fun t94 s4 => (optK (elemPtr (some 12) 1 t94 t54) s4 fun t95 s4 => ((st 1 t95 t50) s4 fun _ s4 =>
 ((f11 t4) s4 fun t143 s4 =>
 (optK (binV .lss (some (Kd.int .i64)) false t143 t56) s4 fun t145 s4 => (condV t145
 (K .ret (V.junk :: (V.junk :: ((V.bool false) :: (jk 163 [])))) s4)
 ((f31 t3) s4 fun t147 s4 =>
 (condV t147
 ((f32 t3) s4 fun t149 s4 =>
 ((f8 t3) s4 fun t152 s4 =>
 (optK (extractV t152 0) s4 fun t153 s4 => (optK (extractV t152 1) s4 fun t154 s4 => (optK (binV .neq (some (Kd.int .i64)) true t154 (V.int .i64 0)) s4 fun t156 s4 => (grd t156
 (K .ret (V.junk :: (V.junk :: ((V.bool false) :: (jk 163 [])))) s4)
 (optK (binV .eql (some (Kd.ptr 69)) true t153 (V.ptr none)) s4 fun t159 s4 => (condV t159
 (K .ret (V.junk :: (V.junk :: ((V.bool false) :: (jk 163 [])))) s4)
 ((ldA 13 t6) s4 fun t162 s4 =>
 ((f33 t162 t153) s4 fun t164 s4 =>
 (optK (unV .not t164) s4 fun t165 s4 => (condV t165
 (K .ret (V.junk :: (V.junk :: ((V.bool false) :: (jk 163 [])))) s4)
 (optK (binV .add (some (Kd.int .i64)) true t7 (V.int .i64 1)) s4 fun t42 s4 => (K .nrm (t0 :: (V.junk :: (V.junk :: (t3 :: (t153 :: (V.junk :: (t6 :: (t42 :: (jk 158 []))))))))) s4))))))))
 False))))))
 ((ldA 13 t6) s4 fun t162 s4 =>
 ((f33 t162 t4) s4 fun t164 s4 =>
 (optK (unV .not t164) s4 fun t165 s4 => (condV t165
 (K .ret (V.junk :: (V.junk :: ((V.bool false) :: (jk 163 [])))) s4)
 (optK (binV .add (some (Kd.int .i64)) true t7 (V.int .i64 1)) s4 fun t42 s4 => (K .nrm (t0 :: (V.junk :: (V.junk :: (t3 :: (t4 :: (V.junk :: (t6 :: (t42 :: (jk 158 []))))))))) s4)))))))))))))))))))
 ((f11 t4) s4 fun t143 s4 =>
 (optK (binV .lss (some (Kd.int .i64)) false t143 t56) s4 fun t145 s4 => (condV t145
 (K .ret (V.junk :: (V.junk :: ((V.bool false) :: (jk 163 [])))) s4)
 ((f31 t3) s4 fun t147 s4 =>
 (condV t147
 ((f32 t3) s4 fun t149 s4 =>
 ((f8 t3) s4 fun t152 s4 =>
 (optK (extractV t152 0) s4 fun t153 s4 => (optK (extractV t152 1) s4 fun t154 s4 => (optK (binV .neq (some (Kd.int .i64)) true t154 (V.int .i64 0)) s4 fun t156 s4 => (grd t156
 (K .ret (V.junk :: (V.junk :: ((V.bool false) :: (jk 163 [])))) s4)
 (optK (binV .eql (some (Kd.ptr 69)) true t153 (V.ptr none)) s4 fun t159 s4 => (condV t159
 (K .ret (V.junk :: (V.junk :: ((V.bool false) :: (jk 163 [])))) s4)
 ((ldA 13 t6) s4 fun t162 s4 =>
 ((f33 t162 t153) s4 fun t164 s4 =>
 (optK (unV .not t164) s4 fun t165 s4 => (condV t165
 (K .ret (V.junk :: (V.junk :: ((V.bool false) :: (jk 163 [])))) s4)
 (optK (binV .add (some (Kd.int .i64)) true t7 (V.int .i64 1)) s4 fun t42 s4 => (K .nrm (t0 :: (V.junk :: (V.junk :: (t3 :: (t153 :: (V.junk :: (t6 :: (t42 :: (jk 158 []))))))))) s4))))))))
 False))))))
 ((ldA 13 t6) s4 fun t162 s4 =>
 ((f33 t162 t4) s4 fun t164 s4 =>
 (optK (unV .not t164) s4 fun t165 s4 => (condV t165
 (K .ret (V.junk :: (V.junk :: ((V.bool false) :: (jk 163 [])))) s4)
 (optK (binV .add (some (Kd.int .i64)) true t7 (V.int .i64 1)) s4 fun t42 s4 => (K .nrm (t0 :: (V.junk :: (V.junk :: (t3 :: (t4 :: (V.junk :: (t6 :: (t42 :: (jk 158 []))))))))) s4))))))))))))
 False))))))))))))))))))))))))))))))))))))
 (K (.exit 0) (jk 166 []) s)))
 (K (.exit 0) (jk 166 []) s)
 False)))
noncomputable def sealchainlaw15_VoteLasts_q (f15 : M) (f9 : M) (f8 : V → M) (f10 : V → V → M) (f11 : V → M) (f14 : V → V → V → M) (f17 : V → V → M) (f28 : V → V → M) (f30 : V → V → M) (f13 : V → V → M) (f12 : V → V → V → M) (f18 : V → M) (f31 : V → M) (f32 : V → M) (f33 : V → V → M) (t0 : V) : M := fun s K =>
 ((f15) s fun t19 s =>
 (optK (unV .not t19) s fun t20 s => (condV t20
 (K (V.bool false) s)
 ((f9) s fun t21 s =>
 ((f8 t21) s fun t24 s =>
 (optK (extractV t24 0) s fun t25 s => (optK (extractV t24 1) s fun t26 s => (optK (binV .neq (some (Kd.int .i64)) true t26 (V.int .i64 0)) s fun t28 s => (grd t28
 (K (V.bool false) s)
 (optK (binV .eql (some (Kd.ptr 69)) true t25 (V.ptr none)) s fun t31 s => (condV t31
 (K (V.bool false) s)
 ((newC [(V.int .i64 0), (V.int .i64 0), (V.int .i64 0), (V.int .i64 0), (V.int .i64 0), (V.int .i64 0), (V.int .i64 0), (V.int .i64 0), (V.int .i64 0), (V.int .i64 0), (V.int .i64 0), (V.int .i64 0), (V.int .i64 0)]) s fun t6 s =>
 (loopN LOOPS (fun tm s K => sealchainlaw15_VoteLasts_L1 f15 f9 f8 f10 f11 f14 f17 f28 f30 f13 f12 f18 f31 f32 f33 (tm.getD 0 .junk) (tm.getD 3 .junk) (tm.getD 4 .junk) (tm.getD 6 .junk) (tm.getD 7 .junk) s K) (t0 :: (V.junk :: (V.junk :: (t21 :: (t25 :: (V.junk :: (t6 :: ((V.int .i64 0) :: (jk 158 []))))))))) s (fun e tm s => exX e (fun j1 => (exB (j1 == 0)
 (K (V.bool true) s)
 False)) (K (tm.getD 2 .junk) s))))))
 False)))))))))
noncomputable def sealchainlaw15_VoteLasts : V → M := sealchainlaw15_VoteLasts_q sealchainlaw15_works disk_New vote_Open sealchainref00_Bring vote_Voter_Promised vote_Voter_Prepare vote_Voter_Forget disk_Disk_Arm disk_Disk_Crash sealchainlaw15_conf vote_Voter_Accept vote_Voter_Floor disk_Disk_Dead disk_Disk_Revive sealchainlaw15_told_holds
theorem sealchainlaw15_VoteLasts_qe (f15 : M) (f9 : M) (f8 : V → M) (f10 : V → V → M) (f11 : V → M) (f14 : V → V → V → M) (f17 : V → V → M) (f28 : V → V → M) (f30 : V → V → M) (f13 : V → V → M) (f12 : V → V → V → M) (f18 : V → M) (f31 : V → M) (f32 : V → M) (f33 : V → V → M) (t0 : V) : sealchainlaw15_VoteLasts_q f15 f9 f8 f10 f11 f14 f17 f28 f30 f13 f12 f18 f31 f32 f33 t0 = evF (E7 f15 f9 f8 f10 f11 f14 f17 f28 f30 f13 f12 f18 f31 f32 f33) Tryz.f7 [t0] := by kernel_rfl
theorem sealchainlaw15_VoteLasts_s : SP Tryz.prog 7 (F1 sealchainlaw15_VoteLasts) := mk1 (mkEnv tab (L := L7 sealchainlaw15_works disk_New vote_Open sealchainref00_Bring vote_Voter_Promised vote_Voter_Prepare vote_Voter_Forget disk_Disk_Arm disk_Disk_Crash sealchainlaw15_conf vote_Voter_Accept vote_Voter_Floor disk_Disk_Dead disk_Disk_Revive sealchainlaw15_told_holds) ⟨sealchainlaw15_works_s, disk_New_s, vote_Open_s, sealchainref00_Bring_s, vote_Voter_Promised_s, vote_Voter_Prepare_s, vote_Voter_Forget_s, disk_Disk_Arm_s, disk_Disk_Crash_s, sealchainlaw15_conf_s, vote_Voter_Accept_s, vote_Voter_Floor_s, disk_Disk_Dead_s, disk_Disk_Revive_s, sealchainlaw15_told_holds_s, trivial⟩) Tryz.func7 (by kernel_rfl) (sealchainlaw15_VoteLasts_qe sealchainlaw15_works disk_New vote_Open sealchainref00_Bring vote_Voter_Promised vote_Voter_Prepare vote_Voter_Forget disk_Disk_Arm disk_Disk_Crash sealchainlaw15_conf vote_Voter_Accept vote_Voter_Floor disk_Disk_Dead disk_Disk_Revive sealchainlaw15_told_holds)
end Go.Proofs.Vt
