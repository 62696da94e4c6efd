/- A part of the proofs of the Vote laws: functions of the program in the evaluator's form, printed by a program of the prover's, each equation checked by the kernel. -/
import Derived.Test.YtlmjmjpohjdogaaGreatDoorF1
set_option linter.unusedVariables false
set_option linter.unusedSimpArgs false
/- PRINTED by gen.py. -/
set_option maxRecDepth 100000
namespace Go.Proofs.Vt
open Go Go.Rx Go.Proofs
/-! 24: (*sealchain/disk.Disk).Sync -/
def L24 (f52 : M1) (f38 : M1) (f61 : M2) : List (Nat × (List V → M)) := [(52, F1 f52), (38, F1 f38), (61, F2 f61)]
def E24 (f52 : M1) (f38 : M1) (f61 : M2) : Env := ⟨ty, tabC (L24 f52 f38 f61), meth, tabL [], tabL []⟩
noncomputable def fn24_q (f52 : M1) (f38 : M1) (f61 : M2) (t0 : V) : M := fun s K =>
 ((f52 t0) s fun t5 s =>
 (optK (binV .neq (some (Kd.int .i64)) true t5 (V.int .i64 0)) s fun t7 s => (condV t7
 (K t5 s)
 (optK (nilV t0) s fun t10 s => (optK (fp 3 t10) s fun t11 s => ((ld1 t11) s fun t12 s =>
 ((callV (E24 f52 f38 f61) t12 [t0]) s fun t14 s =>
 (optK (unV .not t14) s fun t15 s => (condV t15
 (K (V.int .i64 130) s)
 (optK (nilV t0) s fun t18 s => (optK (fp 0 t18) s fun t19 s => ((ld1 t19) s fun t20 s =>
 (optK (lenV (some (Kd.slice 5)) t20) s fun t21 s => (optK (nilV t0) s fun t22 s => (optK (fp 1 t22) s fun t23 s => ((st 1 t23 t21) s fun _ s =>
 (K (V.int .i64 0) s)))))))))))))))))
noncomputable def fn24 : V → M := fn24_q fn52 fn38 fn61
theorem fn24_qe (f52 : M1) (f38 : M1) (f61 : M2) (t0 : V) : fn24_q f52 f38 f61 t0 = evF (E24 f52 f38 f61) Tryz.f24 [t0] := by kernel_rfl
theorem fn24_s : SP Tryz.prog 24 (F1 fn24) := mk1 (mkEnv tab (L := L24 fn52 fn38 fn61) ⟨fn52_s, fn38_s, fn61_s, trivial⟩) Tryz.func24 (by kernel_rfl) (fn24_qe fn52 fn38 fn61)

/-! 85: (*sealchain/wal.Log).Add -/
def L85 (f95 : M1) (f96 : M1) (f22 : M2) (f97 : M2) (f24 : M1) (f68 : M1) : List (Nat × (List V → M)) := [(95, F1 f95), (96, F1 f96), (22, F2 f22), (97, F2 f97), (24, F1 f24), (68, F1 f68)]
def E85 (f95 : M1) (f96 : M1) (f22 : M2) (f97 : M2) (f24 : M1) (f68 : M1) : Env := ⟨ty, tabC (L85 f95 f96 f22 f97 f24 f68), meth, tabL [], tabL []⟩
noncomputable def fn85_q (f95 : M1) (f96 : M1) (f22 : M2) (f97 : M2) (f24 : M1) (f68 : M1) (t0 t1 : V) : M := fun s K =>
 ((f95 t0) s fun t11 s =>
 (optK (binV .neq (some (Kd.int .i64)) true t11 (V.int .i64 0)) s fun t13 s => (condV t13
 (K t11 s)
 ((f96 t1) s fun t17 s =>
 (optK (extractV t17 0) s fun t18 s => (optK (extractV t17 1) s fun t19 s => (optK (binV .neq (some (Kd.int .i64)) true t19 (V.int .i64 0)) s fun t21 s => (condV t21
 (K t19 s)
 (optK (lenV (some (Kd.slice 59)) t1) s fun t24 s => (optK (binV .gtr (some (Kd.int .i64)) true t24 (V.int .i64 0)) s fun t25 s => (condV t25
 (optK (nilV t0) s fun t28 s => (optK (fp 0 t28) s fun t29 s => ((ld1 t29) s fun t30 s =>
 ((f22 t30 t18) s fun t32 s =>
 ((f97 t0 t32) s fun t33 s =>
 (optK (binV .neq (some (Kd.int .i64)) true t33 (V.int .i64 0)) s fun t35 s => (condV t35
 (K t33 s)
 (optK (nilV t0) s fun t39 s => (optK (fp 0 t39) s fun t40 s => ((ld1 t40) s fun t41 s =>
 ((f24 t41) s fun t42 s =>
 ((f97 t0 t42) s fun t43 s =>
 (optK (binV .neq (some (Kd.int .i64)) true t43 (V.int .i64 0)) s fun t45 s => (condV t45
 (K t43 s)
 (optK (nilV t0) s fun t49 s => (optK (fp 1 t49) s fun t50 s => ((ld1 t50) s fun t51 s1 =>
 ((f68 t1) s1 fun t53 s2 =>
 (chkB (holds ti52 t50 s2 t51) ((app 1 24 t51 t53) s2 fun t54 s3 =>
 (optK (nilV t0) s3 fun t55 s3 => (optK (fp 1 t55) s3 fun t56 s3 => ((st 1 t56 t54) s3 fun _ s4 =>
 (K (V.int .i64 0) s4))))))))))))))))))))))))
 (optK (nilV t0) s fun t39 s => (optK (fp 0 t39) s fun t40 s => ((ld1 t40) s fun t41 s =>
 ((f24 t41) s fun t42 s =>
 ((f97 t0 t42) s fun t43 s =>
 (optK (binV .neq (some (Kd.int .i64)) true t43 (V.int .i64 0)) s fun t45 s => (condV t45
 (K t43 s)
 (optK (nilV t0) s fun t49 s => (optK (fp 1 t49) s fun t50 s => ((ld1 t50) s fun t51 s5 =>
 ((f68 t1) s5 fun t53 s6 =>
 (chkB (holds ti52 t50 s6 t51) ((app 1 24 t51 t53) s6 fun t54 s7 =>
 (optK (nilV t0) s7 fun t55 s7 => (optK (fp 1 t55) s7 fun t56 s7 => ((st 1 t56 t54) s7 fun _ s8 =>
 (K (V.int .i64 0) s8))))))))))))))))))))))))))))
noncomputable def fn85 : V → V → M := fn85_q fn95 fn96 fn22 fn97 fn24 fn68
theorem fn85_qe (f95 : M1) (f96 : M1) (f22 : M2) (f97 : M2) (f24 : M1) (f68 : M1) (t0 t1 : V) : fn85_q f95 f96 f22 f97 f24 f68 t0 t1 = evF (E85 f95 f96 f22 f97 f24 f68) Tryz.f85 [t0, t1] := by kernel_rfl
theorem fn85_s : SP Tryz.prog 85 (F2 fn85) := mk2 (mkEnv tab (L := L85 fn95 fn96 fn22 fn97 fn24 fn68) ⟨fn95_s, fn96_s, fn22_s, fn97_s, fn24_s, fn68_s, trivial⟩) Tryz.func85 (by kernel_rfl) (fn85_qe fn95 fn96 fn22 fn97 fn24 fn68)

/-! 123: slices.Reverse[[]byte,byte] -/
def L123 : List (Nat × (List V → M)) := []
def E123 : Env := ⟨ty, tabC (L123), meth, tabL [(1, [0, 2, 3])], tabL [(1, [])]⟩
noncomputable def fn123_L1 (t0 t2 t3 : V) : AS → KX → Prop := fun s K =>
 (optK (binV .lss (some (Kd.int .i64)) false t2 t3) s fun t9 s => (condV t9
 (optK (elemPtr none 1 t0 t3) s fun t20 s => ((ld1 t20) s fun t21 s1 =>
 (optK (elemPtr none 1 t0 t2) s1 fun t24 s1 => ((ld1 t24) s1 fun t25 s2 =>
 (optK (elemPtr none 1 t0 t2) s2 fun t26 s2 => ((st 1 t26 t21) s2 fun _ s3 =>
 (optK (elemPtr none 1 t0 t3) s3 fun t27 s3 => ((st 1 t27 t25) s3 fun _ s4 =>
 (optK (binV .add (some (Kd.int .i64)) true t2 (V.int .i64 1)) s4 fun t11 s4 => (optK (binV .sub (some (Kd.int .i64)) true t3 (V.int .i64 1)) s4 fun t13 s4 => (K .nrm (t0 :: (V.junk :: (t11 :: (t13 :: (jk 24 []))))) s4)))))))))))
 (K (.exit 0) (jk 28 []) s)))
noncomputable def fn123_q (t0 : V) : M := fun s K =>
 (optK (lenV (some (Kd.slice 5)) t0) s fun t5 s => (optK (binV .sub (some (Kd.int .i64)) true t5 (V.int .i64 1)) s fun t6 s => (loopN LOOPS (fun tm s K => fn123_L1 (tm.getD 0 .junk) (tm.getD 2 .junk) (tm.getD 3 .junk) s K) (t0 :: (V.junk :: ((V.int .i64 0) :: (t6 :: (jk 24 []))))) s (fun e tm s => exX e (fun j1 => (exB (j1 == 0)
 (K (V.tuple []) s)
 False)) (K (V.tuple []) s)))))
noncomputable def fn123 : V → M := fn123_q
theorem fn123_qe (t0 : V) : fn123_q t0 = evF (E123) Tryz.f123 [t0] := by kernel_rfl
theorem fn123_s : SP Tryz.prog 123 (F1 fn123) := mk1 (mkEnv tab (L := L123) trivial) Tryz.func123 (by kernel_rfl) (fn123_qe)

/-! 92: (*sealchain/num.Writer).Count -/
def L92 (f122 : M3) (f123 : M1) : List (Nat × (List V → M)) := [(122, F3 f122), (123, F1 f123)]
def E92 (f122 : M3) (f123 : M1) : Env := ⟨ty, tabC (L92 f122 f123), meth, tabL [(5, [0, 1, 5])], tabL [(5, [0, 5])]⟩
noncomputable def fn92_L1 (f122 : M3) (f123 : M1) (t0 t1 t5 : V) : AS → KX → Prop := fun s K =>
 (optK (binV .gtr (some (Kd.int .i64)) true t1 (V.int .i64 0)) s fun t21 s => (condV t21
 (optK (binV .rem (some (Kd.int .i64)) true t1 (V.int .i64 128)) s fun t26 s => (optK (binV .or (some (Kd.int .i64)) true t26 (V.int .i64 128)) s fun t27 s => ((cvt (Kd.int .i64) (Kd.int .u8) t27) s fun t28 s =>
 ((bsl 1 [(V.int .u8 0)] 1 [(0, t28)]) s fun t29 s =>
 ((app 1 1 t5 t29) s fun t30 s =>
 (optK (binV .shr (some (Kd.int .i64)) true t1 (V.int .u64 7)) s fun t23 s => (K .nrm (t0 :: (t23 :: (jk 3 (t30 :: (jk 30 []))))) s)))))))
 (K (.exit 0) (t0 :: (jk 4 (t5 :: (jk 30 [])))) s)))
noncomputable def fn92_q (f122 : M3) (f123 : M1) (t0 t1 : V) : M := fun s K =>
 (optK (binV .lss (some (Kd.int .i64)) true t1 (V.int .i64 0)) s fun t7 s => (grd t7
 ((f122 t0 (V.int .i64 9) (V.slice none 0 0 true)) s fun t13 s =>
 (K t13 s))
 (optK (binV .gtr (some (Kd.int .i64)) true t1 (V.int .i64 9007199254740991)) s fun t10 s => (condV t10
 ((f122 t0 (V.int .i64 9) (V.slice none 0 0 true)) s fun t13 s =>
 (K t13 s))
 (optK (binV .rem (some (Kd.int .i64)) true t1 (V.int .i64 128)) s fun t15 s => ((cvt (Kd.int .i64) (Kd.int .u8) t15) s fun t16 s =>
 ((bsl 1 [(V.int .u8 0)] 1 [(0, t16)]) s fun t17 s =>
 (optK (binV .shr (some (Kd.int .i64)) true t1 (V.int .u64 7)) s fun t19 s => (loopN LOOPS (fun tm s K => fn92_L1 f122 f123 (tm.getD 0 .junk) (tm.getD 1 .junk) (tm.getD 5 .junk) s K) (t0 :: (t19 :: (jk 3 (t17 :: (jk 30 []))))) s (fun e tm s => exX e (fun j1 => (exB (j1 == 0)
 ((f123 (tm.getD 5 .junk)) s fun t32 s =>
 ((f122 (tm.getD 0 .junk) (V.int .i64 0) (tm.getD 5 .junk)) s fun t35 s =>
 (K t35 s)))
 False)) (K V.junk s)))))))))
 False))
noncomputable def fn92 : V → V → M := fn92_q fn122 fn123
theorem fn92_qe (f122 : M3) (f123 : M1) (t0 t1 : V) : fn92_q f122 f123 t0 t1 = evF (E92 f122 f123) Tryz.f92 [t0, t1] := by kernel_rfl
theorem fn92_s : SP Tryz.prog 92 (F2 fn92) := mk2 (mkEnv tab (L := L92 fn122 fn123) ⟨fn122_s, fn123_s, trivial⟩) Tryz.func92 (by kernel_rfl) (fn92_qe fn122 fn123)

/-! 89: sealchain/vote.written -/
def L89 (f121 : M1) : List (Nat × (List V → M)) := [(121, F1 f121)]
def E89 (f121 : M1) : Env := ⟨ty, tabC (L89 f121), meth, tabL [], tabL []⟩
noncomputable def fn89_q (f121 : M1) (t0 : V) : M := fun s K =>
 ((f121 t0) s fun t7 s =>
 (optK (extractV t7 0) s fun t8 s => (optK (extractV t7 1) s fun t9 s => (K t8 s))))
noncomputable def fn89 : V → M := fn89_q fn121
theorem fn89_qe (f121 : M1) (t0 : V) : fn89_q f121 t0 = evF (E89 f121) Tryz.f89 [t0] := by kernel_rfl
theorem fn89_s : SP Tryz.prog 89 (F1 fn89) := mk1 (mkEnv tab (L := L89 fn121) ⟨fn121_s, trivial⟩) Tryz.func89 (by kernel_rfl) (fn89_qe fn121)

/-! 47: (sealchain/vote.promise).bytes -/
def L47 (f90 : M) (f91 : M3) (f92 : M2) (f89 : M1) : List (Nat × (List V → M)) := [(90, F0 f90), (91, F3 f91), (92, F2 f92), (89, F1 f89)]
def E47 (f90 : M) (f91 : M3) (f92 : M2) (f89 : M1) : Env := ⟨ty, tabC (L47 f90 f91 f92 f89), meth, tabL [], tabL []⟩
noncomputable def fn47_q (f90 : M) (f91 : M3) (f92 : M2) (f89 : M1) (t0 : V) : M := fun s K =>
 ((f90) s fun t3 s =>
 ((f91 t3 (V.int .i64 1) (V.int .i64 1)) s fun t4 s =>
 ((f92 t4 t0) s fun t6 s =>
 ((f89 t6) s fun t7 s =>
 (K t7 s)))))
noncomputable def fn47 : V → M := fn47_q fn90 fn91 fn92 fn89
theorem fn47_qe (f90 : M) (f91 : M3) (f92 : M2) (f89 : M1) (t0 : V) : fn47_q f90 f91 f92 f89 t0 = evF (E47 f90 f91 f92 f89) Tryz.f47 [t0] := by kernel_rfl
theorem fn47_s : SP Tryz.prog 47 (F1 fn47) := mk1 (mkEnv tab (L := L47 fn90 fn91 fn92 fn89) ⟨fn90_s, fn91_s, fn92_s, fn89_s, trivial⟩) Tryz.func47 (by kernel_rfl) (fn47_qe fn90 fn91 fn92 fn89)

/-! 48: (sealchain/vote.floored).bytes -/
def L48 (f90 : M) (f91 : M3) (f92 : M2) (f89 : M1) : List (Nat × (List V → M)) := [(90, F0 f90), (91, F3 f91), (92, F2 f92), (89, F1 f89)]
def E48 (f90 : M) (f91 : M3) (f92 : M2) (f89 : M1) : Env := ⟨ty, tabC (L48 f90 f91 f92 f89), meth, tabL [], tabL []⟩
noncomputable def fn48_q (f90 : M) (f91 : M3) (f92 : M2) (f89 : M1) (t0 : V) : M := fun s K =>
 ((f90) s fun t3 s =>
 ((f91 t3 (V.int .i64 1) (V.int .i64 3)) s fun t4 s =>
 ((f92 t4 t0) s fun t6 s =>
 ((f89 t6) s fun t7 s =>
 (K t7 s)))))
noncomputable def fn48 : V → M := fn48_q fn90 fn91 fn92 fn89
theorem fn48_qe (f90 : M) (f91 : M3) (f92 : M2) (f89 : M1) (t0 : V) : fn48_q f90 f91 f92 f89 t0 = evF (E48 f90 f91 f92 f89) Tryz.f48 [t0] := by kernel_rfl
theorem fn48_s : SP Tryz.prog 48 (F1 fn48) := mk1 (mkEnv tab (L := L48 fn90 fn91 fn92 fn89) ⟨fn90_s, fn91_s, fn92_s, fn89_s, trivial⟩) Tryz.func48 (by kernel_rfl) (fn48_qe fn90 fn91 fn92 fn89)

/-! 93: sealchain/pack.BytesConf -/
def L93 (f42 : M1) (f90 : M) (f92 : M2) (f91 : M3) (f121 : M1) : List (Nat × (List V → M)) := [(42, F1 f42), (90, F0 f90), (92, F2 f92), (91, F3 f91), (121, F1 f121)]
def E93 (f42 : M1) (f90 : M) (f92 : M2) (f91 : M3) (f121 : M1) : Env := ⟨ty, tabC (L93 f42 f90 f92 f91 f121), meth, tabL [(6, [5, 25, 26, 27])], tabL [(6, [5])]⟩
noncomputable def fn93_L1 (f42 : M1) (f90 : M) (f92 : M2) (f91 : M3) (f121 : M1) (t5 t25 t26 t27 : V) : AS → KX → Prop := fun s K =>
 (optK (binV .lss (some (Kd.int .i64)) false t27 t26) s fun t28 s => (condV t28
 (optK (elemPtr none 1 t25 t27) s fun t29 s => ((ld1 t29) s fun t30 s =>
 ((f91 t5 (V.int .i64 1) t30) s fun t33 s =>
 (optK (binV .add (some (Kd.int .i64)) true t27 (V.int .i64 1)) s fun t34 s => (K .nrm (jk 5 (t33 :: (jk 19 (t25 :: (t26 :: (t34 :: (jk 11 []))))))) s)))))
 (K (.exit 0) (jk 5 (t5 :: (jk 33 []))) s)))
noncomputable def fn93_q (f42 : M1) (f90 : M) (f92 : M2) (f91 : M3) (f121 : M1) (t0 : V) : M := fun s K =>
 ((boxV t0) s fun t1 s =>
 ((ldA 3 t1) s fun t8 s =>
 ((f42 t8) s fun t9 s =>
 (optK (binV .neq (some (Kd.int .i64)) true t9 (V.int .i64 0)) s fun t11 s => (condV t11
 (K (V.tuple [(V.slice none 0 0 true), t9]) s)
 ((f90) s fun t13 s1 =>
 (optK (fp 0 t1) s1 fun t14 s1 => ((ld1 t14) s1 fun t15 s2 =>
 (chkB (holds ti3 t14 s t15) ((f92 t13 t15) s2 fun t16 s3 =>
 (optK (fp 1 t1) s3 fun t17 s3 => ((ld1 t17) s3 fun t18 s4 =>
 (chkB (holds ti3 t17 s2 t18) (chkB (holds ti3 t17 s t18) ((f91 t16 (V.int .i64 1) t18) s4 fun t19 s5 =>
 (optK (fp 2 t1) s5 fun t20 s5 => ((ld1 t20) s5 fun t21 s6 =>
 (chkB (holds ti35 t20 s4 t21) (chkB (holds ti35 t20 s2 t21) (chkB (holds ti35 t20 s t21) (optK (lenV (some (Kd.slice 3)) t21) s6 fun t22 s6 => ((f91 t19 (V.int .i64 1) t22) s6 fun t23 s7 =>
 (optK (fp 2 t1) s7 fun t24 s7 => ((ld1 t24) s7 fun t25 s7 =>
 (optK (lenV (some (Kd.slice 3)) t25) s7 fun t26 s7 => (loopN LOOPS (fun tm s K => fn93_L1 f42 f90 f92 f91 f121 (tm.getD 5 .junk) (tm.getD 25 .junk) (tm.getD 26 .junk) (tm.getD 27 .junk) s K) (jk 5 (t23 :: (jk 19 (t25 :: (t26 :: ((V.int .i64 0) :: (jk 11 []))))))) s7 (fun e tm s => exX e (fun j1 => (exB (j1 == 0)
 ((f121 (tm.getD 5 .junk)) s fun t36 s =>
 (optK (extractV t36 0) s fun t37 s => (optK (extractV t36 1) s fun t38 s => (K (V.tuple [t37, t38]) s))))
 False)) (K (V.tuple [V.junk, V.junk]) s))))))))))))))))))))))))))))
noncomputable def fn93 : V → M := fn93_q fn42 fn90 fn92 fn91 fn121
theorem fn93_qe (f42 : M1) (f90 : M) (f92 : M2) (f91 : M3) (f121 : M1) (t0 : V) : fn93_q f42 f90 f92 f91 f121 t0 = evF (E93 f42 f90 f92 f91 f121) Tryz.f93 [t0] := by kernel_rfl
theorem fn93_s : SP Tryz.prog 93 (F1 fn93) := mk1 (mkEnv tab (L := L93 fn42 fn90 fn92 fn91 fn121) ⟨fn42_s, fn90_s, fn92_s, fn91_s, fn121_s, trivial⟩) Tryz.func93 (by kernel_rfl) (fn93_qe fn42 fn90 fn92 fn91 fn121)

/-! 94: (*sealchain/num.Writer).Text -/
def L94 (f92 : M2) (f124 : M2) : List (Nat × (List V → M)) := [(92, F2 f92), (124, F2 f124)]
def E94 (f92 : M2) (f124 : M2) : Env := ⟨ty, tabC (L94 f92 f124), meth, tabL [], tabL []⟩
noncomputable def fn94_q (f92 : M2) (f124 : M2) (t0 t1 : V) : M := fun s K =>
 (optK (lenV (some (Kd.slice 5)) t1) s fun t7 s => ((f92 t0 t7) s fun t8 s =>
 ((f124 t8 t1) s fun t10 s =>
 (K t10 s))))
noncomputable def fn94 : V → V → M := fn94_q fn92 fn124
theorem fn94_qe (f92 : M2) (f124 : M2) (t0 t1 : V) : fn94_q f92 f124 t0 t1 = evF (E94 f92 f124) Tryz.f94 [t0, t1] := by kernel_rfl
theorem fn94_s : SP Tryz.prog 94 (F2 fn94) := mk2 (mkEnv tab (L := L94 fn92 fn124) ⟨fn92_s, fn124_s, trivial⟩) Tryz.func94 (by kernel_rfl) (fn94_qe fn92 fn124)

/-! 49: (sealchain/vote.voted).bytes -/
def L49 (f93 : M1) (f90 : M) (f91 : M3) (f92 : M2) (f94 : M2) (f89 : M1) : List (Nat × (List V → M)) := [(93, F1 f93), (90, F0 f90), (91, F3 f91), (92, F2 f92), (94, F2 f94), (89, F1 f89)]
def E49 (f93 : M1) (f90 : M) (f91 : M3) (f92 : M2) (f94 : M2) (f89 : M1) : Env := ⟨ty, tabC (L49 f93 f90 f91 f92 f94 f89), meth, tabL [], tabL []⟩
noncomputable def fn49_q (f93 : M1) (f90 : M) (f91 : M3) (f92 : M2) (f94 : M2) (f89 : M1) (t0 : V) : M := fun s K =>
 ((boxV t0) s fun t1 s =>
 (optK (fp 1 t1) s fun t6 s => ((ldA 3 t6) s fun t7 s =>
 ((f93 t7) s fun t8 s =>
 (optK (extractV t8 0) s fun t9 s => (optK (extractV t8 1) s fun t10 s => ((f90) s fun t11 s1 =>
 ((f91 t11 (V.int .i64 1) (V.int .i64 2)) s1 fun t12 s2 =>
 (optK (fp 0 t1) s2 fun t13 s2 => ((ld1 t13) s2 fun t14 s3 =>
 (chkB (holds ti3 t13 s1 t14) (chkB (holds ti3 t13 s t14) ((f92 t12 t14) s3 fun t15 s4 =>
 ((f94 t15 t9) s4 fun t17 s5 =>
 ((f89 t17) s5 fun t18 s6 =>
 (K t18 s6))))))))))))))))
noncomputable def fn49 : V → M := fn49_q fn93 fn90 fn91 fn92 fn94 fn89
theorem fn49_qe (f93 : M1) (f90 : M) (f91 : M3) (f92 : M2) (f94 : M2) (f89 : M1) (t0 : V) : fn49_q f93 f90 f91 f92 f94 f89 t0 = evF (E49 f93 f90 f91 f92 f94 f89) Tryz.f49 [t0] := by kernel_rfl
theorem fn49_s : SP Tryz.prog 49 (F1 fn49) := mk1 (mkEnv tab (L := L49 fn93 fn90 fn91 fn92 fn94 fn89) ⟨fn93_s, fn90_s, fn91_s, fn92_s, fn94_s, fn89_s, trivial⟩) Tryz.func49 (by kernel_rfl) (fn49_qe fn93 fn90 fn91 fn92 fn94 fn89)

/-! 45: (*sealchain/vote.Voter).writes -/
def L45 (f85 : M2) (f36 : M2) (f47 : M1) (f48 : M1) (f49 : M1) : List (Nat × (List V → M)) := [(85, F2 f85), (36, F2 f36), (47, F1 f47), (48, F1 f48), (49, F1 f49)]
def E45 (f85 : M2) (f36 : M2) (f47 : M1) (f48 : M1) (f49 : M1) : Env := ⟨ty, tabC (L45 f85 f36 f47 f48 f49), meth, tabL [], tabL []⟩
noncomputable def fn45_q (f85 : M2) (f36 : M2) (f47 : M1) (f48 : M1) (f49 : M1) (t0 t1 : V) : M := fun s K =>
 (optK (nilV t0) s fun t7 s => (optK (fp 0 t7) s fun t8 s => ((ld1 t8) s fun t9 s1 =>
 ((invV (E45 f85 f36 f47 f48 f49) t1 "sealchain/vote.bytes" []) s1 fun t11 s2 =>
 (chkB (holds ti66 t8 s2 t9) ((bsl 1 [(V.slice none 0 0 true)] 1 [(0, t11)]) s2 fun t12 s3 =>
 (chkB (holds ti66 t8 s3 t9) ((f85 t9 t12) s3 fun t13 s4 =>
 (optK (binV .neq (some (Kd.int .i64)) true t13 (V.int .i64 0)) s4 fun t15 s4 => (condV t15
 (K t13 s4)
 ((f36 t0 t1) s4 fun t19 s4 =>
 (K (V.int .i64 0) s4))))))))))))
noncomputable def fn45 : V → V → M := fn45_q fn85 fn36 fn47 fn48 fn49
theorem fn45_qe (f85 : M2) (f36 : M2) (f47 : M1) (f48 : M1) (f49 : M1) (t0 t1 : V) : fn45_q f85 f36 f47 f48 f49 t0 t1 = evF (E45 f85 f36 f47 f48 f49) Tryz.f45 [t0, t1] := by kernel_rfl
theorem fn45_s : SP Tryz.prog 45 (F2 fn45) := mk2 (mkEnv tab (L := L45 fn85 fn36 fn47 fn48 fn49) ⟨fn85_s, fn36_s, fn47_s, fn48_s, fn49_s, trivial⟩) Tryz.func45 (by kernel_rfl) (fn45_qe fn85 fn36 fn47 fn48 fn49)

/-! 119: maps.Keys[map[int]sealchain/api.Vote,int,sealchain/api.Vote]$1 -/
def L119 : List (Nat × (List V → M)) := []
def E119 : Env := ⟨ty, tabC (L119), meth, tabL [(1, [0, 5])], tabL [(1, [])]⟩
noncomputable def fn119_L1 (t0 t5 : V) : AS → KX → Prop := fun s K =>
 ((nextM t5) s fun t6 s =>
 (optK (extractV t6 0) s fun t7 s => (condV t7
 ((entryM t5) s fun t8 s =>
 (optK (extractV t8 0) s fun t9 s => ((callV (E119) t0 [t9]) s fun t12 s =>
 (optK (unV .not t12) s fun t13 s => (condV t13
 (K .ret (jk 14 []) s)
 (K .nrm (t0 :: (jk 4 (t5 :: (jk 8 [])))) s))))))
 (K (.exit 0) (jk 14 []) s))))
noncomputable def fn119_q (t0 t1 : V) : M := fun s K =>
 ((ld1 t1) s fun t4 s =>
 ((rangeM t4) s fun t5 s =>
 (loopN LOOPS (fun tm s K => fn119_L1 (tm.getD 0 .junk) (tm.getD 5 .junk) s K) (t0 :: (jk 4 (t5 :: (jk 8 [])))) s (fun e tm s => exX e (fun j1 => (exB (j1 == 0)
 (K (V.tuple []) s)
 False)) (K (V.tuple []) s)))))
noncomputable def fn119 : V → V → M := fn119_q
theorem fn119_qe (t0 t1 : V) : fn119_q t0 t1 = evF (E119) Tryz.f119 [t0, t1] := by kernel_rfl
theorem fn119_s : SP Tryz.prog 119 (F2 fn119) := mk2 (mkEnv tab (L := L119) trivial) Tryz.func119 (by kernel_rfl) (fn119_qe)

/-! 87: maps.Keys[map[int]sealchain/api.Vote,int,sealchain/api.Vote] -/
def L87 (f119 : M2) : List (Nat × (List V → M)) := [(119, F2 f119)]
def E87 (f119 : M2) : Env := ⟨ty, tabC (L87 f119), meth, tabL [], tabL []⟩
noncomputable def fn87_q (f119 : M2) (t0 : V) : M := fun s K =>
 ((boxV t0) s fun t1 s =>
 (K (V.func (.func 119) [] [t1]) s))
noncomputable def fn87 : V → M := fn87_q fn119
theorem fn87_qe (f119 : M2) (t0 : V) : fn87_q f119 t0 = evF (E87 f119) Tryz.f87 [t0] := by kernel_rfl
theorem fn87_s : SP Tryz.prog 87 (F1 fn87) := mk1 (mkEnv tab (L := L87 fn119) ⟨fn119_s, trivial⟩) Tryz.func87 (by kernel_rfl) (fn87_qe fn119)

/-! 88: cmp.Compare[int] -/
def L88 (f120 : M1) : List (Nat × (List V → M)) := [(120, F1 f120)]
def E88 (f120 : M1) : Env := ⟨ty, tabC (L88 f120), meth, tabL [], tabL []⟩
noncomputable def fn88_q (f120 : M1) (t0 t1 : V) : M := fun s K =>
 ((f120 t0) s fun t8 s =>
 ((f120 t1) s fun t10 s =>
 (condV t8
 (condV t10
 (K (V.int .i64 0) s)
 (K (V.int .i64 (-1)) s))
 (condV t10
 (K (V.int .i64 1) s)
 (optK (binV .lss (some (Kd.int .i64)) false t0 t1) s fun t16 s => (condV t16
 (K (V.int .i64 (-1)) s)
 (optK (binV .gtr (some (Kd.int .i64)) false t0 t1) s fun t19 s => (condV t19
 (K (V.int .i64 1) s)
 (K (V.int .i64 0) s)))))))))
noncomputable def fn88 : V → V → M := fn88_q fn120
theorem fn88_qe (f120 : M1) (t0 t1 : V) : fn88_q f120 t0 t1 = evF (E88 f120) Tryz.f88 [t0, t1] := by kernel_rfl
theorem fn88_s : SP Tryz.prog 88 (F2 fn88) := mk2 (mkEnv tab (L := L88 fn120) ⟨fn120_s, trivial⟩) Tryz.func88 (by kernel_rfl) (fn88_qe fn120)

/-! 166: slices.insertionSortCmpFunc[int] -/
def L166 (f88 : M2) : List (Nat × (List V → M)) := [(88, F2 f88)]
def E166 (f88 : M2) : Env := ⟨ty, tabC (L166 f88), meth, tabL [(1, [0, 1, 2, 3, 8]), (4, [0, 1, 2, 3, 8, 9])], tabL [(1, []), (4, [0, 1, 2, 3, 8])]⟩
noncomputable def fn166_L2 (f88 : M2) (t0 t1 t2 t3 t8 t9 : V) : AS → KX → Prop := fun s K =>
 (optK (binV .gtr (some (Kd.int .i64)) false t9 t1) s fun t20 s => (grd t20
 (optK (elemPtr none 1 t0 t9) s fun t25 s => ((ld1 t25) s fun t26 s1 =>
 (optK (binV .sub (some (Kd.int .i64)) true t9 (V.int .i64 1)) s1 fun t29 s1 => (optK (elemPtr none 1 t0 t29) s1 fun t30 s1 => ((ld1 t30) s1 fun t31 s2 =>
 ((callV (E166 f88) t3 [t26, t31]) s2 fun t32 s3 =>
 (optK (binV .lss (some (Kd.int .i64)) true t32 (V.int .i64 0)) s3 fun t33 s3 => (condV t33
 (optK (binV .sub (some (Kd.int .i64)) true t9 (V.int .i64 1)) s3 fun t41 s3 => (optK (binV .sub (some (Kd.int .i64)) true t9 (V.int .i64 1)) s3 fun t44 s3 => (optK (elemPtr none 1 t0 t44) s3 fun t45 s3 => ((ld1 t45) s3 fun t46 s4 =>
 (optK (elemPtr none 1 t0 t9) s4 fun t49 s4 => ((ld1 t49) s4 fun t50 s5 =>
 (optK (elemPtr none 1 t0 t9) s5 fun t51 s5 => ((st 1 t51 t46) s5 fun _ s6 =>
 (optK (elemPtr none 1 t0 t41) s6 fun t52 s6 => ((st 1 t52 t50) s6 fun _ s7 =>
 (optK (binV .sub (some (Kd.int .i64)) true t9 (V.int .i64 1)) s7 fun t36 s7 => (K .nrm (t0 :: (t1 :: (t2 :: (t3 :: (jk 4 (t8 :: (t36 :: (jk 43 [])))))))) s7))))))))))))
 (K (.exit 2) (t0 :: (t1 :: (t2 :: (t3 :: (jk 4 (t8 :: (jk 44 []))))))) s3)))))))))
 (K (.exit 2) (t0 :: (t1 :: (t2 :: (t3 :: (jk 4 (t8 :: (jk 44 []))))))) s)
 False))
noncomputable def fn166_L1 (f88 : M2) (t0 t1 t2 t3 t8 : V) : AS → KX → Prop := fun s K =>
 (optK (binV .lss (some (Kd.int .i64)) false t8 t2) s fun t14 s => (condV t14
 (loopN LOOPS (fun tm s K => fn166_L2 f88 (tm.getD 0 .junk) (tm.getD 1 .junk) (tm.getD 2 .junk) (tm.getD 3 .junk) (tm.getD 8 .junk) (tm.getD 9 .junk) s K) (t0 :: (t1 :: (t2 :: (t3 :: (jk 4 (t8 :: (t8 :: (jk 43 [])))))))) s (fun e tm s => exX e (fun j1 => (exB (j1 == 2)
 (optK (binV .add (some (Kd.int .i64)) true (tm.getD 8 .junk) (V.int .i64 1)) s fun t16 s => (K .nrm ((tm.getD 0 .junk) :: ((tm.getD 1 .junk) :: ((tm.getD 2 .junk) :: ((tm.getD 3 .junk) :: (jk 4 (t16 :: (jk 44 []))))))) s))
 (exB (j1 == 1)
 (optK (binV .add (some (Kd.int .i64)) true (tm.getD 8 .junk) (V.int .i64 1)) s fun t16 s => (K .nrm ((tm.getD 0 .junk) :: ((tm.getD 1 .junk) :: ((tm.getD 2 .junk) :: ((tm.getD 3 .junk) :: (jk 4 (t16 :: (jk 44 []))))))) s))
 (K (.exit j1) (jk 53 []) s)))) (K .ret (jk 53 []) s)))
 (K (.exit 0) (jk 53 []) s)))
noncomputable def fn166_q (f88 : M2) (t0 t1 t2 t3 : V) : M := fun s K =>
 (optK (binV .add (some (Kd.int .i64)) true t1 (V.int .i64 1)) s fun t11 s => (loopN LOOPS (fun tm s K => fn166_L1 f88 (tm.getD 0 .junk) (tm.getD 1 .junk) (tm.getD 2 .junk) (tm.getD 3 .junk) (tm.getD 8 .junk) s K) (t0 :: (t1 :: (t2 :: (t3 :: (jk 4 (t11 :: (jk 44 []))))))) s (fun e tm s => exX e (fun j1 => (exB (j1 == 0)
 (K (V.tuple []) s)
 False)) (K (V.tuple []) s))))
noncomputable def fn166 : V → V → V → V → M := fn166_q fn88
theorem fn166_qe (f88 : M2) (t0 t1 t2 t3 : V) : fn166_q f88 t0 t1 t2 t3 = evF (E166 f88) Tryz.f166 [t0, t1, t2, t3] := by kernel_rfl
theorem fn166_s : SP Tryz.prog 166 (F4 fn166) := mk4 (mkEnv tab (L := L166 fn88) ⟨fn88_s, trivial⟩) Tryz.func166 (by kernel_rfl) (fn166_qe fn88)

/-! 144: slices.pdqsortCmpFunc[int] -/
def L144 (f166 : V → V → V → V → M) : List (Nat × (List V → M)) := [(166, F4 f166)]
def E144 (f166 : V → V → V → V → M) : Env := ⟨ty, tabC (L144 f166), meth, tabL [(2, [0, 1, 2, 3, 4, 10, 11])], tabL [(2, [])]⟩
noncomputable def fn144_L1 (f166 : V → V → V → V → M) (t0 t1 t2 t3 t4 t10 t11 : V) : AS → KX → Prop := fun s K =>
 (optK (binV .sub (some (Kd.int .i64)) false t2 t1) s fun t23 s => (optK (binV .leq (some (Kd.int .i64)) true t23 (V.int .i64 12)) s fun t25 s => (condV t25
 ((f166 t0 t1 t2 t4) s fun t30 s =>
 (K .ret (jk 148 []) s))
 (optK (binV .eql (some (Kd.int .i64)) true t3 (V.int .i64 0)) s fun t32 s => (condV t32
 False
 (optK (unV .not t10) s fun t39 s => (condV t39
 False
 False)))))))
noncomputable def fn144_q (f166 : V → V → V → V → M) (t0 t1 t2 t3 t4 : V) : M := fun s K =>
 (loopN LOOPS (fun tm s K => fn144_L1 f166 (tm.getD 0 .junk) (tm.getD 1 .junk) (tm.getD 2 .junk) (tm.getD 3 .junk) (tm.getD 4 .junk) (tm.getD 10 .junk) (tm.getD 11 .junk) s K) (t0 :: (t1 :: (t2 :: (t3 :: (t4 :: (jk 5 ((V.bool true) :: ((V.bool true) :: (jk 136 []))))))))) s (fun e tm s => exX e (fun j1 => (exB (j1 == 0)
 (K (V.tuple []) s)
 False)) (K (V.tuple []) s)))
noncomputable def fn144 : V → V → V → V → V → M := fn144_q fn166
theorem fn144_qe (f166 : V → V → V → V → M) (t0 t1 t2 t3 t4 : V) : fn144_q f166 t0 t1 t2 t3 t4 = evF (E144 f166) Tryz.f144 [t0, t1, t2, t3, t4] := by kernel_rfl
theorem fn144_s : SP Tryz.prog 144 (F5 fn144) := mk5 (mkEnv tab (L := L144 fn166) ⟨fn166_s, trivial⟩) Tryz.func144 (by kernel_rfl) (fn144_qe fn166)

/-! 118: slices.SortFunc[[]int,int] -/
def L118 (f143 : M1) (f144 : V → V → V → V → V → M) : List (Nat × (List V → M)) := [(143, F1 f143), (144, F5 f144)]
def E118 (f143 : M1) (f144 : V → V → V → V → V → M) : Env := ⟨ty, tabC (L118 f143 f144), meth, tabL [], tabL []⟩
noncomputable def fn118_q (f143 : M1) (f144 : V → V → V → V → V → M) (t0 t1 : V) : M := fun s K =>
 (optK (lenV (some (Kd.slice 3)) t0) s fun t6 s => ((cvt (Kd.int .i64) (Kd.int .u64) t6) s fun t10 s =>
 ((f143 t10) s fun t11 s =>
 ((f144 t0 (V.int .i64 0) t6 t11 t1) s fun t13 s =>
 (K (V.tuple []) s)))))
noncomputable def fn118 : V → V → M := fn118_q fn143 fn144
theorem fn118_qe (f143 : M1) (f144 : V → V → V → V → V → M) (t0 t1 : V) : fn118_q f143 f144 t0 t1 = evF (E118 f143 f144) Tryz.f118 [t0, t1] := by kernel_rfl
theorem fn118_s : SP Tryz.prog 118 (F2 fn118) := mk2 (mkEnv tab (L := L118 fn143 fn144) ⟨fn143_s, fn144_s, trivial⟩) Tryz.func118 (by kernel_rfl) (fn118_qe fn143 fn144)

/-! 86: slices.SortedFunc[int] -/
def L86 (f115 : M1) (f118 : M2) : List (Nat × (List V → M)) := [(115, F1 f115), (118, F2 f118)]
def E86 (f115 : M1) (f118 : M2) : Env := ⟨ty, tabC (L86 f115 f118), meth, tabL [], tabL []⟩
noncomputable def fn86_q (f115 : M1) (f118 : M2) (t0 t1 : V) : M := fun s K =>
 ((f115 t0) s fun t7 s =>
 ((f118 t7 t1) s fun t10 s =>
 (K t7 s)))
noncomputable def fn86 : V → V → M := fn86_q slices_CollectI fn118
theorem fn86_qe (f115 : M1) (f118 : M2) (t0 t1 : V) : fn86_q f115 f118 t0 t1 = evF (E86 f115 f118) Tryz.f86 [t0, t1] := by kernel_rfl
theorem fn86_s : SP Tryz.prog 86 (F2 fn86) := mk2 (mkEnv tab (L := L86 slices_CollectI fn118) ⟨slices_CollectI_s, fn118_s, trivial⟩) Tryz.func86 (by kernel_rfl) (fn86_qe slices_CollectI fn118)

/-! 44: slices.Clone[[]int,int] -/
def L44 : List (Nat × (List V → M)) := []
def E44 : Env := ⟨ty, tabC (L44), meth, tabL [], tabL []⟩
noncomputable def fn44_q (t0 : V) : M := fun s K =>
 (optK (binV .eql (some (Kd.slice 3)) true t0 (V.slice none 0 0 true)) s fun t4 s => (condV t4
 (K (V.slice none 0 0 true) s)
 ((bsl 1 [(V.int .i64 0)] 0 []) s fun t5 s =>
 ((app 1 8 t5 t0) s fun t7 s =>
 (K t7 s)))))
noncomputable def fn44 : V → M := fn44_q
theorem fn44_qe (t0 : V) : fn44_q t0 = evF (E44) Tryz.f44 [t0] := by kernel_rfl
theorem fn44_s : SP Tryz.prog 44 (F1 fn44) := mk1 (mkEnv tab (L := L44) trivial) Tryz.func44 (by kernel_rfl) (fn44_qe)

/-! 46: (*sealchain/vote.Voter).above -/
def L46 (f87 : M1) (f86 : M2) (f88 : M2) (f44 : M1) : List (Nat × (List V → M)) := [(87, F1 f87), (86, F2 f86), (88, F2 f88), (44, F1 f44)]
def E46 (f87 : M1) (f86 : M2) (f88 : M2) (f44 : M1) : Env := ⟨ty, tabC (L46 f87 f86 f88 f44), meth, tabL [(2, [0, 1, 4, 13, 14, 15])], tabL [(2, [4])]⟩
noncomputable def fn46_L1 (f87 : M1) (f86 : M2) (f88 : M2) (f44 : M1) (t0 t1 t4 t13 t14 t15 : V) : AS → KX → Prop := fun s K =>
 (optK (binV .lss (some (Kd.int .i64)) false t15 t14) s fun t16 s => (condV t16
 (optK (elemPtr none 1 t13 t15) s fun t17 s => ((ld1 t17) s fun t18 s =>
 (optK (nilV t0) s fun t20 s => (optK (fp 3 t20) s fun t21 s => ((ld1 t21) s fun t22 s =>
 ((lookV (Kd.int .i64) (V.agg [(V.int .i64 0), (V.int .i64 0), (V.int .i64 0), (V.slice none 0 0 true)]) false t22 t18) s fun t24 s =>
 ((newC [(V.int .i64 0), (V.int .i64 0), (V.int .i64 0), (V.slice none 0 0 true)]) s fun t7 s =>
 ((st 4 t7 t24) s fun _ s =>
 (optK (binV .geq (some (Kd.int .i64)) false t18 t1) s fun t27 s => (condV t27
 (optK (fp 1 t7) s fun t28 s => (optK (fp 2 t28) s fun t29 s => ((ld1 t29) s fun t30 s =>
 ((f44 t30) s fun t31 s =>
 (optK (fp 1 t7) s fun t32 s => (optK (fp 2 t32) s fun t33 s => ((st 1 t33 t31) s fun _ s =>
 ((ldA 4 t7) s fun t35 s =>
 ((bsl 4 [(V.int .i64 0), (V.int .i64 0), (V.int .i64 0), (V.slice none 0 0 true)] 1 [(0, t35)]) s fun t36 s =>
 ((app 4 48 t4 t36) s fun t37 s =>
 (optK (binV .add (some (Kd.int .i64)) true t15 (V.int .i64 1)) s fun t38 s => (K .nrm (t0 :: (t1 :: (V.junk :: (V.junk :: (t37 :: (jk 8 (t13 :: (t14 :: (t38 :: (jk 24 [])))))))))) s))))))))))))
 (optK (binV .add (some (Kd.int .i64)) true t15 (V.int .i64 1)) s fun t38 s => (K .nrm (t0 :: (t1 :: (V.junk :: (V.junk :: (t4 :: (jk 8 (t13 :: (t14 :: (t38 :: (jk 24 [])))))))))) s))))))))))))
 (K (.exit 0) (jk 4 (t4 :: (jk 35 []))) s)))
noncomputable def fn46_q (f87 : M1) (f86 : M2) (f88 : M2) (f44 : M1) (t0 t1 : V) : M := fun s K =>
 (optK (nilV t0) s fun t9 s => (optK (fp 3 t9) s fun t10 s => ((ld1 t10) s fun t11 s =>
 ((f87 t11) s fun t12 s =>
 ((f86 t12 (V.func (.func 88) [] [])) s fun t13 s =>
 (optK (lenV (some (Kd.slice 3)) t13) s fun t14 s => (loopN LOOPS (fun tm s K => fn46_L1 f87 f86 f88 f44 (tm.getD 0 .junk) (tm.getD 1 .junk) (tm.getD 4 .junk) (tm.getD 13 .junk) (tm.getD 14 .junk) (tm.getD 15 .junk) s K) (t0 :: (t1 :: (V.junk :: (V.junk :: ((V.slice none 0 0 true) :: (jk 8 (t13 :: (t14 :: ((V.int .i64 0) :: (jk 24 [])))))))))) s (fun e tm s => exX e (fun j1 => (exB (j1 == 0)
 (K (tm.getD 4 .junk) s)
 False)) (K (tm.getD 4 .junk) s)))))))))
noncomputable def fn46 : V → V → M := fn46_q fn87 fn86 fn88 fn44
theorem fn46_qe (f87 : M1) (f86 : M2) (f88 : M2) (f44 : M1) (t0 t1 : V) : fn46_q f87 f86 f88 f44 t0 t1 = evF (E46 f87 f86 f88 f44) Tryz.f46 [t0, t1] := by kernel_rfl
theorem fn46_s : SP Tryz.prog 46 (F2 fn46) := mk2 (mkEnv tab (L := L46 fn87 fn86 fn88 fn44) ⟨fn87_s, fn86_s, fn88_s, fn44_s, trivial⟩) Tryz.func46 (by kernel_rfl) (fn46_qe fn87 fn86 fn88 fn44)

/-! 14: (*sealchain/vote.Voter).Prepare -/
def L14 (f40 : M1) (f41 : M1) (f45 : M2) (f46 : M2) : List (Nat × (List V → M)) := [(40, F1 f40), (41, F1 f41), (45, F2 f45), (46, F2 f46)]
def E14 (f40 : M1) (f41 : M1) (f45 : M2) (f46 : M2) : Env := ⟨ty, tabC (L14 f40 f41 f45 f46), meth, tabL [], tabL []⟩
noncomputable def fn14_q (f40 : M1) (f41 : M1) (f45 : M2) (f46 : M2) (t0 t1 t2 : V) : M := fun s K =>
 ((f40 t0) s fun t12 s =>
 (optK (binV .neq (some (Kd.int .i64)) true t12 (V.int .i64 0)) s fun t14 s => (condV t14
 (K (V.tuple [(V.slice none 0 0 true), (V.bool false), t12]) s)
 ((f41 t1) s fun t18 s =>
 (optK (unV .not t18) s fun t19 s => (condV t19
 (condV t19
 (K (V.tuple [(V.slice none 0 0 true), (V.bool false), (V.int .i64 2)]) s)
 (optK (nilV t0) s fun t26 s => (optK (fp 1 t26) s fun t27 s => ((ld1 t27) s fun t28 s =>
 (optK (binV .lss (some (Kd.int .i64)) false t1 t28) s fun t29 s => (condV t29
 (K (V.tuple [(V.slice none 0 0 true), (V.bool false), (V.int .i64 0)]) s)
 (optK (nilV t0) s fun t33 s => (optK (fp 1 t33) s fun t34 s => ((ld1 t34) s fun t35 s =>
 (optK (binV .gtr (some (Kd.int .i64)) false t1 t35) s fun t36 s => (condV t36
 ((f45 t0 (V.iface 93 t1)) s fun t40 s =>
 (optK (binV .neq (some (Kd.int .i64)) true t40 (V.int .i64 0)) s fun t42 s => (condV t42
 (K (V.tuple [(V.slice none 0 0 true), (V.bool false), t40]) s)
 ((f46 t0 t2) s fun t46 s =>
 (K (V.tuple [t46, (V.bool true), (V.int .i64 0)]) s)))))
 ((f46 t0 t2) s fun t46 s =>
 (K (V.tuple [t46, (V.bool true), (V.int .i64 0)]) s)))))))))))))
 ((f41 t2) s fun t21 s =>
 (optK (unV .not t21) s fun t22 s => (condV t22
 (K (V.tuple [(V.slice none 0 0 true), (V.bool false), (V.int .i64 2)]) s)
 (optK (nilV t0) s fun t26 s => (optK (fp 1 t26) s fun t27 s => ((ld1 t27) s fun t28 s =>
 (optK (binV .lss (some (Kd.int .i64)) false t1 t28) s fun t29 s => (condV t29
 (K (V.tuple [(V.slice none 0 0 true), (V.bool false), (V.int .i64 0)]) s)
 (optK (nilV t0) s fun t33 s => (optK (fp 1 t33) s fun t34 s => ((ld1 t34) s fun t35 s =>
 (optK (binV .gtr (some (Kd.int .i64)) false t1 t35) s fun t36 s => (condV t36
 ((f45 t0 (V.iface 93 t1)) s fun t40 s =>
 (optK (binV .neq (some (Kd.int .i64)) true t40 (V.int .i64 0)) s fun t42 s => (condV t42
 (K (V.tuple [(V.slice none 0 0 true), (V.bool false), t40]) s)
 ((f46 t0 t2) s fun t46 s =>
 (K (V.tuple [t46, (V.bool true), (V.int .i64 0)]) s)))))
 ((f46 t0 t2) s fun t46 s =>
 (K (V.tuple [t46, (V.bool true), (V.int .i64 0)]) s)))))))))))))))))))))
noncomputable def fn14 : V → V → V → M := fn14_q fn40 fn41 fn45 fn46
theorem fn14_qe (f40 : M1) (f41 : M1) (f45 : M2) (f46 : M2) (t0 t1 t2 : V) : fn14_q f40 f41 f45 f46 t0 t1 t2 = evF (E14 f40 f41 f45 f46) Tryz.f14 [t0, t1, t2] := by kernel_rfl
theorem fn14_s : SP Tryz.prog 14 (F3 fn14) := mk3 (mkEnv tab (L := L14 fn40 fn41 fn45 fn46) ⟨fn40_s, fn41_s, fn45_s, fn46_s, trivial⟩) Tryz.func14 (by kernel_rfl) (fn14_qe fn40 fn41 fn45 fn46)

/-! 10: sealchain/sealchainref00.Bring -/
def L10 : List (Nat × (List V → M)) := []
def E10 : Env := ⟨ty, tabC (L10), meth, tabL [], tabL []⟩
noncomputable def fn10_q (t0 t1 : V) : M := fun s K =>
 (optK (binV .rem (some (Kd.int .i64)) false t0 t1) s fun t7 s => (optK (binV .lss (some (Kd.int .i64)) true t7 (V.int .i64 0)) s fun t9 s => (condV t9
 (optK (binV .add (some (Kd.int .i64)) false t7 t1) s fun t12 s => (K t12 s))
 (K t7 s))))
noncomputable def fn10 : V → V → M := fn10_q
theorem fn10_qe (t0 t1 : V) : fn10_q t0 t1 = evF (E10) Tryz.f10 [t0, t1] := by kernel_rfl
theorem fn10_s : SP Tryz.prog 10 (F2 fn10) := mk2 (mkEnv tab (L := L10) trivial) Tryz.func10 (by kernel_rfl) (fn10_qe)

/-! 13: sealchain/sealchainlaw15.conf -/
def L13 (f10 : M2) : List (Nat × (List V → M)) := [(10, F2 f10)]
def E13 (f10 : M2) : Env := ⟨ty, tabC (L13 f10), meth, tabL [], tabL []⟩
noncomputable def fn13_q (f10 : M2) (t0 t1 : V) : M := fun s K =>
 ((newC [(V.int .i64 0), (V.int .i64 0), (V.slice none 0 0 true)]) s fun t4 s =>
 ((f10 t1 (V.int .i64 4)) s fun t7 s =>
 (optK (binV .add (some (Kd.int .i64)) true (V.int .i64 10) t7) s fun t8 s => ((bsl 1 [(V.int .i64 0)] 1 [(0, t8)]) s fun t9 s =>
 (optK (aggO (fillV (placeS [(0, 3), (1, 3), (2, 35)] ty) [(V.int .i64 0), (V.int .i64 0), (V.slice none 0 0 true)] [(0, t0), (1, (V.int .i64 1)), (2, t9)])) s fun t10 s => ((st 3 t4 t10) s fun _ s =>
 (rfin (rcons (peek ti37 t4 s) (some [])) s K)))))))
noncomputable def fn13 : V → V → M := fn13_q fn10
theorem fn13_qe (f10 : M2) (t0 t1 : V) : fn13_q f10 t0 t1 = evF (E13 f10) Tryz.f13 [t0, t1] := by kernel_rfl
theorem fn13_s : SP Tryz.prog 13 (F2 fn13) := mk2 (mkEnv tab (L := L13 fn10) ⟨fn10_s, trivial⟩) Tryz.func13 (by kernel_rfl) (fn13_qe fn10)

/-! 12: (*sealchain/vote.Voter).Accept -/
def L12 (f40 : M1) (f41 : M1) (f42 : M1) (f43 : M2) (f44 : M1) (f45 : M2) : List (Nat × (List V → M)) := [(40, F1 f40), (41, F1 f41), (42, F1 f42), (43, F2 f43), (44, F1 f44), (45, F2 f45)]
def E12 (f40 : M1) (f41 : M1) (f42 : M1) (f43 : M2) (f44 : M1) (f45 : M2) : Env := ⟨ty, tabC (L12 f40 f41 f42 f43 f44 f45), meth, tabL [], tabL []⟩
noncomputable def fn12_q (f40 : M1) (f41 : M1) (f42 : M1) (f43 : M2) (f44 : M1) (f45 : M2) (t0 t1 t2 : V) : M := fun s K =>
 ((boxV t2) s fun t5 s =>
 ((f40 t0) s fun t10 s =>
 (optK (binV .neq (some (Kd.int .i64)) true t10 (V.int .i64 0)) s fun t12 s => (condV t12
 (K (V.tuple [(V.bool false), t10]) s)
 ((f41 t1) s fun t16 s =>
 (optK (unV .not t16) s fun t17 s => (condV t17
 (condV t17
 (K (V.tuple [(V.bool false), (V.int .i64 2)]) s)
 (optK (nilV t0) s fun t24 s => (optK (fp 1 t24) s fun t25 s => ((ld1 t25) s fun t26 s =>
 (optK (binV .lss (some (Kd.int .i64)) false t1 t26) s fun t27 s => (condV t27
 (condV t27
 (K (V.tuple [(V.bool false), (V.int .i64 0)]) s)
 (optK (fp 0 t5) s fun t37 s => ((ld1 t37) s fun t38 s =>
 ((f43 t0 t38) s fun t39 s =>
 (optK (unV .not t39) s fun t40 s => (condV t40
 (K (V.tuple [(V.bool false), (V.int .i64 5)]) s)
 (optK (fp 2 t5) s fun t41 s => ((ld1 t41) s fun t42 s =>
 ((f44 t42) s fun t43 s =>
 (optK (fp 2 t5) s fun t44 s => ((st 1 t44 t43) s fun _ s =>
 ((ldA 3 t5) s fun t47 s =>
 (optK (aggO (fillV (placeS [(0, 3), (1, 37)] ty) [(V.int .i64 0), (V.int .i64 0), (V.int .i64 0), (V.slice none 0 0 true)] [(0, t1), (1, t47)])) s fun t48 s => ((f45 t0 (V.iface 92 t48)) s fun t50 s =>
 (optK (binV .eql (some (Kd.int .i64)) true t50 (V.int .i64 0)) s fun t52 s => (K (V.tuple [t52, t50]) s))))))))))))))))
 (optK (fp 0 t5) s fun t28 s => ((ld1 t28) s fun t29 s1 =>
 (optK (nilV t0) s1 fun t31 s1 => (optK (fp 2 t31) s1 fun t32 s1 => ((ld1 t32) s1 fun t33 s2 =>
 (optK (binV .lss (some (Kd.int .i64)) false t29 t33) s2 fun t34 s2 => (condV t34
 (K (V.tuple [(V.bool false), (V.int .i64 0)]) s2)
 (optK (fp 0 t5) s2 fun t37 s2 => ((ld1 t37) s2 fun t38 s2 =>
 ((f43 t0 t38) s2 fun t39 s2 =>
 (optK (unV .not t39) s2 fun t40 s2 => (condV t40
 (K (V.tuple [(V.bool false), (V.int .i64 5)]) s2)
 (optK (fp 2 t5) s2 fun t41 s2 => ((ld1 t41) s2 fun t42 s2 =>
 ((f44 t42) s2 fun t43 s2 =>
 (optK (fp 2 t5) s2 fun t44 s2 => ((st 1 t44 t43) s2 fun _ s2 =>
 ((ldA 3 t5) s2 fun t47 s2 =>
 (optK (aggO (fillV (placeS [(0, 3), (1, 37)] ty) [(V.int .i64 0), (V.int .i64 0), (V.int .i64 0), (V.slice none 0 0 true)] [(0, t1), (1, t47)])) s2 fun t48 s2 => ((f45 t0 (V.iface 92 t48)) s2 fun t50 s2 =>
 (optK (binV .eql (some (Kd.int .i64)) true t50 (V.int .i64 0)) s2 fun t52 s2 => (K (V.tuple [t52, t50]) s2))))))))))))))))))))))))))))
 ((ldA 3 t5) s fun t18 s =>
 ((f42 t18) s fun t19 s =>
 (optK (binV .neq (some (Kd.int .i64)) true t19 (V.int .i64 0)) s fun t20 s => (condV t20
 (K (V.tuple [(V.bool false), (V.int .i64 2)]) s)
 (optK (nilV t0) s fun t24 s => (optK (fp 1 t24) s fun t25 s => ((ld1 t25) s fun t26 s =>
 (optK (binV .lss (some (Kd.int .i64)) false t1 t26) s fun t27 s => (condV t27
 (condV t27
 (K (V.tuple [(V.bool false), (V.int .i64 0)]) s)
 (optK (fp 0 t5) s fun t37 s => ((ld1 t37) s fun t38 s =>
 ((f43 t0 t38) s fun t39 s =>
 (optK (unV .not t39) s fun t40 s => (condV t40
 (K (V.tuple [(V.bool false), (V.int .i64 5)]) s)
 (optK (fp 2 t5) s fun t41 s => ((ld1 t41) s fun t42 s =>
 ((f44 t42) s fun t43 s =>
 (optK (fp 2 t5) s fun t44 s => ((st 1 t44 t43) s fun _ s =>
 ((ldA 3 t5) s fun t47 s =>
 (optK (aggO (fillV (placeS [(0, 3), (1, 37)] ty) [(V.int .i64 0), (V.int .i64 0), (V.int .i64 0), (V.slice none 0 0 true)] [(0, t1), (1, t47)])) s fun t48 s => ((f45 t0 (V.iface 92 t48)) s fun t50 s =>
 (optK (binV .eql (some (Kd.int .i64)) true t50 (V.int .i64 0)) s fun t52 s => (K (V.tuple [t52, t50]) s))))))))))))))))
 (optK (fp 0 t5) s fun t28 s => ((ld1 t28) s fun t29 s3 =>
 (optK (nilV t0) s3 fun t31 s3 => (optK (fp 2 t31) s3 fun t32 s3 => ((ld1 t32) s3 fun t33 s4 =>
 (optK (binV .lss (some (Kd.int .i64)) false t29 t33) s4 fun t34 s4 => (condV t34
 (K (V.tuple [(V.bool false), (V.int .i64 0)]) s4)
 (optK (fp 0 t5) s4 fun t37 s4 => ((ld1 t37) s4 fun t38 s4 =>
 ((f43 t0 t38) s4 fun t39 s4 =>
 (optK (unV .not t39) s4 fun t40 s4 => (condV t40
 (K (V.tuple [(V.bool false), (V.int .i64 5)]) s4)
 (optK (fp 2 t5) s4 fun t41 s4 => ((ld1 t41) s4 fun t42 s4 =>
 ((f44 t42) s4 fun t43 s4 =>
 (optK (fp 2 t5) s4 fun t44 s4 => ((st 1 t44 t43) s4 fun _ s4 =>
 ((ldA 3 t5) s4 fun t47 s4 =>
 (optK (aggO (fillV (placeS [(0, 3), (1, 37)] ty) [(V.int .i64 0), (V.int .i64 0), (V.int .i64 0), (V.slice none 0 0 true)] [(0, t1), (1, t47)])) s4 fun t48 s4 => ((f45 t0 (V.iface 92 t48)) s4 fun t50 s4 =>
 (optK (binV .eql (some (Kd.int .i64)) true t50 (V.int .i64 0)) s4 fun t52 s4 => (K (V.tuple [t52, t50]) s4))))))))))))))))))))))))))))))))))))))
noncomputable def fn12 : V → V → V → M := fn12_q fn40 fn41 fn42 fn43 fn44 fn45
theorem fn12_qe (f40 : M1) (f41 : M1) (f42 : M1) (f43 : M2) (f44 : M1) (f45 : M2) (t0 t1 t2 : V) : fn12_q f40 f41 f42 f43 f44 f45 t0 t1 t2 = evF (E12 f40 f41 f42 f43 f44 f45) Tryz.f12 [t0, t1, t2] := by kernel_rfl
theorem fn12_s : SP Tryz.prog 12 (F3 fn12) := mk3 (mkEnv tab (L := L12 fn40 fn41 fn42 fn43 fn44 fn45) ⟨fn40_s, fn41_s, fn42_s, fn43_s, fn44_s, fn45_s, trivial⟩) Tryz.func12 (by kernel_rfl) (fn12_qe fn40 fn41 fn42 fn43 fn44 fn45)

/-! 98: (*sealchain/disk.Disk).Swap -/
def L98 (f52 : M1) (f53 : M1) (f38 : M1) (f61 : M2) : List (Nat × (List V → M)) := [(52, F1 f52), (53, F1 f53), (38, F1 f38), (61, F2 f61)]
def E98 (f52 : M1) (f53 : M1) (f38 : M1) (f61 : M2) : Env := ⟨ty, tabC (L98 f52 f53 f38 f61), meth, tabL [], tabL []⟩
noncomputable def fn98_q (f52 : M1) (f53 : M1) (f38 : M1) (f61 : M2) (t0 t1 : V) : M := fun s K =>
 ((f52 t0) s fun t7 s =>
 (optK (binV .neq (some (Kd.int .i64)) true t7 (V.int .i64 0)) s fun t9 s => (condV t9
 (K t7 s)
 (optK (lenV (some (Kd.slice 5)) t1) s fun t12 s => (optK (binV .gtr (some (Kd.int .i64)) true t12 (V.int .i64 1048576)) s fun t13 s => (condV t13
 (K (V.int .i64 5) s)
 (optK (nilV t0) s fun t15 s => (optK (fp 3 t15) s fun t16 s => ((ld1 t16) s fun t17 s =>
 ((callV (E98 f52 f53 f38 f61) t17 [t0]) s fun t19 s =>
 (optK (unV .not t19) s fun t20 s => (condV t20
 (K (V.int .i64 130) s)
 ((f53 t1) s fun t24 s =>
 (optK (lenV (some (Kd.slice 5)) t1) s fun t26 s => (optK (nilV t0) s fun t27 s => (optK (fp 0 t27) s fun t28 s => ((st 1 t28 t24) s fun _ s =>
 (optK (nilV t0) s fun t29 s => (optK (fp 1 t29) s fun t30 s => ((st 1 t30 t26) s fun _ s =>
 (optK (nilV t0) s fun t33 s => (optK (fp 4 t33) s fun t34 s => ((ld1 t34) s fun t35 s1 =>
 ((f53 t1) s1 fun t37 s2 =>
 (chkB (holds ti52 t34 s2 t35) ((bsl 1 [(V.slice none 0 0 true)] 1 [(0, t37)]) s2 fun t38 s3 =>
 (chkB (holds ti52 t34 s3 t35) ((app 1 24 t35 t38) s3 fun t39 s4 =>
 (optK (nilV t0) s4 fun t40 s4 => (optK (fp 4 t40) s4 fun t41 s4 => ((st 1 t41 t39) s4 fun _ s5 =>
 (K (V.int .i64 0) s5))))))))))))))))))))))))))))))))
noncomputable def fn98 : V → V → M := fn98_q fn52 fn53 fn38 fn61
theorem fn98_qe (f52 : M1) (f53 : M1) (f38 : M1) (f61 : M2) (t0 t1 : V) : fn98_q f52 f53 f38 f61 t0 t1 = evF (E98 f52 f53 f38 f61) Tryz.f98 [t0, t1] := by kernel_rfl
theorem fn98_s : SP Tryz.prog 98 (F2 fn98) := mk2 (mkEnv tab (L := L98 fn52 fn53 fn38 fn61) ⟨fn52_s, fn53_s, fn38_s, fn61_s, trivial⟩) Tryz.func98 (by kernel_rfl) (fn98_qe fn52 fn53 fn38 fn61)

/-! 50: (*sealchain/wal.Log).Swap -/
def L50 (f95 : M1) (f96 : M1) (f98 : M2) (f97 : M2) (f68 : M1) : List (Nat × (List V → M)) := [(95, F1 f95), (96, F1 f96), (98, F2 f98), (97, F2 f97), (68, F1 f68)]
def E50 (f95 : M1) (f96 : M1) (f98 : M2) (f97 : M2) (f68 : M1) : Env := ⟨ty, tabC (L50 f95 f96 f98 f97 f68), meth, tabL [], tabL []⟩
noncomputable def fn50_q (f95 : M1) (f96 : M1) (f98 : M2) (f97 : M2) (f68 : M1) (t0 t1 : V) : M := fun s K =>
 ((f95 t0) s fun t10 s =>
 (optK (binV .neq (some (Kd.int .i64)) true t10 (V.int .i64 0)) s fun t12 s => (condV t12
 (K t10 s)
 ((f96 t1) s fun t16 s =>
 (optK (extractV t16 0) s fun t17 s => (optK (extractV t16 1) s fun t18 s => (optK (binV .neq (some (Kd.int .i64)) true t18 (V.int .i64 0)) s fun t20 s => (condV t20
 (K t18 s)
 (optK (nilV t0) s fun t24 s => (optK (fp 0 t24) s fun t25 s => ((ld1 t25) s fun t26 s =>
 ((f98 t26 t17) s fun t28 s =>
 ((f97 t0 t28) s fun t29 s =>
 (optK (binV .neq (some (Kd.int .i64)) true t29 (V.int .i64 0)) s fun t31 s => (condV t31
 (K t29 s)
 ((f68 t1) s fun t35 s =>
 (optK (nilV t0) s fun t36 s => (optK (fp 1 t36) s fun t37 s => ((st 1 t37 t35) s fun _ s =>
 (K (V.int .i64 0) s))))))))))))))))))))
noncomputable def fn50 : V → V → M := fn50_q fn95 fn96 fn98 fn97 fn68
theorem fn50_qe (f95 : M1) (f96 : M1) (f98 : M2) (f97 : M2) (f68 : M1) (t0 t1 : V) : fn50_q f95 f96 f98 f97 f68 t0 t1 = evF (E50 f95 f96 f98 f97 f68) Tryz.f50 [t0, t1] := by kernel_rfl
theorem fn50_s : SP Tryz.prog 50 (F2 fn50) := mk2 (mkEnv tab (L := L50 fn95 fn96 fn98 fn97 fn68) ⟨fn95_s, fn96_s, fn98_s, fn97_s, fn68_s, trivial⟩) Tryz.func50 (by kernel_rfl) (fn50_qe fn95 fn96 fn98 fn97 fn68)

/-! 17: (*sealchain/vote.Voter).Forget -/
def L17 (f40 : M1) (f41 : M1) (f47 : M1) (f48 : M1) (f46 : M2) (f49 : M1) (f50 : M2) (f36 : M2) : List (Nat × (List V → M)) := [(40, F1 f40), (41, F1 f41), (47, F1 f47), (48, F1 f48), (46, F2 f46), (49, F1 f49), (50, F2 f50), (36, F2 f36)]
def E17 (f40 : M1) (f41 : M1) (f47 : M1) (f48 : M1) (f46 : M2) (f49 : M1) (f50 : M2) (f36 : M2) : Env := ⟨ty, tabC (L17 f40 f41 f47 f48 f46 f49 f50 f36), meth, tabL [(13, [0, 1, 6, 46, 47, 48])], tabL [(13, [0, 1, 6])]⟩
noncomputable def fn17_L1 (f40 : M1) (f41 : M1) (f47 : M1) (f48 : M1) (f46 : M2) (f49 : M1) (f50 : M2) (f36 : M2) (t0 t1 t6 t46 t47 t48 : V) : AS → KX → Prop := fun s K =>
 (optK (binV .lss (some (Kd.int .i64)) false t48 t47) s fun t49 s => (condV t49
 (optK (elemPtr none 4 t46 t48) s fun t50 s => ((ldA 4 t50) s fun t51 s =>
 ((newC [(V.int .i64 0), (V.int .i64 0), (V.int .i64 0), (V.slice none 0 0 true)]) s fun t8 s =>
 ((st 4 t8 t51) s fun _ s =>
 ((ldA 4 t8) s fun t53 s =>
 ((f49 t53) s fun t54 s =>
 ((bsl 1 [(V.slice none 0 0 true)] 1 [(0, t54)]) s fun t55 s =>
 ((app 1 24 t6 t55) s fun t56 s =>
 (optK (binV .add (some (Kd.int .i64)) true t48 (V.int .i64 1)) s fun t57 s => (K .nrm (t0 :: (t1 :: (jk 4 (t56 :: (jk 39 (t46 :: (t47 :: (t57 :: (jk 22 []))))))))) s))))))))))
 (K (.exit 1) (t0 :: (t1 :: (jk 4 (t6 :: (jk 64 []))))) s)))
noncomputable def fn17_q (f40 : M1) (f41 : M1) (f47 : M1) (f48 : M1) (f46 : M2) (f49 : M1) (f50 : M2) (f36 : M2) (t0 t1 : V) : M := fun s K =>
 ((f40 t0) s fun t11 s =>
 (optK (binV .neq (some (Kd.int .i64)) true t11 (V.int .i64 0)) s fun t13 s => (condV t13
 (K t11 s)
 ((f41 t1) s fun t17 s =>
 (optK (unV .not t17) s fun t18 s => (condV t18
 (K (V.int .i64 2) s)
 (optK (nilV t0) s fun t22 s => (optK (fp 2 t22) s fun t23 s => ((ld1 t23) s fun t24 s =>
 (optK (binV .leq (some (Kd.int .i64)) false t1 t24) s fun t25 s => (condV t25
 (K (V.int .i64 0) s)
 (optK (nilV t0) s fun t27 s => (optK (fp 1 t27) s fun t28 s => ((ld1 t28) s fun t29 s =>
 (optK (binV .gtr (some (Kd.int .i64)) true t29 (V.int .i64 0)) s fun t30 s => (condV t30
 (optK (nilV t0) s fun t33 s => (optK (fp 1 t33) s fun t34 s => ((ld1 t34) s fun t35 s =>
 ((f47 t35) s fun t36 s =>
 ((bsl 1 [(V.slice none 0 0 true)] 1 [(0, t36)]) s fun t37 s =>
 ((app 1 24 (V.slice none 0 0 true) t37) s fun t38 s =>
 ((f48 t1) s fun t41 s =>
 ((bsl 1 [(V.slice none 0 0 true)] 1 [(0, t41)]) s fun t42 s =>
 ((app 1 24 t38 t42) s fun t43 s =>
 ((f46 t0 t1) s fun t46 s =>
 (optK (lenV (some (Kd.slice 43)) t46) s fun t47 s => (loopN LOOPS (fun tm s K => fn17_L1 f40 f41 f47 f48 f46 f49 f50 f36 (tm.getD 0 .junk) (tm.getD 1 .junk) (tm.getD 6 .junk) (tm.getD 46 .junk) (tm.getD 47 .junk) (tm.getD 48 .junk) s K) (t0 :: (t1 :: (jk 4 (t43 :: (jk 39 (t46 :: (t47 :: ((V.int .i64 0) :: (jk 22 []))))))))) s (fun e tm s => exX e (fun j1 => (exB (j1 == 1)
 (optK (nilV (tm.getD 0 .junk)) s fun t59 s => (optK (fp 0 t59) s fun t60 s => ((ld1 t60) s fun t61 s =>
 ((f50 t61 (tm.getD 6 .junk)) s fun t63 s =>
 (optK (binV .neq (some (Kd.int .i64)) true t63 (V.int .i64 0)) s fun t65 s => (condV t65
 (K t63 s)
 ((f36 (tm.getD 0 .junk) (V.iface 96 (tm.getD 1 .junk))) s fun t70 s =>
 (K (V.int .i64 0) s))))))))
 False)) (K V.junk s))))))))))))))
 ((f48 t1) s fun t41 s =>
 ((bsl 1 [(V.slice none 0 0 true)] 1 [(0, t41)]) s fun t42 s =>
 ((app 1 24 (V.slice none 0 0 true) t42) s fun t43 s =>
 ((f46 t0 t1) s fun t46 s =>
 (optK (lenV (some (Kd.slice 43)) t46) s fun t47 s => (loopN LOOPS (fun tm s K => fn17_L1 f40 f41 f47 f48 f46 f49 f50 f36 (tm.getD 0 .junk) (tm.getD 1 .junk) (tm.getD 6 .junk) (tm.getD 46 .junk) (tm.getD 47 .junk) (tm.getD 48 .junk) s K) (t0 :: (t1 :: (jk 4 (t43 :: (jk 39 (t46 :: (t47 :: ((V.int .i64 0) :: (jk 22 []))))))))) s (fun e tm s => exX e (fun j1 => (exB (j1 == 1)
 (optK (nilV (tm.getD 0 .junk)) s fun t59 s => (optK (fp 0 t59) s fun t60 s => ((ld1 t60) s fun t61 s =>
 ((f50 t61 (tm.getD 6 .junk)) s fun t63 s =>
 (optK (binV .neq (some (Kd.int .i64)) true t63 (V.int .i64 0)) s fun t65 s => (condV t65
 (K t63 s)
 ((f36 (tm.getD 0 .junk) (V.iface 96 (tm.getD 1 .junk))) s fun t70 s =>
 (K (V.int .i64 0) s))))))))
 False)) (K V.junk s))))))))))))))))))))))))
noncomputable def fn17 : V → V → M := fn17_q fn40 fn41 fn47 fn48 fn46 fn49 fn50 fn36
theorem fn17_qe (f40 : M1) (f41 : M1) (f47 : M1) (f48 : M1) (f46 : M2) (f49 : M1) (f50 : M2) (f36 : M2) (t0 t1 : V) : fn17_q f40 f41 f47 f48 f46 f49 f50 f36 t0 t1 = evF (E17 f40 f41 f47 f48 f46 f49 f50 f36) Tryz.f17 [t0, t1] := by kernel_rfl
theorem fn17_s : SP Tryz.prog 17 (F2 fn17) := mk2 (mkEnv tab (L := L17 fn40 fn41 fn47 fn48 fn46 fn49 fn50 fn36) ⟨fn40_s, fn41_s, fn47_s, fn48_s, fn46_s, fn49_s, fn50_s, fn36_s, trivial⟩) Tryz.func17 (by kernel_rfl) (fn17_qe fn40 fn41 fn47 fn48 fn46 fn49 fn50 fn36)

/-! 18: (*sealchain/vote.Voter).Floor -/
def L18 (f39 : M1) : List (Nat × (List V → M)) := [(39, F1 f39)]
def E18 (f39 : M1) : Env := ⟨ty, tabC (L18 f39), meth, tabL [], tabL []⟩
noncomputable def fn18_q (f39 : M1) (t0 : V) : M := fun s K =>
 ((f39 t0) s fun t4 s =>
 (condV t4
 (K (V.int .i64 0) s)
 (optK (nilV t0) s fun t6 s => (optK (fp 2 t6) s fun t7 s => ((ld1 t7) s fun t8 s =>
 (K t8 s))))))
noncomputable def fn18 : V → M := fn18_q fn39
theorem fn18_qe (f39 : M1) (t0 : V) : fn18_q f39 t0 = evF (E18 f39) Tryz.f18 [t0] := by kernel_rfl
theorem fn18_s : SP Tryz.prog 18 (F1 fn18) := mk1 (mkEnv tab (L := L18 fn39) ⟨fn39_s, trivial⟩) Tryz.func18 (by kernel_rfl) (fn18_qe fn39)

/-! 16: (*sealchain/vote.Voter).Votes -/
def L16 (f39 : M1) (f46 : M2) : List (Nat × (List V → M)) := [(39, F1 f39), (46, F2 f46)]
def E16 (f39 : M1) (f46 : M2) : Env := ⟨ty, tabC (L16 f39 f46), meth, tabL [], tabL []⟩
noncomputable def fn16_q (f39 : M1) (f46 : M2) (t0 : V) : M := fun s K =>
 ((f39 t0) s fun t4 s =>
 (condV t4
 (K (V.slice none 0 0 true) s)
 (optK (nilV t0) s fun t7 s => (optK (fp 2 t7) s fun t8 s => ((ld1 t8) s fun t9 s =>
 ((f46 t0 t9) s fun t10 s =>
 (K t10 s)))))))
noncomputable def fn16 : V → M := fn16_q fn39 fn46
theorem fn16_qe (f39 : M1) (f46 : M2) (t0 : V) : fn16_q f39 f46 t0 = evF (E16 f39 f46) Tryz.f16 [t0] := by kernel_rfl
theorem fn16_s : SP Tryz.prog 16 (F1 fn16) := mk1 (mkEnv tab (L := L16 fn39 fn46) ⟨fn39_s, fn46_s, trivial⟩) Tryz.func16 (by kernel_rfl) (fn16_qe fn39 fn46)

/-! 15: sealchain/sealchainlaw15.works -/
def L15 (f9 : M) (f8 : M1) (f14 : M3) (f13 : M2) (f12 : M3) (f17 : M2) (f18 : M1) (f16 : M1) : List (Nat × (List V → M)) := [(9, F0 f9), (8, F1 f8), (14, F3 f14), (13, F2 f13), (12, F3 f12), (17, F2 f17), (18, F1 f18), (16, F1 f16)]
def E15 (f9 : M) (f8 : M1) (f14 : M3) (f13 : M2) (f12 : M3) (f17 : M2) (f18 : M1) (f16 : M1) : Env := ⟨ty, tabC (L15 f9 f8 f14 f13 f12 f17 f18 f16), meth, tabL [], tabL []⟩
noncomputable def fn15_q (f9 : M) (f8 : M1) (f14 : M3) (f13 : M2) (f12 : M3) (f17 : M2) (f18 : M1) (f16 : M1) : M := fun s K =>
 ((f9) s fun t24 s =>
 ((f8 t24) s fun t25 s =>
 (optK (extractV t25 0) s fun t26 s => (optK (extractV t25 1) s fun t27 s => (optK (binV .neq (some (Kd.int .i64)) true t27 (V.int .i64 0)) s fun t29 s => (grd t29
 (K (V.bool false) s)
 (optK (binV .eql (some (Kd.ptr 69)) true t26 (V.ptr none)) s fun t32 s => (condV t32
 (K (V.bool false) s)
 ((f14 t26 (V.int .i64 4) (V.int .i64 1)) s fun t36 s =>
 (optK (extractV t36 0) s fun t37 s => (optK (extractV t36 1) s fun t38 s => (optK (extractV t36 2) s fun t39 s => ((f14 t26 (V.int .i64 3) (V.int .i64 1)) s fun t42 s =>
 (optK (extractV t42 0) s fun t43 s => (optK (extractV t42 1) s fun t44 s => (optK (extractV t42 2) s fun t45 s => ((f13 (V.int .i64 1) (V.int .i64 0)) s fun t48 s =>
 ((f12 t26 (V.int .i64 3) t48) s fun t49 s =>
 (optK (extractV t49 0) s fun t50 s => (optK (extractV t49 1) s fun t51 s => ((f13 (V.int .i64 1) (V.int .i64 0)) s fun t54 s =>
 ((f12 t26 (V.int .i64 4) t54) s fun t55 s =>
 (optK (extractV t55 0) s fun t56 s => (optK (extractV t55 1) s fun t57 s => ((f14 t26 (V.int .i64 8) (V.int .i64 1)) s fun t60 s =>
 (optK (extractV t60 0) s fun t61 s => (optK (extractV t60 1) s fun t62 s => (optK (extractV t60 2) s fun t63 s => ((f14 t26 (V.int .i64 8) (V.int .i64 2)) s fun t66 s =>
 (optK (extractV t66 0) s fun t67 s => (optK (extractV t66 1) s fun t68 s => (optK (extractV t66 2) s fun t69 s => (optK (lenV (some (Kd.slice 43)) t37) s fun t71 s => (optK (binV .eql (some (Kd.int .i64)) true t71 (V.int .i64 0)) s fun t72 s => (grd t72
 (grd t38
 (optK (unV .not t44) s fun t78 s => (grd t78
 (optK (unV .not t50) s fun t82 s => (grd t82
 (grd t56
 (optK (lenV (some (Kd.slice 43)) t61) s fun t89 s => (optK (binV .eql (some (Kd.int .i64)) true t89 (V.int .i64 1)) s fun t90 s => (grd t90
 (optK (elemPtr none 4 t61 (V.int .i64 0)) s fun t94 s => (optK (fp 0 t94) s fun t95 s => ((ld1 t95) s fun t96 s =>
 (optK (binV .eql (some (Kd.int .i64)) true t96 (V.int .i64 4)) s fun t97 s => (grd t97
 (grd t62
 (optK (lenV (some (Kd.slice 43)) t67) s fun t104 s => (optK (binV .eql (some (Kd.int .i64)) true t104 (V.int .i64 0)) s fun t105 s => (grd t105
 ((f17 t26 (V.int .i64 2)) s fun t111 s =>
 (optK (binV .eql (some (Kd.int .i64)) true t111 (V.int .i64 0)) s fun t112 s => (grd t112
 ((f18 t26) s fun t115 s =>
 (optK (binV .eql (some (Kd.int .i64)) true t115 (V.int .i64 2)) s fun t116 s => (grd t116
 ((f16 t26) s fun t120 s =>
 (optK (lenV (some (Kd.slice 43)) t120) s fun t121 s => (optK (binV .eql (some (Kd.int .i64)) true t121 (V.int .i64 0)) s fun t122 s => ((f13 (V.int .i64 1) (V.int .i64 0)) s fun t126 s =>
 ((f12 t26 (V.int .i64 9) t126) s fun t127 s =>
 (optK (extractV t127 0) s fun t128 s => (optK (extractV t127 1) s fun t129 s => (grd t68
 (grd t122
 (optK (unV .not t128) s fun t136 s => (K t136 s))
 (K (V.bool false) s)
 False)
 (K (V.bool false) s)
 False))))))))
 ((f13 (V.int .i64 1) (V.int .i64 0)) s fun t126 s =>
 ((f12 t26 (V.int .i64 9) t126) s fun t127 s =>
 (optK (extractV t127 0) s fun t128 s => (optK (extractV t127 1) s fun t129 s => (grd t68
 (K (V.bool false) s)
 (K (V.bool false) s)
 False)))))
 False)))
 ((f13 (V.int .i64 1) (V.int .i64 0)) s fun t126 s =>
 ((f12 t26 (V.int .i64 9) t126) s fun t127 s =>
 (optK (extractV t127 0) s fun t128 s => (optK (extractV t127 1) s fun t129 s => (grd t68
 (K (V.bool false) s)
 (K (V.bool false) s)
 False)))))
 False)))
 ((f17 t26 (V.int .i64 2)) s fun t111 s =>
 (optK (binV .eql (some (Kd.int .i64)) true t111 (V.int .i64 0)) s fun t112 s => (grd t112
 ((f18 t26) s fun t115 s =>
 (optK (binV .eql (some (Kd.int .i64)) true t115 (V.int .i64 2)) s fun t116 s => (grd t116
 ((f16 t26) s fun t120 s =>
 (optK (lenV (some (Kd.slice 43)) t120) s fun t121 s => (optK (binV .eql (some (Kd.int .i64)) true t121 (V.int .i64 0)) s fun t122 s => ((f13 (V.int .i64 1) (V.int .i64 0)) s fun t126 s =>
 ((f12 t26 (V.int .i64 9) t126) s fun t127 s =>
 (optK (extractV t127 0) s fun t128 s => (optK (extractV t127 1) s fun t129 s => (K (V.bool false) s))))))))
 ((f13 (V.int .i64 1) (V.int .i64 0)) s fun t126 s =>
 ((f12 t26 (V.int .i64 9) t126) s fun t127 s =>
 (optK (extractV t127 0) s fun t128 s => (optK (extractV t127 1) s fun t129 s => (K (V.bool false) s)))))
 False)))
 ((f13 (V.int .i64 1) (V.int .i64 0)) s fun t126 s =>
 ((f12 t26 (V.int .i64 9) t126) s fun t127 s =>
 (optK (extractV t127 0) s fun t128 s => (optK (extractV t127 1) s fun t129 s => (K (V.bool false) s)))))
 False)))
 False)))
 ((f17 t26 (V.int .i64 2)) s fun t111 s =>
 (optK (binV .eql (some (Kd.int .i64)) true t111 (V.int .i64 0)) s fun t112 s => (grd t112
 ((f18 t26) s fun t115 s =>
 (optK (binV .eql (some (Kd.int .i64)) true t115 (V.int .i64 2)) s fun t116 s => (grd t116
 ((f16 t26) s fun t120 s =>
 (optK (lenV (some (Kd.slice 43)) t120) s fun t121 s => (optK (binV .eql (some (Kd.int .i64)) true t121 (V.int .i64 0)) s fun t122 s => ((f13 (V.int .i64 1) (V.int .i64 0)) s fun t126 s =>
 ((f12 t26 (V.int .i64 9) t126) s fun t127 s =>
 (optK (extractV t127 0) s fun t128 s => (optK (extractV t127 1) s fun t129 s => (K (V.bool false) s))))))))
 ((f13 (V.int .i64 1) (V.int .i64 0)) s fun t126 s =>
 ((f12 t26 (V.int .i64 9) t126) s fun t127 s =>
 (optK (extractV t127 0) s fun t128 s => (optK (extractV t127 1) s fun t129 s => (K (V.bool false) s)))))
 False)))
 ((f13 (V.int .i64 1) (V.int .i64 0)) s fun t126 s =>
 ((f12 t26 (V.int .i64 9) t126) s fun t127 s =>
 (optK (extractV t127 0) s fun t128 s => (optK (extractV t127 1) s fun t129 s => (K (V.bool false) s)))))
 False)))
 False)
 ((f17 t26 (V.int .i64 2)) s fun t111 s =>
 (optK (binV .eql (some (Kd.int .i64)) true t111 (V.int .i64 0)) s fun t112 s => (grd t112
 ((f18 t26) s fun t115 s =>
 (optK (binV .eql (some (Kd.int .i64)) true t115 (V.int .i64 2)) s fun t116 s => (grd t116
 ((f16 t26) s fun t120 s =>
 (optK (lenV (some (Kd.slice 43)) t120) s fun t121 s => (optK (binV .eql (some (Kd.int .i64)) true t121 (V.int .i64 0)) s fun t122 s => ((f13 (V.int .i64 1) (V.int .i64 0)) s fun t126 s =>
 ((f12 t26 (V.int .i64 9) t126) s fun t127 s =>
 (optK (extractV t127 0) s fun t128 s => (optK (extractV t127 1) s fun t129 s => (K (V.bool false) s))))))))
 ((f13 (V.int .i64 1) (V.int .i64 0)) s fun t126 s =>
 ((f12 t26 (V.int .i64 9) t126) s fun t127 s =>
 (optK (extractV t127 0) s fun t128 s => (optK (extractV t127 1) s fun t129 s => (K (V.bool false) s)))))
 False)))
 ((f13 (V.int .i64 1) (V.int .i64 0)) s fun t126 s =>
 ((f12 t26 (V.int .i64 9) t126) s fun t127 s =>
 (optK (extractV t127 0) s fun t128 s => (optK (extractV t127 1) s fun t129 s => (K (V.bool false) s)))))
 False)))
 False)))))
 ((f17 t26 (V.int .i64 2)) s fun t111 s =>
 (optK (binV .eql (some (Kd.int .i64)) true t111 (V.int .i64 0)) s fun t112 s => (grd t112
 ((f18 t26) s fun t115 s =>
 (optK (binV .eql (some (Kd.int .i64)) true t115 (V.int .i64 2)) s fun t116 s => (grd t116
 ((f16 t26) s fun t120 s =>
 (optK (lenV (some (Kd.slice 43)) t120) s fun t121 s => (optK (binV .eql (some (Kd.int .i64)) true t121 (V.int .i64 0)) s fun t122 s => ((f13 (V.int .i64 1) (V.int .i64 0)) s fun t126 s =>
 ((f12 t26 (V.int .i64 9) t126) s fun t127 s =>
 (optK (extractV t127 0) s fun t128 s => (optK (extractV t127 1) s fun t129 s => (K (V.bool false) s))))))))
 ((f13 (V.int .i64 1) (V.int .i64 0)) s fun t126 s =>
 ((f12 t26 (V.int .i64 9) t126) s fun t127 s =>
 (optK (extractV t127 0) s fun t128 s => (optK (extractV t127 1) s fun t129 s => (K (V.bool false) s)))))
 False)))
 ((f13 (V.int .i64 1) (V.int .i64 0)) s fun t126 s =>
 ((f12 t26 (V.int .i64 9) t126) s fun t127 s =>
 (optK (extractV t127 0) s fun t128 s => (optK (extractV t127 1) s fun t129 s => (K (V.bool false) s)))))
 False)))
 False)))
 ((f17 t26 (V.int .i64 2)) s fun t111 s =>
 (optK (binV .eql (some (Kd.int .i64)) true t111 (V.int .i64 0)) s fun t112 s => (grd t112
 ((f18 t26) s fun t115 s =>
 (optK (binV .eql (some (Kd.int .i64)) true t115 (V.int .i64 2)) s fun t116 s => (grd t116
 ((f16 t26) s fun t120 s =>
 (optK (lenV (some (Kd.slice 43)) t120) s fun t121 s => (optK (binV .eql (some (Kd.int .i64)) true t121 (V.int .i64 0)) s fun t122 s => ((f13 (V.int .i64 1) (V.int .i64 0)) s fun t126 s =>
 ((f12 t26 (V.int .i64 9) t126) s fun t127 s =>
 (optK (extractV t127 0) s fun t128 s => (optK (extractV t127 1) s fun t129 s => (K (V.bool false) s))))))))
 ((f13 (V.int .i64 1) (V.int .i64 0)) s fun t126 s =>
 ((f12 t26 (V.int .i64 9) t126) s fun t127 s =>
 (optK (extractV t127 0) s fun t128 s => (optK (extractV t127 1) s fun t129 s => (K (V.bool false) s)))))
 False)))
 ((f13 (V.int .i64 1) (V.int .i64 0)) s fun t126 s =>
 ((f12 t26 (V.int .i64 9) t126) s fun t127 s =>
 (optK (extractV t127 0) s fun t128 s => (optK (extractV t127 1) s fun t129 s => (K (V.bool false) s)))))
 False)))
 False)
 ((f17 t26 (V.int .i64 2)) s fun t111 s =>
 (optK (binV .eql (some (Kd.int .i64)) true t111 (V.int .i64 0)) s fun t112 s => (grd t112
 ((f18 t26) s fun t115 s =>
 (optK (binV .eql (some (Kd.int .i64)) true t115 (V.int .i64 2)) s fun t116 s => (grd t116
 ((f16 t26) s fun t120 s =>
 (optK (lenV (some (Kd.slice 43)) t120) s fun t121 s => (optK (binV .eql (some (Kd.int .i64)) true t121 (V.int .i64 0)) s fun t122 s => ((f13 (V.int .i64 1) (V.int .i64 0)) s fun t126 s =>
 ((f12 t26 (V.int .i64 9) t126) s fun t127 s =>
 (optK (extractV t127 0) s fun t128 s => (optK (extractV t127 1) s fun t129 s => (K (V.bool false) s))))))))
 ((f13 (V.int .i64 1) (V.int .i64 0)) s fun t126 s =>
 ((f12 t26 (V.int .i64 9) t126) s fun t127 s =>
 (optK (extractV t127 0) s fun t128 s => (optK (extractV t127 1) s fun t129 s => (K (V.bool false) s)))))
 False)))
 ((f13 (V.int .i64 1) (V.int .i64 0)) s fun t126 s =>
 ((f12 t26 (V.int .i64 9) t126) s fun t127 s =>
 (optK (extractV t127 0) s fun t128 s => (optK (extractV t127 1) s fun t129 s => (K (V.bool false) s)))))
 False)))
 False))
 ((f17 t26 (V.int .i64 2)) s fun t111 s =>
 (optK (binV .eql (some (Kd.int .i64)) true t111 (V.int .i64 0)) s fun t112 s => (grd t112
 ((f18 t26) s fun t115 s =>
 (optK (binV .eql (some (Kd.int .i64)) true t115 (V.int .i64 2)) s fun t116 s => (grd t116
 ((f16 t26) s fun t120 s =>
 (optK (lenV (some (Kd.slice 43)) t120) s fun t121 s => (optK (binV .eql (some (Kd.int .i64)) true t121 (V.int .i64 0)) s fun t122 s => ((f13 (V.int .i64 1) (V.int .i64 0)) s fun t126 s =>
 ((f12 t26 (V.int .i64 9) t126) s fun t127 s =>
 (optK (extractV t127 0) s fun t128 s => (optK (extractV t127 1) s fun t129 s => (K (V.bool false) s))))))))
 ((f13 (V.int .i64 1) (V.int .i64 0)) s fun t126 s =>
 ((f12 t26 (V.int .i64 9) t126) s fun t127 s =>
 (optK (extractV t127 0) s fun t128 s => (optK (extractV t127 1) s fun t129 s => (K (V.bool false) s)))))
 False)))
 ((f13 (V.int .i64 1) (V.int .i64 0)) s fun t126 s =>
 ((f12 t26 (V.int .i64 9) t126) s fun t127 s =>
 (optK (extractV t127 0) s fun t128 s => (optK (extractV t127 1) s fun t129 s => (K (V.bool false) s)))))
 False)))
 False))
 ((f17 t26 (V.int .i64 2)) s fun t111 s =>
 (optK (binV .eql (some (Kd.int .i64)) true t111 (V.int .i64 0)) s fun t112 s => (grd t112
 ((f18 t26) s fun t115 s =>
 (optK (binV .eql (some (Kd.int .i64)) true t115 (V.int .i64 2)) s fun t116 s => (grd t116
 ((f16 t26) s fun t120 s =>
 (optK (lenV (some (Kd.slice 43)) t120) s fun t121 s => (optK (binV .eql (some (Kd.int .i64)) true t121 (V.int .i64 0)) s fun t122 s => ((f13 (V.int .i64 1) (V.int .i64 0)) s fun t126 s =>
 ((f12 t26 (V.int .i64 9) t126) s fun t127 s =>
 (optK (extractV t127 0) s fun t128 s => (optK (extractV t127 1) s fun t129 s => (K (V.bool false) s))))))))
 ((f13 (V.int .i64 1) (V.int .i64 0)) s fun t126 s =>
 ((f12 t26 (V.int .i64 9) t126) s fun t127 s =>
 (optK (extractV t127 0) s fun t128 s => (optK (extractV t127 1) s fun t129 s => (K (V.bool false) s)))))
 False)))
 ((f13 (V.int .i64 1) (V.int .i64 0)) s fun t126 s =>
 ((f12 t26 (V.int .i64 9) t126) s fun t127 s =>
 (optK (extractV t127 0) s fun t128 s => (optK (extractV t127 1) s fun t129 s => (K (V.bool false) s)))))
 False)))
 False)
 ((f17 t26 (V.int .i64 2)) s fun t111 s =>
 (optK (binV .eql (some (Kd.int .i64)) true t111 (V.int .i64 0)) s fun t112 s => (grd t112
 ((f18 t26) s fun t115 s =>
 (optK (binV .eql (some (Kd.int .i64)) true t115 (V.int .i64 2)) s fun t116 s => (grd t116
 ((f16 t26) s fun t120 s =>
 (optK (lenV (some (Kd.slice 43)) t120) s fun t121 s => (optK (binV .eql (some (Kd.int .i64)) true t121 (V.int .i64 0)) s fun t122 s => ((f13 (V.int .i64 1) (V.int .i64 0)) s fun t126 s =>
 ((f12 t26 (V.int .i64 9) t126) s fun t127 s =>
 (optK (extractV t127 0) s fun t128 s => (optK (extractV t127 1) s fun t129 s => (K (V.bool false) s))))))))
 ((f13 (V.int .i64 1) (V.int .i64 0)) s fun t126 s =>
 ((f12 t26 (V.int .i64 9) t126) s fun t127 s =>
 (optK (extractV t127 0) s fun t128 s => (optK (extractV t127 1) s fun t129 s => (K (V.bool false) s)))))
 False)))
 ((f13 (V.int .i64 1) (V.int .i64 0)) s fun t126 s =>
 ((f12 t26 (V.int .i64 9) t126) s fun t127 s =>
 (optK (extractV t127 0) s fun t128 s => (optK (extractV t127 1) s fun t129 s => (K (V.bool false) s)))))
 False)))
 False)))))))))))))))))))))))))))))
 False))))))
noncomputable def fn15 : M := fn15_q fn9 fn8 fn14 fn13 fn12 fn17 fn18 fn16
theorem fn15_qe (f9 : M) (f8 : M1) (f14 : M3) (f13 : M2) (f12 : M3) (f17 : M2) (f18 : M1) (f16 : M1) : fn15_q f9 f8 f14 f13 f12 f17 f18 f16 = evF (E15 f9 f8 f14 f13 f12 f17 f18 f16) Tryz.f15 [] := by kernel_rfl
theorem fn15_s : SP Tryz.prog 15 (F0 fn15) := mk0 (mkEnv tab (L := L15 fn9 fn8 fn14 fn13 fn12 fn17 fn18 fn16) ⟨fn9_s, fn8_s, fn14_s, fn13_s, fn12_s, fn17_s, fn18_s, fn16_s, trivial⟩) Tryz.func15 (by kernel_rfl) (fn15_qe fn9 fn8 fn14 fn13 fn12 fn17 fn18 fn16)

/-! 20: sealchain/sealchainref13.New -/
def L20 : List (Nat × (List V → M)) := []
def E20 : Env := ⟨ty, tabC (L20), meth, tabL [], tabL []⟩
noncomputable def fn20_q : M := fun s K =>
 (optK (aggO (fillV (placeS [(0, 59), (1, 3), (2, 4), (3, 3), (4, 52)] ty) [(V.slice none 0 0 true), (V.int .i64 0), (V.bool false), (V.int .i64 0), (V.slice none 0 0 true)] [(3, (V.int .i64 (-1)))])) s fun t1 s => ((boxV t1) s fun t2 s =>
 (K t2 s)))
noncomputable def fn20 : M := fn20_q
theorem fn20_qe : fn20_q = evF (E20) Tryz.f20 [] := by kernel_rfl
theorem fn20_s : SP Tryz.prog 20 (F0 fn20) := mk0 (mkEnv tab (L := L20) trivial) Tryz.func20 (by kernel_rfl) (fn20_qe)
end Go.Proofs.Vt
