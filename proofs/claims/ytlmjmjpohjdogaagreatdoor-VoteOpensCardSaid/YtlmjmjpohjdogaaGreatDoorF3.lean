/- A part of the proofs of the Vote laws: functions of the program in the evaluator's form, printed by a program of the prover's, each equation checked by the kernel. -/
import Derived.Test.YtlmjmjpohjdogaaGreatDoorF2
set_option linter.unusedVariables false
set_option linter.unusedSimpArgs false
/- PRINTED by gen.py. -/
set_option maxRecDepth 100000
namespace Go.Proofs.Vt
open Go Go.Rx Go.Proofs
/-! 54: sealchain/sealchainref00.CopyBytes -/
def L54 : List (Nat × (List V → M)) := []
def E54 : Env := ⟨ty, tabC (L54), meth, tabL [], tabL []⟩
noncomputable def fn54_q (t0 : V) : M := fun s K =>
 ((app 1 1 (V.slice none 0 0 true) t0) s fun t6 s =>
 (K t6 s))
noncomputable def fn54 : V → M := fn54_q
theorem fn54_qe (t0 : V) : fn54_q t0 = evF (E54) Tryz.f54 [t0] := by kernel_rfl
theorem fn54_s : SP Tryz.prog 54 (F1 fn54) := mk1 (mkEnv tab (L := L54) trivial) Tryz.func54 (by kernel_rfl) (fn54_qe)

/-! 99: sealchain/sealchainref02.first -/
def L99 : List (Nat × (List V → M)) := []
def E99 : Env := ⟨ty, tabC (L99), meth, tabL [], tabL []⟩
noncomputable def fn99_q : M := fun s K =>
 ((newC [(V.int .u32 0), (V.int .u32 0), (V.int .u32 0), (V.int .u32 0), (V.int .u32 0), (V.int .u32 0), (V.int .u32 0), (V.int .u32 0)]) s fun t0 s =>
 (optK (aggO (fillV (fun j => some (j * 1, 1)) [(V.int .u32 0), (V.int .u32 0), (V.int .u32 0), (V.int .u32 0), (V.int .u32 0), (V.int .u32 0), (V.int .u32 0), (V.int .u32 0)] [(0, (V.int .u32 1779033703)), (1, (V.int .u32 3144134277)), (2, (V.int .u32 1013904242)), (3, (V.int .u32 2773480762)), (4, (V.int .u32 1359893119)), (5, (V.int .u32 2600822924)), (6, (V.int .u32 528734635)), (7, (V.int .u32 1541459225))])) s fun t1 s => ((st 8 t0 t1) s fun _ s =>
 (rfin (rcons (peek ti146 t0 s) (some [])) s K))))
noncomputable def fn99 : M := fn99_q
theorem fn99_qe : fn99_q = evF (E99) Tryz.f99 [] := by kernel_rfl
theorem fn99_s : SP Tryz.prog 99 (F0 fn99) := mk0 (mkEnv tab (L := L99) trivial) Tryz.func99 (by kernel_rfl) (fn99_qe)

/-! 126: sealchain/sealchainref02.constants -/
def L126 : List (Nat × (List V → M)) := []
def E126 : Env := ⟨ty, tabC (L126), meth, tabL [], tabL []⟩
noncomputable def fn126_q : M := fun s K =>
 ((newC [(V.int .u32 0), (V.int .u32 0), (V.int .u32 0), (V.int .u32 0), (V.int .u32 0), (V.int .u32 0), (V.int .u32 0), (V.int .u32 0), (V.int .u32 0), (V.int .u32 0), (V.int .u32 0), (V.int .u32 0), (V.int .u32 0), (V.int .u32 0), (V.int .u32 0), (V.int .u32 0), (V.int .u32 0), (V.int .u32 0), (V.int .u32 0), (V.int .u32 0), (V.int .u32 0), (V.int .u32 0), (V.int .u32 0), (V.int .u32 0), (V.int .u32 0), (V.int .u32 0), (V.int .u32 0), (V.int .u32 0), (V.int .u32 0), (V.int .u32 0), (V.int .u32 0), (V.int .u32 0), (V.int .u32 0), (V.int .u32 0), (V.int .u32 0), (V.int .u32 0), (V.int .u32 0), (V.int .u32 0), (V.int .u32 0), (V.int .u32 0), (V.int .u32 0), (V.int .u32 0), (V.int .u32 0), (V.int .u32 0), (V.int .u32 0), (V.int .u32 0), (V.int .u32 0), (V.int .u32 0), (V.int .u32 0), (V.int .u32 0), (V.int .u32 0), (V.int .u32 0), (V.int .u32 0), (V.int .u32 0), (V.int .u32 0), (V.int .u32 0), (V.int .u32 0), (V.int .u32 0), (V.int .u32 0), (V.int .u32 0), (V.int .u32 0), (V.int .u32 0), (V.int .u32 0), (V.int .u32 0)]) s fun t0 s =>
 (optK (aggO (fillV (fun j => some (j * 1, 1)) [(V.int .u32 0), (V.int .u32 0), (V.int .u32 0), (V.int .u32 0), (V.int .u32 0), (V.int .u32 0), (V.int .u32 0), (V.int .u32 0), (V.int .u32 0), (V.int .u32 0), (V.int .u32 0), (V.int .u32 0), (V.int .u32 0), (V.int .u32 0), (V.int .u32 0), (V.int .u32 0), (V.int .u32 0), (V.int .u32 0), (V.int .u32 0), (V.int .u32 0), (V.int .u32 0), (V.int .u32 0), (V.int .u32 0), (V.int .u32 0), (V.int .u32 0), (V.int .u32 0), (V.int .u32 0), (V.int .u32 0), (V.int .u32 0), (V.int .u32 0), (V.int .u32 0), (V.int .u32 0), (V.int .u32 0), (V.int .u32 0), (V.int .u32 0), (V.int .u32 0), (V.int .u32 0), (V.int .u32 0), (V.int .u32 0), (V.int .u32 0), (V.int .u32 0), (V.int .u32 0), (V.int .u32 0), (V.int .u32 0), (V.int .u32 0), (V.int .u32 0), (V.int .u32 0), (V.int .u32 0), (V.int .u32 0), (V.int .u32 0), (V.int .u32 0), (V.int .u32 0), (V.int .u32 0), (V.int .u32 0), (V.int .u32 0), (V.int .u32 0), (V.int .u32 0), (V.int .u32 0), (V.int .u32 0), (V.int .u32 0), (V.int .u32 0), (V.int .u32 0), (V.int .u32 0), (V.int .u32 0)] [(0, (V.int .u32 1116352408)), (1, (V.int .u32 1899447441)), (2, (V.int .u32 3049323471)), (3, (V.int .u32 3921009573)), (4, (V.int .u32 961987163)), (5, (V.int .u32 1508970993)), (6, (V.int .u32 2453635748)), (7, (V.int .u32 2870763221)), (8, (V.int .u32 3624381080)), (9, (V.int .u32 310598401)), (10, (V.int .u32 607225278)), (11, (V.int .u32 1426881987)), (12, (V.int .u32 1925078388)), (13, (V.int .u32 2162078206)), (14, (V.int .u32 2614888103)), (15, (V.int .u32 3248222580)), (16, (V.int .u32 3835390401)), (17, (V.int .u32 4022224774)), (18, (V.int .u32 264347078)), (19, (V.int .u32 604807628)), (20, (V.int .u32 770255983)), (21, (V.int .u32 1249150122)), (22, (V.int .u32 1555081692)), (23, (V.int .u32 1996064986)), (24, (V.int .u32 2554220882)), (25, (V.int .u32 2821834349)), (26, (V.int .u32 2952996808)), (27, (V.int .u32 3210313671)), (28, (V.int .u32 3336571891)), (29, (V.int .u32 3584528711)), (30, (V.int .u32 113926993)), (31, (V.int .u32 338241895)), (32, (V.int .u32 666307205)), (33, (V.int .u32 773529912)), (34, (V.int .u32 1294757372)), (35, (V.int .u32 1396182291)), (36, (V.int .u32 1695183700)), (37, (V.int .u32 1986661051)), (38, (V.int .u32 2177026350)), (39, (V.int .u32 2456956037)), (40, (V.int .u32 2730485921)), (41, (V.int .u32 2820302411)), (42, (V.int .u32 3259730800)), (43, (V.int .u32 3345764771)), (44, (V.int .u32 3516065817)), (45, (V.int .u32 3600352804)), (46, (V.int .u32 4094571909)), (47, (V.int .u32 275423344)), (48, (V.int .u32 430227734)), (49, (V.int .u32 506948616)), (50, (V.int .u32 659060556)), (51, (V.int .u32 883997877)), (52, (V.int .u32 958139571)), (53, (V.int .u32 1322822218)), (54, (V.int .u32 1537002063)), (55, (V.int .u32 1747873779)), (56, (V.int .u32 1955562222)), (57, (V.int .u32 2024104815)), (58, (V.int .u32 2227730452)), (59, (V.int .u32 2361852424)), (60, (V.int .u32 2428436474)), (61, (V.int .u32 2756734187)), (62, (V.int .u32 3204031479)), (63, (V.int .u32 3329325298))])) s fun t1 s => ((st 64 t0 t1) s fun _ s =>
 (rfin (rcons (peek ti166 t0 s) (some [])) s K))))
noncomputable def fn126 : M := fn126_q
theorem fn126_qe : fn126_q = evF (E126) Tryz.f126 [] := by kernel_rfl
theorem fn126_s : SP Tryz.prog 126 (F0 fn126) := mk0 (mkEnv tab (L := L126) trivial) Tryz.func126 (by kernel_rfl) (fn126_qe)

/-! 128: sealchain/sealchainref02.turn -/
def L128 : List (Nat × (List V → M)) := []
def E128 : Env := ⟨ty, tabC (L128), meth, tabL [], tabL []⟩
noncomputable def fn128_q (t0 t1 : V) : M := fun s K =>
 (optK (binV .shr (some (Kd.int .u32)) false t0 t1) s fun t7 s => (optK (binV .sub (some (Kd.int .i64)) true (V.int .i64 32) t1) s fun t10 s => (optK (binV .shl (some (Kd.int .u32)) false t0 t10) s fun t11 s => (optK (binV .or (some (Kd.int .u32)) false t7 t11) s fun t12 s => (K t12 s)))))
noncomputable def fn128 : V → V → M := fn128_q
theorem fn128_qe (t0 t1 : V) : fn128_q t0 t1 = evF (E128) Tryz.f128 [t0, t1] := by kernel_rfl
theorem fn128_s : SP Tryz.prog 128 (F2 fn128) := mk2 (mkEnv tab (L := L128) trivial) Tryz.func128 (by kernel_rfl) (fn128_qe)

/-! 127: sealchain/sealchainref02.words -/
def L127 (f128 : M2) : List (Nat × (List V → M)) := [(128, F2 f128)]
def E127 (f128 : M2) : Env := ⟨ty, tabC (L127 f128), meth, tabL [(3, [0, 2, 3, 4])], tabL [(3, [2, 3])]⟩
noncomputable def fn127_L1 (f128 : M2) (t0 t2 t3 t4 : V) : AS → KX → Prop := fun s K =>
 (optK (binV .lss (some (Kd.int .i64)) true t4 (V.int .i64 64)) s fun t10 s => (condV t10
 (optK (binV .lss (some (Kd.int .i64)) true t4 (V.int .i64 16)) s fun t14 s => (condV t14
 (optK (binV .mul (some (Kd.int .i64)) true (V.int .i64 4) t4) s fun t18 s => (optK (elemPtr none 1 t0 t18) s fun t19 s => ((ld1 t19) s fun t20 s1 =>
 ((cvt (Kd.int .u8) (Kd.int .u32) t20) s1 fun t21 s1 =>
 (optK (binV .shl (some (Kd.int .u32)) true t21 (V.int .u64 24)) s1 fun t22 s1 => (optK (binV .mul (some (Kd.int .i64)) true (V.int .i64 4) t4) s1 fun t25 s1 => (optK (binV .add (some (Kd.int .i64)) true t25 (V.int .i64 1)) s1 fun t26 s1 => (optK (elemPtr none 1 t0 t26) s1 fun t27 s1 => ((ld1 t27) s1 fun t28 s2 =>
 ((cvt (Kd.int .u8) (Kd.int .u32) t28) s2 fun t29 s2 =>
 (optK (binV .shl (some (Kd.int .u32)) true t29 (V.int .u64 16)) s2 fun t30 s2 => (optK (binV .add (some (Kd.int .u32)) false t22 t30) s2 fun t31 s2 => (optK (binV .mul (some (Kd.int .i64)) true (V.int .i64 4) t4) s2 fun t34 s2 => (optK (binV .add (some (Kd.int .i64)) true t34 (V.int .i64 2)) s2 fun t35 s2 => (optK (elemPtr none 1 t0 t35) s2 fun t36 s2 => ((ld1 t36) s2 fun t37 s3 =>
 ((cvt (Kd.int .u8) (Kd.int .u32) t37) s3 fun t38 s3 =>
 (optK (binV .shl (some (Kd.int .u32)) true t38 (V.int .u64 8)) s3 fun t39 s3 => (optK (binV .add (some (Kd.int .u32)) false t31 t39) s3 fun t40 s3 => (optK (binV .mul (some (Kd.int .i64)) true (V.int .i64 4) t4) s3 fun t43 s3 => (optK (binV .add (some (Kd.int .i64)) true t43 (V.int .i64 3)) s3 fun t44 s3 => (optK (elemPtr none 1 t0 t44) s3 fun t45 s3 => ((ld1 t45) s3 fun t46 s4 =>
 ((cvt (Kd.int .u8) (Kd.int .u32) t46) s4 fun t47 s4 =>
 (optK (binV .add (some (Kd.int .u32)) false t40 t47) s4 fun t48 s4 => (optK (elemPtr (some 64) 1 t3 t4) s4 fun t49 s4 => ((st 1 t49 t48) s4 fun _ s5 =>
 (optK (binV .add (some (Kd.int .i64)) true t4 (V.int .i64 1)) s5 fun t12 s5 => (K .nrm (t0 :: (V.junk :: (t2 :: (t3 :: (t12 :: (jk 85 [])))))) s5)))))))))))))))))))))))))))))
 (optK (binV .sub (some (Kd.int .i64)) true t4 (V.int .i64 15)) s fun t51 s => (optK (elemPtr (some 64) 1 t3 t51) s fun t52 s => ((ld1 t52) s fun t53 s6 =>
 (optK (binV .sub (some (Kd.int .i64)) true t4 (V.int .i64 2)) s6 fun t55 s6 => (optK (elemPtr (some 64) 1 t3 t55) s6 fun t56 s6 => ((ld1 t56) s6 fun t57 s7 =>
 ((f128 t53 (V.int .i64 7)) s7 fun t59 s7 =>
 ((f128 t53 (V.int .i64 18)) s7 fun t61 s7 =>
 (optK (binV .xor (some (Kd.int .u32)) false t59 t61) s7 fun t62 s7 => (optK (binV .shr (some (Kd.int .u32)) true t53 (V.int .u64 3)) s7 fun t64 s7 => (optK (binV .xor (some (Kd.int .u32)) false t62 t64) s7 fun t65 s7 => ((f128 t57 (V.int .i64 17)) s7 fun t67 s7 =>
 ((f128 t57 (V.int .i64 19)) s7 fun t69 s7 =>
 (optK (binV .xor (some (Kd.int .u32)) false t67 t69) s7 fun t70 s7 => (optK (binV .shr (some (Kd.int .u32)) true t57 (V.int .u64 10)) s7 fun t72 s7 => (optK (binV .xor (some (Kd.int .u32)) false t70 t72) s7 fun t73 s7 => (optK (binV .sub (some (Kd.int .i64)) true t4 (V.int .i64 7)) s7 fun t77 s7 => (optK (elemPtr (some 64) 1 t3 t77) s7 fun t78 s7 => ((ld1 t78) s7 fun t79 s8 =>
 (optK (binV .add (some (Kd.int .u32)) false t73 t79) s8 fun t80 s8 => (optK (binV .add (some (Kd.int .u32)) false t80 t65) s8 fun t82 s8 => (optK (binV .sub (some (Kd.int .i64)) true t4 (V.int .i64 16)) s8 fun t84 s8 => (optK (elemPtr (some 64) 1 t3 t84) s8 fun t85 s8 => ((ld1 t85) s8 fun t86 s9 =>
 (optK (binV .add (some (Kd.int .u32)) false t82 t86) s9 fun t87 s9 => (optK (elemPtr (some 64) 1 t3 t4) s9 fun t88 s9 => ((st 1 t88 t87) s9 fun _ s10 =>
 (optK (binV .add (some (Kd.int .i64)) true t4 (V.int .i64 1)) s10 fun t12 s10 => (K .nrm (t0 :: (V.junk :: (t2 :: (t3 :: (t12 :: (jk 85 [])))))) s10)))))))))))))))))))))))))))))))
 (K (.exit 0) (V.junk :: (V.junk :: (t2 :: (t3 :: (jk 86 []))))) s)))
noncomputable def fn127_q (f128 : M2) (t0 : V) : M := fun s K =>
 ((newC [(V.int .u32 0), (V.int .u32 0), (V.int .u32 0), (V.int .u32 0), (V.int .u32 0), (V.int .u32 0), (V.int .u32 0), (V.int .u32 0), (V.int .u32 0), (V.int .u32 0), (V.int .u32 0), (V.int .u32 0), (V.int .u32 0), (V.int .u32 0), (V.int .u32 0), (V.int .u32 0), (V.int .u32 0), (V.int .u32 0), (V.int .u32 0), (V.int .u32 0), (V.int .u32 0), (V.int .u32 0), (V.int .u32 0), (V.int .u32 0), (V.int .u32 0), (V.int .u32 0), (V.int .u32 0), (V.int .u32 0), (V.int .u32 0), (V.int .u32 0), (V.int .u32 0), (V.int .u32 0), (V.int .u32 0), (V.int .u32 0), (V.int .u32 0), (V.int .u32 0), (V.int .u32 0), (V.int .u32 0), (V.int .u32 0), (V.int .u32 0), (V.int .u32 0), (V.int .u32 0), (V.int .u32 0), (V.int .u32 0), (V.int .u32 0), (V.int .u32 0), (V.int .u32 0), (V.int .u32 0), (V.int .u32 0), (V.int .u32 0), (V.int .u32 0), (V.int .u32 0), (V.int .u32 0), (V.int .u32 0), (V.int .u32 0), (V.int .u32 0), (V.int .u32 0), (V.int .u32 0), (V.int .u32 0), (V.int .u32 0), (V.int .u32 0), (V.int .u32 0), (V.int .u32 0), (V.int .u32 0)]) s fun t2 s =>
 ((newC [(V.int .u32 0), (V.int .u32 0), (V.int .u32 0), (V.int .u32 0), (V.int .u32 0), (V.int .u32 0), (V.int .u32 0), (V.int .u32 0), (V.int .u32 0), (V.int .u32 0), (V.int .u32 0), (V.int .u32 0), (V.int .u32 0), (V.int .u32 0), (V.int .u32 0), (V.int .u32 0), (V.int .u32 0), (V.int .u32 0), (V.int .u32 0), (V.int .u32 0), (V.int .u32 0), (V.int .u32 0), (V.int .u32 0), (V.int .u32 0), (V.int .u32 0), (V.int .u32 0), (V.int .u32 0), (V.int .u32 0), (V.int .u32 0), (V.int .u32 0), (V.int .u32 0), (V.int .u32 0), (V.int .u32 0), (V.int .u32 0), (V.int .u32 0), (V.int .u32 0), (V.int .u32 0), (V.int .u32 0), (V.int .u32 0), (V.int .u32 0), (V.int .u32 0), (V.int .u32 0), (V.int .u32 0), (V.int .u32 0), (V.int .u32 0), (V.int .u32 0), (V.int .u32 0), (V.int .u32 0), (V.int .u32 0), (V.int .u32 0), (V.int .u32 0), (V.int .u32 0), (V.int .u32 0), (V.int .u32 0), (V.int .u32 0), (V.int .u32 0), (V.int .u32 0), (V.int .u32 0), (V.int .u32 0), (V.int .u32 0), (V.int .u32 0), (V.int .u32 0), (V.int .u32 0), (V.int .u32 0)]) s fun t3 s =>
 (loopN LOOPS (fun tm s K => fn127_L1 f128 (tm.getD 0 .junk) (tm.getD 2 .junk) (tm.getD 3 .junk) (tm.getD 4 .junk) s K) (t0 :: (V.junk :: (t2 :: (t3 :: ((V.int .i64 0) :: (jk 85 [])))))) s (fun e tm s => exX e (fun j1 => (exB (j1 == 0)
 ((ldA 64 (tm.getD 3 .junk)) s fun t89 s =>
 ((st 64 (tm.getD 2 .junk) t89) s fun _ s =>
 (rfin (rcons (peek ti166 (tm.getD 2 .junk) s) (some [])) s K)))
 False)) (rfin (rcons (peek ti166 (tm.getD 2 .junk) s) (some [])) s K)))))
noncomputable def fn127 : V → M := fn127_q fn128
theorem fn127_qe (f128 : M2) (t0 : V) : fn127_q f128 t0 = evF (E127 f128) Tryz.f127 [t0] := by kernel_rfl
theorem fn127_s : SP Tryz.prog 127 (F1 fn127) := mk1 (mkEnv tab (L := L127 fn128) ⟨fn128_s, trivial⟩) Tryz.func127 (by kernel_rfl) (fn127_qe fn128)

/-! 100: sealchain/sealchainref02.block -/
def L100 (f126 : M) (f127 : M1) (f128 : M2) : List (Nat × (List V → M)) := [(126, F0 f126), (127, F1 f127), (128, F2 f128)]
def E100 (f126 : M) (f127 : M1) (f128 : M2) : Env := ⟨ty, tabC (L100 f126 f127 f128), meth, tabL [(4, [2, 4, 5, 6, 7, 8]), (11, [2, 4, 7, 13])], tabL [(4, [2, 4, 7]), (11, [2, 4])]⟩
noncomputable def fn100_L1 (f126 : M) (f127 : M1) (f128 : M2) (t2 t4 t5 t6 t7 t8 : V) : AS → KX → Prop := fun s K =>
 (optK (binV .lss (some (Kd.int .i64)) true t8 (V.int .i64 64)) s fun t19 s => (condV t19
 (optK (elemPtr (some 8) 1 t7 (V.int .i64 0)) s fun t22 s => ((ld1 t22) s fun t23 s1 =>
 (optK (elemPtr (some 8) 1 t7 (V.int .i64 4)) s1 fun t24 s1 => ((ld1 t24) s1 fun t25 s2 =>
 (optK (elemPtr (some 8) 1 t7 (V.int .i64 7)) s2 fun t26 s2 => ((ld1 t26) s2 fun t27 s3 =>
 ((f128 t25 (V.int .i64 6)) s3 fun t29 s4 =>
 (chkB (holds ti145 t26 s4 t27) ((f128 t25 (V.int .i64 11)) s4 fun t31 s5 =>
 (chkB (holds ti145 t26 s5 t27) (optK (binV .xor (some (Kd.int .u32)) false t29 t31) s5 fun t32 s5 => ((f128 t25 (V.int .i64 25)) s5 fun t34 s6 =>
 (chkB (holds ti145 t26 s6 t27) (optK (binV .xor (some (Kd.int .u32)) false t32 t34) s6 fun t35 s6 => (optK (binV .add (some (Kd.int .u32)) false t27 t35) s6 fun t36 s6 => (optK (elemPtr (some 8) 1 t7 (V.int .i64 5)) s6 fun t38 s6 => ((ld1 t38) s6 fun t39 s7 =>
 (chkB (holds ti145 t38 s5 t39) (chkB (holds ti145 t38 s4 t39) (chkB (holds ti145 t38 s3 t39) (optK (binV .and (some (Kd.int .u32)) false t25 t39) s7 fun t40 s7 => (optK (unV .xor t25) s7 fun t42 s7 => (optK (elemPtr (some 8) 1 t7 (V.int .i64 6)) s7 fun t43 s7 => ((ld1 t43) s7 fun t44 s8 =>
 (chkB (holds ti145 t43 s5 t44) (chkB (holds ti145 t43 s4 t44) (chkB (holds ti145 t43 s3 t44) (optK (binV .and (some (Kd.int .u32)) false t42 t44) s8 fun t45 s8 => (optK (binV .xor (some (Kd.int .u32)) false t40 t45) s8 fun t46 s8 => (optK (binV .add (some (Kd.int .u32)) false t36 t46) s8 fun t47 s8 => (optK (elemPtr (some 64) 1 t5 t8) s8 fun t49 s8 => ((ld1 t49) s8 fun t50 s9 =>
 (chkB (holds ti145 t49 s5 t50) (chkB (holds ti145 t49 s4 t50) (chkB (holds ti145 t49 s3 t50) (optK (binV .add (some (Kd.int .u32)) false t47 t50) s9 fun t51 s9 => (optK (elemPtr (some 64) 1 t6 t8) s9 fun t53 s9 => ((ld1 t53) s9 fun t54 s10 =>
 (chkB (holds ti145 t53 s5 t54) (chkB (holds ti145 t53 s4 t54) (chkB (holds ti145 t53 s3 t54) (optK (binV .add (some (Kd.int .u32)) false t51 t54) s10 fun t55 s10 => ((f128 t23 (V.int .i64 2)) s10 fun t57 s11 =>
 ((f128 t23 (V.int .i64 13)) s11 fun t59 s12 =>
 (optK (binV .xor (some (Kd.int .u32)) false t57 t59) s12 fun t60 s12 => ((f128 t23 (V.int .i64 22)) s12 fun t62 s13 =>
 (optK (binV .xor (some (Kd.int .u32)) false t60 t62) s13 fun t63 s13 => (optK (elemPtr (some 8) 1 t7 (V.int .i64 1)) s13 fun t65 s13 => ((ld1 t65) s13 fun t66 s14 =>
 (chkB (holds ti145 t65 s12 t66) (chkB (holds ti145 t65 s11 t66) (chkB (holds ti145 t65 s10 t66) (optK (binV .and (some (Kd.int .u32)) false t23 t66) s14 fun t67 s14 => (optK (elemPtr (some 8) 1 t7 (V.int .i64 2)) s14 fun t69 s14 => ((ld1 t69) s14 fun t70 s15 =>
 (chkB (holds ti145 t69 s12 t70) (chkB (holds ti145 t69 s11 t70) (chkB (holds ti145 t69 s10 t70) (optK (binV .and (some (Kd.int .u32)) false t23 t70) s15 fun t71 s15 => (optK (binV .xor (some (Kd.int .u32)) false t67 t71) s15 fun t72 s15 => (optK (elemPtr (some 8) 1 t7 (V.int .i64 1)) s15 fun t73 s15 => ((ld1 t73) s15 fun t74 s16 =>
 (chkB (holds ti145 t73 s12 t74) (chkB (holds ti145 t73 s11 t74) (chkB (holds ti145 t73 s10 t74) (optK (elemPtr (some 8) 1 t7 (V.int .i64 2)) s16 fun t75 s16 => ((ld1 t75) s16 fun t76 s17 =>
 (chkB (holds ti145 t75 s12 t76) (chkB (holds ti145 t75 s11 t76) (chkB (holds ti145 t75 s10 t76) (optK (binV .and (some (Kd.int .u32)) false t74 t76) s17 fun t77 s17 => (optK (binV .xor (some (Kd.int .u32)) false t72 t77) s17 fun t78 s17 => (optK (binV .add (some (Kd.int .u32)) false t63 t78) s17 fun t79 s17 => (optK (binV .add (some (Kd.int .u32)) false t55 t79) s17 fun t82 s17 => (optK (elemPtr (some 8) 1 t7 (V.int .i64 1)) s17 fun t84 s17 => ((ld1 t84) s17 fun t85 s17 =>
 (optK (elemPtr (some 8) 1 t7 (V.int .i64 2)) s17 fun t86 s17 => ((ld1 t86) s17 fun t87 s17 =>
 (optK (elemPtr (some 8) 1 t7 (V.int .i64 3)) s17 fun t88 s17 => ((ld1 t88) s17 fun t89 s17 =>
 (optK (binV .add (some (Kd.int .u32)) false t89 t55) s17 fun t91 s17 => (optK (elemPtr (some 8) 1 t7 (V.int .i64 5)) s17 fun t93 s17 => ((ld1 t93) s17 fun t94 s17 =>
 (optK (elemPtr (some 8) 1 t7 (V.int .i64 6)) s17 fun t95 s17 => ((ld1 t95) s17 fun t96 s17 =>
 (optK (aggO (fillV (fun j => some (j * 1, 1)) [(V.int .u32 0), (V.int .u32 0), (V.int .u32 0), (V.int .u32 0), (V.int .u32 0), (V.int .u32 0), (V.int .u32 0), (V.int .u32 0)] [(0, t82), (1, t23), (2, t85), (3, t87), (4, t91), (5, t25), (6, t94), (7, t96)])) s17 fun t97 s17 => ((st 8 t7 t97) s17 fun _ s17 =>
 (optK (binV .add (some (Kd.int .i64)) true t8 (V.int .i64 1)) s17 fun t21 s17 => (K .nrm (V.junk :: (V.junk :: (t2 :: (V.junk :: (t4 :: (t5 :: (t6 :: (t7 :: (t21 :: (jk 103 [])))))))))) s17)))))))))))))))))))))))))))))))))))))))))))))))))))))))))))))))))))))))))))))))))))))))))
 (K (.exit 0) (V.junk :: (V.junk :: (t2 :: (V.junk :: (t4 :: (V.junk :: (V.junk :: (t7 :: (jk 104 []))))))))) s)))
noncomputable def fn100_L2 (f126 : M) (f127 : M1) (f128 : M2) (t2 t4 t7 t13 : V) : AS → KX → Prop := fun s K =>
 (optK (binV .lss (some (Kd.int .i64)) true t13 (V.int .i64 8)) s fun t99 s => (condV t99
 (optK (elemPtr (some 8) 1 t2 t13) s fun t104 s => ((ld1 t104) s fun t105 s18 =>
 (optK (elemPtr (some 8) 1 t7 t13) s18 fun t107 s18 => ((ld1 t107) s18 fun t108 s19 =>
 (optK (binV .add (some (Kd.int .u32)) false t105 t108) s19 fun t109 s19 => (optK (elemPtr (some 8) 1 t2 t13) s19 fun t110 s19 => ((st 1 t110 t109) s19 fun _ s20 =>
 (optK (binV .add (some (Kd.int .i64)) true t13 (V.int .i64 1)) s20 fun t101 s20 => (K .nrm (V.junk :: (V.junk :: (t2 :: (V.junk :: (t4 :: (V.junk :: (V.junk :: (t7 :: (jk 5 (t101 :: (jk 98 []))))))))))) s20)))))))))
 (K (.exit 2) (V.junk :: (V.junk :: (t2 :: (V.junk :: (t4 :: (jk 107 [])))))) s)))
noncomputable def fn100_q (f126 : M) (f127 : M1) (f128 : M2) (t0 t1 : V) : M := fun s K =>
 ((boxV t0) s fun t2 s =>
 ((newC [(V.int .u32 0), (V.int .u32 0), (V.int .u32 0), (V.int .u32 0), (V.int .u32 0), (V.int .u32 0), (V.int .u32 0), (V.int .u32 0)]) s fun t4 s =>
 ((f126) s fun t14 s =>
 ((f127 t1) s fun t16 s =>
 ((newC [(V.int .u32 0), (V.int .u32 0), (V.int .u32 0), (V.int .u32 0), (V.int .u32 0), (V.int .u32 0), (V.int .u32 0), (V.int .u32 0), (V.int .u32 0), (V.int .u32 0), (V.int .u32 0), (V.int .u32 0), (V.int .u32 0), (V.int .u32 0), (V.int .u32 0), (V.int .u32 0), (V.int .u32 0), (V.int .u32 0), (V.int .u32 0), (V.int .u32 0), (V.int .u32 0), (V.int .u32 0), (V.int .u32 0), (V.int .u32 0), (V.int .u32 0), (V.int .u32 0), (V.int .u32 0), (V.int .u32 0), (V.int .u32 0), (V.int .u32 0), (V.int .u32 0), (V.int .u32 0), (V.int .u32 0), (V.int .u32 0), (V.int .u32 0), (V.int .u32 0), (V.int .u32 0), (V.int .u32 0), (V.int .u32 0), (V.int .u32 0), (V.int .u32 0), (V.int .u32 0), (V.int .u32 0), (V.int .u32 0), (V.int .u32 0), (V.int .u32 0), (V.int .u32 0), (V.int .u32 0), (V.int .u32 0), (V.int .u32 0), (V.int .u32 0), (V.int .u32 0), (V.int .u32 0), (V.int .u32 0), (V.int .u32 0), (V.int .u32 0), (V.int .u32 0), (V.int .u32 0), (V.int .u32 0), (V.int .u32 0), (V.int .u32 0), (V.int .u32 0), (V.int .u32 0), (V.int .u32 0)]) s fun t5 s =>
 ((newC [(V.int .u32 0), (V.int .u32 0), (V.int .u32 0), (V.int .u32 0), (V.int .u32 0), (V.int .u32 0), (V.int .u32 0), (V.int .u32 0), (V.int .u32 0), (V.int .u32 0), (V.int .u32 0), (V.int .u32 0), (V.int .u32 0), (V.int .u32 0), (V.int .u32 0), (V.int .u32 0), (V.int .u32 0), (V.int .u32 0), (V.int .u32 0), (V.int .u32 0), (V.int .u32 0), (V.int .u32 0), (V.int .u32 0), (V.int .u32 0), (V.int .u32 0), (V.int .u32 0), (V.int .u32 0), (V.int .u32 0), (V.int .u32 0), (V.int .u32 0), (V.int .u32 0), (V.int .u32 0), (V.int .u32 0), (V.int .u32 0), (V.int .u32 0), (V.int .u32 0), (V.int .u32 0), (V.int .u32 0), (V.int .u32 0), (V.int .u32 0), (V.int .u32 0), (V.int .u32 0), (V.int .u32 0), (V.int .u32 0), (V.int .u32 0), (V.int .u32 0), (V.int .u32 0), (V.int .u32 0), (V.int .u32 0), (V.int .u32 0), (V.int .u32 0), (V.int .u32 0), (V.int .u32 0), (V.int .u32 0), (V.int .u32 0), (V.int .u32 0), (V.int .u32 0), (V.int .u32 0), (V.int .u32 0), (V.int .u32 0), (V.int .u32 0), (V.int .u32 0), (V.int .u32 0), (V.int .u32 0)]) s fun t6 s =>
 ((st 64 t5 t14) s fun _ s =>
 ((st 64 t6 t16) s fun _ s =>
 ((ldA 8 t2) s fun t17 s =>
 ((newC [(V.int .u32 0), (V.int .u32 0), (V.int .u32 0), (V.int .u32 0), (V.int .u32 0), (V.int .u32 0), (V.int .u32 0), (V.int .u32 0)]) s fun t7 s =>
 ((st 8 t7 t17) s fun _ s =>
 (loopN LOOPS (fun tm s K => fn100_L1 f126 f127 f128 (tm.getD 2 .junk) (tm.getD 4 .junk) (tm.getD 5 .junk) (tm.getD 6 .junk) (tm.getD 7 .junk) (tm.getD 8 .junk) s K) (V.junk :: (V.junk :: (t2 :: (V.junk :: (t4 :: (t5 :: (t6 :: (t7 :: ((V.int .i64 0) :: (jk 103 [])))))))))) s (fun e tm s => exX e (fun j1 => (exB (j1 == 0)
 (loopN LOOPS (fun tm s K => fn100_L2 f126 f127 f128 (tm.getD 2 .junk) (tm.getD 4 .junk) (tm.getD 7 .junk) (tm.getD 13 .junk) s K) (V.junk :: (V.junk :: ((tm.getD 2 .junk) :: (V.junk :: ((tm.getD 4 .junk) :: (V.junk :: (V.junk :: ((tm.getD 7 .junk) :: (jk 5 ((V.int .i64 0) :: (jk 98 []))))))))))) s (fun e tm s => exX e (fun j2 => (exB (j2 == 2)
 ((ldA 8 (tm.getD 2 .junk)) s fun t111 s =>
 ((st 8 (tm.getD 4 .junk) t111) s fun _ s =>
 (rfin (rcons (peek ti146 (tm.getD 4 .junk) s) (some [])) s K)))
 False)) (rfin (rcons (peek ti146 (tm.getD 4 .junk) s) (some [])) s K)))
 False)) (rfin (rcons (peek ti146 (tm.getD 4 .junk) s) (some [])) s K))))))))))))))
noncomputable def fn100 : V → V → M := fn100_q fn126 fn127 fn128
theorem fn100_qe (f126 : M) (f127 : M1) (f128 : M2) (t0 t1 : V) : fn100_q f126 f127 f128 t0 t1 = evF (E100 f126 f127 f128) Tryz.f100 [t0, t1] := by kernel_rfl
theorem fn100_s : SP Tryz.prog 100 (F2 fn100) := mk2 (mkEnv tab (L := L100 fn126 fn127 fn128) ⟨fn126_s, fn127_s, fn128_s, trivial⟩) Tryz.func100 (by kernel_rfl) (fn100_qe fn126 fn127 fn128)

/-! 51: sealchain/sealchainref02.Sum -/
def L51 (f54 : M1) (f99 : M) (f100 : M2) : List (Nat × (List V → M)) := [(54, F1 f54), (99, F0 f99), (100, F2 f100)]
def E51 (f54 : M1) (f99 : M) (f100 : M2) : Env := ⟨ty, tabC (L51 f54 f99 f100), meth, tabL [(2, [0, 2, 3]), (6, [2, 3, 4, 5]), (11, [2, 3, 6, 7]), (16, [2, 6, 8, 9])], tabL [(2, [0, 2, 3]), (6, [2, 3]), (11, [2, 6]), (16, [2, 8])]⟩
noncomputable def fn51_L1 (f54 : M1) (f99 : M) (f100 : M2) (t0 t2 t3 : V) : AS → KX → Prop := fun s K =>
 (optK (lenV (some (Kd.slice 5)) t3) s fun t15 s => (optK (binV .rem (some (Kd.int .i64)) true t15 (V.int .i64 64)) s fun t16 s => (optK (binV .neq (some (Kd.int .i64)) true t16 (V.int .i64 56)) s fun t17 s => (condV t17
 ((bsl 1 [(V.int .u8 0)] 1 [(0, (V.int .u8 0))]) s fun t19 s =>
 ((app 1 1 t3 t19) s fun t20 s =>
 (K .nrm (t0 :: (V.junk :: (t2 :: (t20 :: (jk 63 []))))) s)))
 (K (.exit 0) (t0 :: (V.junk :: (t2 :: (t3 :: (jk 63 []))))) s)))))
noncomputable def fn51_L2 (f54 : M1) (f99 : M) (f100 : M2) (t2 t3 t4 t5 : V) : AS → KX → Prop := fun s K =>
 (optK (binV .geq (some (Kd.int .i64)) true t5 (V.int .i64 0)) s fun t25 s => (condV t25
 (optK (binV .mul (some (Kd.int .i64)) true (V.int .i64 8) t5) s fun t31 s => (optK (binV .shr (some (Kd.int .i64)) false t4 t31) s fun t32 s => ((cvt (Kd.int .i64) (Kd.int .u8) t32) s fun t33 s =>
 ((bsl 1 [(V.int .u8 0)] 1 [(0, t33)]) s fun t34 s =>
 ((app 1 1 t3 t34) s fun t35 s =>
 (optK (binV .sub (some (Kd.int .i64)) true t5 (V.int .i64 1)) s fun t27 s => (K .nrm (V.junk :: (V.junk :: (t2 :: (t35 :: (t4 :: (t27 :: (jk 61 []))))))) s)))))))
 (K (.exit 2) (V.junk :: (V.junk :: (t2 :: (t3 :: (jk 63 []))))) s)))
noncomputable def fn51_L3 (f54 : M1) (f99 : M) (f100 : M2) (t2 t3 t6 t7 : V) : AS → KX → Prop := fun s K =>
 (optK (lenV (some (Kd.slice 5)) t3) s fun t39 s => (optK (binV .lss (some (Kd.int .i64)) false t7 t39) s fun t40 s => (condV t40
 ((ldA 8 t6) s fun t43 s1 =>
 (optK (binV .add (some (Kd.int .i64)) true t7 (V.int .i64 64)) s1 fun t47 s1 => (optK (sliceSl 1 t3 (some t7) (some t47) none) s1 fun t48 s1 => ((f100 t43 t48) s1 fun t49 s2 =>
 ((st 8 t6 t49) s2 fun _ s3 =>
 (optK (binV .add (some (Kd.int .i64)) true t7 (V.int .i64 64)) s3 fun t42 s3 => (K .nrm (V.junk :: (V.junk :: (t2 :: (t3 :: (V.junk :: (V.junk :: (t6 :: (t42 :: (jk 59 []))))))))) s3)))))))
 (K (.exit 4) (V.junk :: (V.junk :: (t2 :: (jk 3 (t6 :: (jk 60 [])))))) s))))
noncomputable def fn51_L4 (f54 : M1) (f99 : M) (f100 : M2) (t2 t6 t8 t9 : V) : AS → KX → Prop := fun s K =>
 (optK (binV .lss (some (Kd.int .i64)) true t9 (V.int .i64 32)) s fun t51 s => (condV t51
 (optK (binV .quo (some (Kd.int .i64)) true t9 (V.int .i64 4)) s fun t56 s => (optK (elemPtr (some 8) 1 t6 t56) s fun t57 s => ((ld1 t57) s fun t58 s =>
 (optK (binV .rem (some (Kd.int .i64)) true t9 (V.int .i64 4)) s fun t60 s => (optK (binV .mul (some (Kd.int .i64)) true (V.int .i64 8) t60) s fun t61 s => (optK (binV .sub (some (Kd.int .i64)) true (V.int .i64 24) t61) s fun t62 s => (optK (binV .shr (some (Kd.int .u32)) false t58 t62) s fun t63 s => ((cvt (Kd.int .u32) (Kd.int .u8) t63) s fun t64 s =>
 (optK (elemPtr (some 32) 1 t8 t9) s fun t65 s => ((st 1 t65 t64) s fun _ s =>
 (optK (binV .add (some (Kd.int .i64)) true t9 (V.int .i64 1)) s fun t53 s => (K .nrm (V.junk :: (V.junk :: (t2 :: (jk 3 (t6 :: (V.junk :: (t8 :: (t53 :: (jk 57 []))))))))) s))))))))))))
 (K (.exit 6) (V.junk :: (V.junk :: (t2 :: (jk 5 (t8 :: (jk 58 [])))))) s)))
noncomputable def fn51_q (f54 : M1) (f99 : M) (f100 : M2) (t0 : V) : M := fun s K =>
 ((newC [(V.int .u8 0), (V.int .u8 0), (V.int .u8 0), (V.int .u8 0), (V.int .u8 0), (V.int .u8 0), (V.int .u8 0), (V.int .u8 0), (V.int .u8 0), (V.int .u8 0), (V.int .u8 0), (V.int .u8 0), (V.int .u8 0), (V.int .u8 0), (V.int .u8 0), (V.int .u8 0), (V.int .u8 0), (V.int .u8 0), (V.int .u8 0), (V.int .u8 0), (V.int .u8 0), (V.int .u8 0), (V.int .u8 0), (V.int .u8 0), (V.int .u8 0), (V.int .u8 0), (V.int .u8 0), (V.int .u8 0), (V.int .u8 0), (V.int .u8 0), (V.int .u8 0), (V.int .u8 0)]) s fun t2 s =>
 ((f54 t0) s fun t11 s =>
 ((bsl 1 [(V.int .u8 0)] 1 [(0, (V.int .u8 128))]) s fun t12 s =>
 ((app 1 1 t11 t12) s fun t13 s =>
 (loopN LOOPS (fun tm s K => fn51_L1 f54 f99 f100 (tm.getD 0 .junk) (tm.getD 2 .junk) (tm.getD 3 .junk) s K) (t0 :: (V.junk :: (t2 :: (t13 :: (jk 63 []))))) s (fun e tm s => exX e (fun j1 => (exB (j1 == 0)
 (optK (lenV (some (Kd.slice 5)) (tm.getD 0 .junk)) s fun t22 s => (optK (binV .mul (some (Kd.int .i64)) true (V.int .i64 8) t22) s fun t23 s => (loopN LOOPS (fun tm s K => fn51_L2 f54 f99 f100 (tm.getD 2 .junk) (tm.getD 3 .junk) (tm.getD 4 .junk) (tm.getD 5 .junk) s K) (V.junk :: (V.junk :: ((tm.getD 2 .junk) :: ((tm.getD 3 .junk) :: (t23 :: ((V.int .i64 7) :: (jk 61 []))))))) s (fun e tm s => exX e (fun j2 => (exB (j2 == 2)
 ((f99) s fun t36 s =>
 ((newC [(V.int .u32 0), (V.int .u32 0), (V.int .u32 0), (V.int .u32 0), (V.int .u32 0), (V.int .u32 0), (V.int .u32 0), (V.int .u32 0)]) s fun t6 s =>
 ((st 8 t6 t36) s fun _ s =>
 (loopN LOOPS (fun tm s K => fn51_L3 f54 f99 f100 (tm.getD 2 .junk) (tm.getD 3 .junk) (tm.getD 6 .junk) (tm.getD 7 .junk) s K) (V.junk :: (V.junk :: ((tm.getD 2 .junk) :: ((tm.getD 3 .junk) :: (V.junk :: (V.junk :: (t6 :: ((V.int .i64 0) :: (jk 59 []))))))))) s (fun e tm s => exX e (fun j3 => (exB (j3 == 4)
 ((newC [(V.int .u8 0), (V.int .u8 0), (V.int .u8 0), (V.int .u8 0), (V.int .u8 0), (V.int .u8 0), (V.int .u8 0), (V.int .u8 0), (V.int .u8 0), (V.int .u8 0), (V.int .u8 0), (V.int .u8 0), (V.int .u8 0), (V.int .u8 0), (V.int .u8 0), (V.int .u8 0), (V.int .u8 0), (V.int .u8 0), (V.int .u8 0), (V.int .u8 0), (V.int .u8 0), (V.int .u8 0), (V.int .u8 0), (V.int .u8 0), (V.int .u8 0), (V.int .u8 0), (V.int .u8 0), (V.int .u8 0), (V.int .u8 0), (V.int .u8 0), (V.int .u8 0), (V.int .u8 0)]) s fun t8 s =>
 (loopN LOOPS (fun tm s K => fn51_L4 f54 f99 f100 (tm.getD 2 .junk) (tm.getD 6 .junk) (tm.getD 8 .junk) (tm.getD 9 .junk) s K) (V.junk :: (V.junk :: ((tm.getD 2 .junk) :: (jk 3 ((tm.getD 6 .junk) :: (V.junk :: (t8 :: ((V.int .i64 0) :: (jk 57 []))))))))) s (fun e tm s => exX e (fun j4 => (exB (j4 == 6)
 ((ldA 32 (tm.getD 8 .junk)) s fun t66 s =>
 ((st 32 (tm.getD 2 .junk) t66) s fun _ s =>
 (rfin (rcons (peek ti100 (tm.getD 2 .junk) s) (some [])) s K)))
 False)) (rfin (rcons (peek ti100 (tm.getD 2 .junk) s) (some [])) s K))))
 False)) (rfin (rcons (peek ti100 (tm.getD 2 .junk) s) (some [])) s K))))))
 False)) (rfin (rcons (peek ti100 (tm.getD 2 .junk) s) (some [])) s K)))))
 False)) (rfin (rcons (peek ti100 (tm.getD 2 .junk) s) (some [])) s K)))))))
noncomputable def fn51 : V → M := fn51_q fn54 fn99 fn100
theorem fn51_qe (f54 : M1) (f99 : M) (f100 : M2) (t0 : V) : fn51_q f54 f99 f100 t0 = evF (E51 f54 f99 f100) Tryz.f51 [t0] := by kernel_rfl
theorem fn51_s : SP Tryz.prog 51 (F1 fn51) := mk1 (mkEnv tab (L := L51 fn54 fn99 fn100) ⟨fn54_s, fn99_s, fn100_s, trivial⟩) Tryz.func51 (by kernel_rfl) (fn51_qe fn54 fn99 fn100)

/-! 21: sealchain/sealchainref14.Record -/
def L21 (f51 : M1) : List (Nat × (List V → M)) := [(51, F1 f51)]
def E21 (f51 : M1) : Env := ⟨ty, tabC (L21 f51), meth, tabL [], tabL []⟩
noncomputable def fn21_q (f51 : M1) (t0 : V) : M := fun s K =>
 (optK (lenV (some (Kd.slice 5)) t0) s fun t8 s => (optK (binV .gtr (some (Kd.int .i64)) true t8 (V.int .i64 40000)) s fun t10 s => (condV t10
 (K (V.tuple [(V.slice none 0 0 true), (V.int .i64 5)]) s)
 (optK (binV .quo (some (Kd.int .i64)) true t8 (V.int .i64 256)) s fun t12 s => ((cvt (Kd.int .i64) (Kd.int .u8) t12) s fun t13 s =>
 (optK (binV .rem (some (Kd.int .i64)) true t8 (V.int .i64 256)) s fun t15 s => ((cvt (Kd.int .i64) (Kd.int .u8) t15) s fun t16 s =>
 (optK (binV .sub (some (Kd.int .i64)) true (V.int .i64 65535) t8) s fun t18 s => (optK (binV .quo (some (Kd.int .i64)) true t18 (V.int .i64 256)) s fun t19 s => ((cvt (Kd.int .i64) (Kd.int .u8) t19) s fun t20 s =>
 (optK (binV .sub (some (Kd.int .i64)) true (V.int .i64 65535) t8) s fun t22 s => (optK (binV .rem (some (Kd.int .i64)) true t22 (V.int .i64 256)) s fun t23 s => ((cvt (Kd.int .i64) (Kd.int .u8) t23) s fun t24 s =>
 ((bsl 1 [(V.int .u8 0)] 4 [(0, t13), (1, t16), (2, t20), (3, t24)]) s fun t25 s =>
 ((app 1 1 t25 t0) s fun t28 s =>
 ((f51 t28) s fun t30 s =>
 ((newC [(V.int .u8 0), (V.int .u8 0), (V.int .u8 0), (V.int .u8 0), (V.int .u8 0), (V.int .u8 0), (V.int .u8 0), (V.int .u8 0), (V.int .u8 0), (V.int .u8 0), (V.int .u8 0), (V.int .u8 0), (V.int .u8 0), (V.int .u8 0), (V.int .u8 0), (V.int .u8 0), (V.int .u8 0), (V.int .u8 0), (V.int .u8 0), (V.int .u8 0), (V.int .u8 0), (V.int .u8 0), (V.int .u8 0), (V.int .u8 0), (V.int .u8 0), (V.int .u8 0), (V.int .u8 0), (V.int .u8 0), (V.int .u8 0), (V.int .u8 0), (V.int .u8 0), (V.int .u8 0)]) s fun t6 s =>
 ((st 32 t6 t30) s fun _ s =>
 (optK (elemPtr (some 32) 1 t6 (V.int .i64 0)) s fun t32 s => ((ld1 t32) s fun t33 s =>
 (optK (elemPtr (some 32) 1 t6 (V.int .i64 1)) s fun t34 s => ((ld1 t34) s fun t35 s =>
 (optK (elemPtr (some 32) 1 t6 (V.int .i64 2)) s fun t36 s => ((ld1 t36) s fun t37 s =>
 (optK (elemPtr (some 32) 1 t6 (V.int .i64 3)) s fun t38 s => ((ld1 t38) s fun t39 s =>
 ((bsl 1 [(V.int .u8 0)] 4 [(0, t33), (1, t35), (2, t37), (3, t39)]) s fun t40 s =>
 ((app 1 1 t28 t40) s fun t41 s =>
 (K (V.tuple [t41, (V.int .i64 0)]) s)))))))))))))))))))))))))))))
noncomputable def fn21 : V → M := fn21_q fn51
theorem fn21_qe (f51 : M1) (t0 : V) : fn21_q f51 t0 = evF (E21 f51) Tryz.f21 [t0] := by kernel_rfl
theorem fn21_s : SP Tryz.prog 21 (F1 fn21) := mk1 (mkEnv tab (L := L21 fn51) ⟨fn51_s, trivial⟩) Tryz.func21 (by kernel_rfl) (fn21_qe fn51)

/-! 23: (*sealchain/sealchainref13.Disk).Write -/
def L23 (f54 : M1) : List (Nat × (List V → M)) := [(54, F1 f54)]
def E23 (f54 : M1) : Env := ⟨ty, tabC (L23 f54), meth, tabL [], tabL []⟩
noncomputable def fn23_q (f54 : M1) (t0 t1 : V) : M := fun s K =>
 (optK (nilV t0) s fun t6 s => (optK (fp 2 t6) s fun t7 s => ((ld1 t7) s fun t8 s =>
 (condV t8
 (K (V.int .i64 130) s)
 (optK (nilV t0) s fun t10 s => (optK (fp 0 t10) s fun t11 s => ((ld1 t11) s fun t12 s =>
 (optK (lenV (some (Kd.slice 5)) t12) s fun t13 s => (optK (lenV (some (Kd.slice 5)) t1) s fun t15 s => (optK (binV .add (some (Kd.int .i64)) false t13 t15) s fun t16 s => (optK (binV .gtr (some (Kd.int .i64)) true t16 (V.int .i64 1048576)) s fun t17 s => (condV t17
 (K (V.int .i64 5) s)
 (optK (nilV t0) s fun t20 s => (optK (fp 0 t20) s fun t21 s => ((ld1 t21) s fun t22 s =>
 ((f54 t22) s fun t23 s =>
 ((app 1 1 t23 t1) s fun t25 s =>
 (optK (nilV t0) s fun t26 s => (optK (fp 0 t26) s fun t27 s => ((st 1 t27 t25) s fun _ s =>
 (optK (nilV t0) s fun t30 s => (optK (fp 4 t30) s fun t31 s => ((ld1 t31) s fun t32 s1 =>
 ((f54 t1) s1 fun t34 s2 =>
 (chkB (holds ti52 t31 s2 t32) ((bsl 1 [(V.slice none 0 0 true)] 1 [(0, t34)]) s2 fun t35 s3 =>
 (chkB (holds ti52 t31 s3 t32) ((app 1 24 t32 t35) s3 fun t36 s4 =>
 (optK (nilV t0) s4 fun t37 s4 => (optK (fp 4 t37) s4 fun t38 s4 => ((st 1 t38 t36) s4 fun _ s5 =>
 (K (V.int .i64 0) s5))))))))))))))))))))))))))))))))
noncomputable def fn23 : V → V → M := fn23_q fn54
theorem fn23_qe (f54 : M1) (t0 t1 : V) : fn23_q f54 t0 t1 = evF (E23 f54) Tryz.f23 [t0, t1] := by kernel_rfl
theorem fn23_s : SP Tryz.prog 23 (F2 fn23) := mk2 (mkEnv tab (L := L23 fn54) ⟨fn54_s, trivial⟩) Tryz.func23 (by kernel_rfl) (fn23_qe fn54)

/-! 101: (*sealchain/sealchainref13.Disk).cut -/
def L101 (f54 : M1) : List (Nat × (List V → M)) := [(54, F1 f54)]
def E101 (f54 : M1) : Env := ⟨ty, tabC (L101 f54), meth, tabL [], tabL []⟩
noncomputable def fn101_q (f54 : M1) (t0 t1 : V) : M := fun s K =>
 (optK (nilV t0) s fun t6 s => (optK (fp 0 t6) s fun t7 s => ((ld1 t7) s fun t8 s1 =>
 (optK (lenV (some (Kd.slice 5)) t8) s1 fun t9 s1 => (optK (nilV t0) s1 fun t11 s1 => (optK (fp 1 t11) s1 fun t12 s1 => ((ld1 t12) s1 fun t13 s2 =>
 (optK (binV .sub (some (Kd.int .i64)) false t9 t13) s2 fun t14 s2 => (optK (foldV min2V t1 [t14]) s2 fun t15 s2 => (optK (nilV t0) s2 fun t18 s2 => (optK (fp 0 t18) s2 fun t19 s2 => ((ld1 t19) s2 fun t20 s3 =>
 (optK (nilV t0) s3 fun t22 s3 => (optK (fp 1 t22) s3 fun t23 s3 => ((ld1 t23) s3 fun t24 s4 =>
 (optK (binV .add (some (Kd.int .i64)) false t24 t15) s4 fun t26 s4 => (optK (sliceSl 1 t20 none (some t26) none) s4 fun t27 s4 => ((f54 t27) s4 fun t28 s5 =>
 (optK (nilV t0) s5 fun t29 s5 => (optK (fp 0 t29) s5 fun t30 s5 => ((st 1 t30 t28) s5 fun _ s6 =>
 (optK (nilV t0) s6 fun t33 s6 => (optK (fp 0 t33) s6 fun t34 s6 => ((ld1 t34) s6 fun t35 s6 =>
 (optK (lenV (some (Kd.slice 5)) t35) s6 fun t36 s6 => (optK (nilV t0) s6 fun t37 s6 => (optK (fp 1 t37) s6 fun t38 s6 => ((st 1 t38 t36) s6 fun _ s6 =>
 (K (V.tuple []) s6)))))))))))))))))))))))))))))
noncomputable def fn101 : V → V → M := fn101_q fn54
theorem fn101_qe (f54 : M1) (t0 t1 : V) : fn101_q f54 t0 t1 = evF (E101 f54) Tryz.f101 [t0, t1] := by kernel_rfl
theorem fn101_s : SP Tryz.prog 101 (F2 fn101) := mk2 (mkEnv tab (L := L101 fn54) ⟨fn54_s, trivial⟩) Tryz.func101 (by kernel_rfl) (fn101_qe fn54)

/-! 55: (*sealchain/sealchainref13.Disk).fails -/
def L55 (f101 : M2) : List (Nat × (List V → M)) := [(101, F2 f101)]
def E55 (f101 : M2) : Env := ⟨ty, tabC (L55 f101), meth, tabL [], tabL []⟩
noncomputable def fn55_q (f101 : M2) (t0 : V) : M := fun s K =>
 (optK (nilV t0) s fun t4 s => (optK (fp 3 t4) s fun t5 s => ((ld1 t5) s fun t6 s =>
 (optK (binV .lss (some (Kd.int .i64)) true t6 (V.int .i64 0)) s fun t7 s => (condV t7
 (K (V.bool false) s)
 (optK (nilV t0) s fun t10 s => (optK (fp 3 t10) s fun t11 s => ((ld1 t11) s fun t12 s =>
 ((f101 t0 t12) s fun t13 s =>
 (optK (nilV t0) s fun t15 s => (optK (fp 2 t15) s fun t16 s => ((st 1 t16 (V.bool true)) s fun _ s =>
 (K (V.bool true) s)))))))))))))
noncomputable def fn55 : V → M := fn55_q fn101
theorem fn55_qe (f101 : M2) (t0 : V) : fn55_q f101 t0 = evF (E55 f101) Tryz.f55 [t0] := by kernel_rfl
theorem fn55_s : SP Tryz.prog 55 (F1 fn55) := mk1 (mkEnv tab (L := L55 fn101) ⟨fn101_s, trivial⟩) Tryz.func55 (by kernel_rfl) (fn55_qe fn101)

/-! 25: (*sealchain/sealchainref13.Disk).Sync -/
def L25 (f55 : M1) : List (Nat × (List V → M)) := [(55, F1 f55)]
def E25 (f55 : M1) : Env := ⟨ty, tabC (L25 f55), meth, tabL [], tabL []⟩
noncomputable def fn25_q (f55 : M1) (t0 : V) : M := fun s K =>
 (optK (nilV t0) s fun t4 s => (optK (fp 2 t4) s fun t5 s => ((ld1 t5) s fun t6 s =>
 (grd t6
 (K (V.int .i64 130) s)
 ((f55 t0) s fun t9 s =>
 (condV t9
 (K (V.int .i64 130) s)
 (optK (nilV t0) s fun t13 s => (optK (fp 0 t13) s fun t14 s => ((ld1 t14) s fun t15 s =>
 (optK (lenV (some (Kd.slice 5)) t15) s fun t16 s => (optK (nilV t0) s fun t17 s => (optK (fp 1 t17) s fun t18 s => ((st 1 t18 t16) s fun _ s =>
 (K (V.int .i64 0) s))))))))))
 False))))
noncomputable def fn25 : V → M := fn25_q fn55
theorem fn25_qe (f55 : M1) (t0 : V) : fn25_q f55 t0 = evF (E25 f55) Tryz.f25 [t0] := by kernel_rfl
theorem fn25_s : SP Tryz.prog 25 (F1 fn25) := mk1 (mkEnv tab (L := L25 fn55) ⟨fn55_s, trivial⟩) Tryz.func25 (by kernel_rfl) (fn25_qe fn55)

/-! 32: (*sealchain/disk.Disk).Revive -/
def L32 (f64 : M1) (f38 : M1) : List (Nat × (List V → M)) := [(64, F1 f64), (38, F1 f38)]
def E32 (f64 : M1) (f38 : M1) : Env := ⟨ty, tabC (L32 f64 f38), meth, tabL [], tabL []⟩
noncomputable def fn32_q (f64 : M1) (f38 : M1) (t0 : V) : M := fun s K =>
 ((f64 t0) s fun t4 s =>
 (condV t4
 (K (V.int .i64 1) s)
 (optK (nilV t0) s fun t7 s => (optK (fp 2 t7) s fun t8 s => ((st 1 t8 (V.bool false)) s fun _ s =>
 (optK (nilV t0) s fun t9 s => (optK (fp 3 t9) s fun t10 s => ((st 1 t10 (V.func (.func 38) [] [])) s fun _ s =>
 (K (V.int .i64 0) s)))))))))
noncomputable def fn32 : V → M := fn32_q fn64 fn38
theorem fn32_qe (f64 : M1) (f38 : M1) (t0 : V) : fn32_q f64 f38 t0 = evF (E32 f64 f38) Tryz.f32 [t0] := by kernel_rfl
theorem fn32_s : SP Tryz.prog 32 (F1 fn32) := mk1 (mkEnv tab (L := L32 fn64 fn38) ⟨fn64_s, fn38_s, trivial⟩) Tryz.func32 (by kernel_rfl) (fn32_qe fn64 fn38)

/-! 56: (*sealchain/sealchainref13.Disk).Revive -/
def L56 : List (Nat × (List V → M)) := []
def E56 : Env := ⟨ty, tabC (L56), meth, tabL [], tabL []⟩
noncomputable def fn56_q (t0 : V) : M := fun s K =>
 (optK (nilV t0) s fun t4 s => (optK (fp 2 t4) s fun t5 s => ((st 1 t5 (V.bool false)) s fun _ s =>
 (optK (nilV t0) s fun t7 s => (optK (fp 3 t7) s fun t8 s => ((st 1 t8 (V.int .i64 (-1))) s fun _ s =>
 (K (V.int .i64 0) s)))))))
noncomputable def fn56 : V → M := fn56_q
theorem fn56_qe (t0 : V) : fn56_q t0 = evF (E56) Tryz.f56 [t0] := by kernel_rfl
theorem fn56_s : SP Tryz.prog 56 (F1 fn56) := mk1 (mkEnv tab (L := L56) trivial) Tryz.func56 (by kernel_rfl) (fn56_qe)

/-! 59: sealchain/sealchainref00.EqBytes -/
def L59 : List (Nat × (List V → M)) := []
def E59 : Env := ⟨ty, tabC (L59), meth, tabL [], tabL []⟩
noncomputable def fn59_q (t0 t1 : V) : M := fun s K =>
 ((cvtS (Kd.slice 5) t0) s fun t6 s =>
 ((cvtS (Kd.slice 5) t1) s fun t8 s =>
 (optK (binV .eql (some Kd.str) false t6 t8) s fun t9 s => (K t9 s))))
noncomputable def fn59 : V → V → M := fn59_q
theorem fn59_qe (t0 t1 : V) : fn59_q t0 t1 = evF (E59) Tryz.f59 [t0, t1] := by kernel_rfl
theorem fn59_s : SP Tryz.prog 59 (F2 fn59) := mk2 (mkEnv tab (L := L59) trivial) Tryz.func59 (by kernel_rfl) (fn59_qe)

/-! 129: sealchain/sealchainref14.Scan -/
def L129 (f54 : M1) (f21 : M1) (f59 : M2) : List (Nat × (List V → M)) := [(54, F1 f54), (21, F1 f21), (59, F2 f59)]
def E129 (f54 : M1) (f21 : M1) (f59 : M2) : Env := ⟨ty, tabC (L129 f54 f21 f59), meth, tabL [(3, [0, 5, 6])], tabL [(3, [2, 3, 4, 5, 6])]⟩
noncomputable def fn129_L1 (f54 : M1) (f21 : M1) (f59 : M2) (t0 t5 t6 : V) : AS → KX → Prop := fun s K =>
 (optK (lenV (some (Kd.slice 5)) t0) s fun t12 s => (optK (binV .sub (some (Kd.int .i64)) false t12 t6) s fun t14 s => (optK (binV .geq (some (Kd.int .i64)) true t14 (V.int .i64 4)) s fun t15 s => (condV t15
 (optK (elemPtr none 1 t0 t6) s fun t18 s => ((ld1 t18) s fun t19 s1 =>
 ((cvt (Kd.int .u8) (Kd.int .i64) t19) s1 fun t20 s1 =>
 (optK (binV .mul (some (Kd.int .i64)) true (V.int .i64 256) t20) s1 fun t21 s1 => (optK (binV .add (some (Kd.int .i64)) true t6 (V.int .i64 1)) s1 fun t24 s1 => (optK (elemPtr none 1 t0 t24) s1 fun t25 s1 => ((ld1 t25) s1 fun t26 s2 =>
 ((cvt (Kd.int .u8) (Kd.int .i64) t26) s2 fun t27 s2 =>
 (optK (binV .add (some (Kd.int .i64)) false t21 t27) s2 fun t28 s2 => (optK (binV .add (some (Kd.int .i64)) true t6 (V.int .i64 2)) s2 fun t31 s2 => (optK (elemPtr none 1 t0 t31) s2 fun t32 s2 => ((ld1 t32) s2 fun t33 s3 =>
 ((cvt (Kd.int .u8) (Kd.int .i64) t33) s3 fun t34 s3 =>
 (optK (binV .mul (some (Kd.int .i64)) true (V.int .i64 256) t34) s3 fun t35 s3 => (optK (binV .add (some (Kd.int .i64)) true t6 (V.int .i64 3)) s3 fun t38 s3 => (optK (elemPtr none 1 t0 t38) s3 fun t39 s3 => ((ld1 t39) s3 fun t40 s4 =>
 ((cvt (Kd.int .u8) (Kd.int .i64) t40) s4 fun t41 s4 =>
 (optK (binV .add (some (Kd.int .i64)) false t35 t41) s4 fun t42 s4 => (optK (binV .sub (some (Kd.int .i64)) true (V.int .i64 65535) t28) s4 fun t44 s4 => (optK (binV .neq (some (Kd.int .i64)) false t42 t44) s4 fun t45 s4 => (condV t45
 (K .ret (V.junk :: (V.junk :: (t5 :: (t6 :: ((V.int .i64 140) :: (t5 :: (t6 :: (jk 90 [])))))))) s4)
 (optK (lenV (some (Kd.slice 5)) t0) s4 fun t49 s4 => (optK (binV .sub (some (Kd.int .i64)) false t49 t6) s4 fun t51 s4 => (optK (binV .add (some (Kd.int .i64)) true t28 (V.int .i64 8)) s4 fun t53 s4 => (optK (binV .lss (some (Kd.int .i64)) false t51 t53) s4 fun t54 s4 => (condV t54
 (K .ret (V.junk :: (V.junk :: (t5 :: (t6 :: ((V.int .i64 0) :: (t5 :: (t6 :: (jk 90 [])))))))) s4)
 (optK (binV .add (some (Kd.int .i64)) true t6 (V.int .i64 4)) s4 fun t59 s4 => (optK (binV .add (some (Kd.int .i64)) true t6 (V.int .i64 4)) s4 fun t61 s4 => (optK (binV .add (some (Kd.int .i64)) false t61 t28) s4 fun t63 s4 => (optK (sliceSl 1 t0 (some t59) (some t63) none) s4 fun t64 s4 => ((f54 t64) s4 fun t65 s4 =>
 ((f21 t65) s4 fun t68 s4 =>
 (optK (extractV t68 0) s4 fun t69 s4 => (optK (extractV t68 1) s4 fun t70 s4 => (optK (binV .neq (some (Kd.int .i64)) true t70 (V.int .i64 0)) s4 fun t72 s4 => (grd t72
 (K .ret (V.junk :: (V.junk :: (t5 :: (t6 :: ((V.int .i64 140) :: (t5 :: (t6 :: (jk 90 [])))))))) s4)
 (optK (binV .add (some (Kd.int .i64)) false t6 t28) s4 fun t79 s4 => (optK (binV .add (some (Kd.int .i64)) true t79 (V.int .i64 8)) s4 fun t80 s4 => (optK (sliceSl 1 t0 (some t6) (some t80) none) s4 fun t81 s4 => ((f59 t69 t81) s4 fun t82 s4 =>
 (optK (unV .not t82) s4 fun t83 s4 => (condV t83
 (K .ret (V.junk :: (V.junk :: (t5 :: (t6 :: ((V.int .i64 140) :: (t5 :: (t6 :: (jk 90 [])))))))) s4)
 ((bsl 1 [(V.slice none 0 0 true)] 1 [(0, t65)]) s4 fun t89 s4 =>
 ((app 1 24 t5 t89) s4 fun t90 s4 =>
 (optK (binV .add (some (Kd.int .i64)) false t6 t28) s4 fun t93 s4 => (optK (binV .add (some (Kd.int .i64)) true t93 (V.int .i64 8)) s4 fun t94 s4 => (K .nrm (t0 :: (jk 4 (t90 :: (t94 :: (jk 90 []))))) s4)))))))))))
 False)))))))))))))))))))))))))))))))))))))
 (K (.exit 0) (jk 5 (t5 :: (t6 :: (jk 90 [])))) s)))))
noncomputable def fn129_q (f54 : M1) (f21 : M1) (f59 : M2) (t0 : V) : M := fun s K =>
 (loopN LOOPS (fun tm s K => fn129_L1 f54 f21 f59 (tm.getD 0 .junk) (tm.getD 5 .junk) (tm.getD 6 .junk) s K) (t0 :: (jk 4 ((V.slice none 0 0 true) :: ((V.int .i64 0) :: (jk 90 []))))) s (fun e tm s => exX e (fun j1 => (exB (j1 == 0)
 (K (V.tuple [(tm.getD 5 .junk), (tm.getD 6 .junk), (V.int .i64 0)]) s)
 False)) (K (V.tuple [(tm.getD 2 .junk), (tm.getD 3 .junk), (tm.getD 4 .junk)]) s)))
noncomputable def fn129 : V → M := fn129_q fn54 fn21 fn59
theorem fn129_qe (f54 : M1) (f21 : M1) (f59 : M2) (t0 : V) : fn129_q f54 f21 f59 t0 = evF (E129 f54 f21 f59) Tryz.f129 [t0] := by kernel_rfl
theorem fn129_s : SP Tryz.prog 129 (F1 fn129) := mk1 (mkEnv tab (L := L129 fn54 fn21 fn59) ⟨fn54_s, fn21_s, fn59_s, trivial⟩) Tryz.func129 (by kernel_rfl) (fn129_qe fn54 fn21 fn59)

/-! 130: (*sealchain/sealchainref13.Disk).Cut -/
def L130 (f54 : M1) : List (Nat × (List V → M)) := [(54, F1 f54)]
def E130 (f54 : M1) : Env := ⟨ty, tabC (L130 f54), meth, tabL [], tabL []⟩
noncomputable def fn130_q (f54 : M1) (t0 t1 : V) : M := fun s K =>
 (optK (nilV t0) s fun t6 s => (optK (fp 2 t6) s fun t7 s => ((ld1 t7) s fun t8 s =>
 (condV t8
 (K (V.int .i64 130) s)
 (optK (binV .lss (some (Kd.int .i64)) true t1 (V.int .i64 0)) s fun t10 s => (grd t10
 (K (V.int .i64 9) s)
 (optK (nilV t0) s fun t14 s => (optK (fp 0 t14) s fun t15 s => ((ld1 t15) s fun t16 s =>
 (optK (lenV (some (Kd.slice 5)) t16) s fun t17 s => (optK (binV .gtr (some (Kd.int .i64)) false t1 t17) s fun t18 s => (condV t18
 (K (V.int .i64 9) s)
 (optK (nilV t0) s fun t22 s => (optK (fp 0 t22) s fun t23 s => ((ld1 t23) s fun t24 s =>
 (optK (sliceSl 1 t24 none (some t1) none) s fun t26 s => ((f54 t26) s fun t27 s =>
 (optK (nilV t0) s fun t28 s => (optK (fp 0 t28) s fun t29 s => ((st 1 t29 t27) s fun _ s =>
 (optK (nilV t0) s fun t32 s => (optK (fp 1 t32) s fun t33 s => ((st 1 t33 t1) s fun _ s =>
 (K (V.int .i64 0) s))))))))))))))))))
 False))))))
noncomputable def fn130 : V → V → M := fn130_q fn54
theorem fn130_qe (f54 : M1) (t0 t1 : V) : fn130_q f54 t0 t1 = evF (E130 f54) Tryz.f130 [t0, t1] := by kernel_rfl
theorem fn130_s : SP Tryz.prog 130 (F2 fn130) := mk2 (mkEnv tab (L := L130 fn54) ⟨fn54_s, trivial⟩) Tryz.func130 (by kernel_rfl) (fn130_qe fn54)

/-! 102: sealchain/sealchainref14.Open -/
def L102 (f129 : M1) (f130 : M2) : List (Nat × (List V → M)) := [(129, F1 f129), (130, F2 f130)]
def E102 (f129 : M1) (f130 : M2) : Env := ⟨ty, tabC (L102 f129 f130), meth, tabL [], tabL []⟩
noncomputable def fn102_q (f129 : M1) (f130 : M2) (t0 : V) : M := fun s K =>
 (optK (binV .eql (some (Kd.ptr 99)) true t0 (V.ptr none)) s fun t8 s => (condV t8
 (K (V.tuple [(V.ptr none), (V.int .i64 1)]) s)
 (optK (nilV t0) s fun t10 s => (optK (fp 2 t10) s fun t11 s => ((ld1 t11) s fun t12 s =>
 (condV t12
 (K (V.tuple [(V.ptr none), (V.int .i64 130)]) s)
 (optK (nilV t0) s fun t15 s => (optK (fp 0 t15) s fun t16 s => ((ld1 t16) s fun t17 s =>
 ((f129 t17) s fun t18 s =>
 (optK (extractV t18 0) s fun t19 s => (optK (extractV t18 1) s fun t20 s => (optK (extractV t18 2) s fun t21 s => (optK (binV .neq (some (Kd.int .i64)) true t21 (V.int .i64 0)) s fun t23 s => (condV t23
 (K (V.tuple [(V.ptr none), t21]) s)
 ((f130 t0 t20) s fun t27 s =>
 (optK (aggO (fillV (placeS [(0, 54), (1, 52), (2, 4)] ty) [(V.ptr none), (V.slice none 0 0 true), (V.bool false)] [(0, t0), (1, t19)])) s fun t30 s => ((boxV t30) s fun t31 s =>
 (K (V.tuple [t31, (V.int .i64 0)]) s)))))))))))))))))))
noncomputable def fn102 : V → M := fn102_q fn129 fn130
theorem fn102_qe (f129 : M1) (f130 : M2) (t0 : V) : fn102_q f129 f130 t0 = evF (E102 f129 f130) Tryz.f102 [t0] := by kernel_rfl
theorem fn102_s : SP Tryz.prog 102 (F1 fn102) := mk1 (mkEnv tab (L := L102 fn129 fn130) ⟨fn129_s, fn130_s, trivial⟩) Tryz.func102 (by kernel_rfl) (fn102_qe fn129 fn130)

/-! 131: sealchain/sealchainref01.Read -/
def L131 (f54 : M1) : List (Nat × (List V → M)) := [(54, F1 f54)]
def E131 (f54 : M1) : Env := ⟨ty, tabC (L131 f54), meth, tabL [], tabL []⟩
noncomputable def fn131_q (f54 : M1) (t0 : V) : M := fun s K =>
 ((f54 t0) s fun t4 s =>
 (optK (aggO (fillV (placeS [(0, 59), (1, 24)] ty) [(V.slice none 0 0 true), (V.int .i64 0)] [(0, t4)])) s fun t5 s => ((boxV t5) s fun t6 s =>
 (K t6 s))))
noncomputable def fn131 : V → M := fn131_q fn54
theorem fn131_qe (f54 : M1) (t0 : V) : fn131_q f54 t0 = evF (E131 f54) Tryz.f131 [t0] := by kernel_rfl
theorem fn131_s : SP Tryz.prog 131 (F1 fn131) := mk1 (mkEnv tab (L := L131 fn54) ⟨fn54_s, trivial⟩) Tryz.func131 (by kernel_rfl) (fn131_qe fn54)

/-! 145: sealchain/sealchainref01.wide -/
def L145 : List (Nat × (List V → M)) := []
def E145 : Env := ⟨ty, tabC (L145), meth, tabL [], tabL []⟩
noncomputable def fn145_q (t0 : V) : M := fun s K =>
 (optK (binV .eql (some (Kd.int .i64)) true t0 (V.int .i64 1)) s fun t4 s => (grd t4
 (K (V.bool true) s)
 (optK (binV .eql (some (Kd.int .i64)) true t0 (V.int .i64 2)) s fun t7 s => (grd t7
 (K (V.bool true) s)
 (optK (binV .eql (some (Kd.int .i64)) true t0 (V.int .i64 4)) s fun t11 s => (grd t11
 (K (V.bool true) s)
 (optK (binV .eql (some (Kd.int .i64)) true t0 (V.int .i64 8)) s fun t15 s => (K t15 s))
 False))
 False))
 False))
noncomputable def fn145 : V → M := fn145_q
theorem fn145_qe (t0 : V) : fn145_q t0 = evF (E145) Tryz.f145 [t0] := by kernel_rfl
theorem fn145_s : SP Tryz.prog 145 (F1 fn145) := mk1 (mkEnv tab (L := L145) trivial) Tryz.func145 (by kernel_rfl) (fn145_qe)

/-! 146: (*sealchain/sealchainref01.Reader).fail -/
def L146 : List (Nat × (List V → M)) := []
def E146 : Env := ⟨ty, tabC (L146), meth, tabL [], tabL []⟩
noncomputable def fn146_q (t0 t1 : V) : M := fun s K =>
 (optK (nilV t0) s fun t5 s => (optK (fp 1 t5) s fun t6 s => ((ld1 t6) s fun t7 s =>
 (optK (binV .eql (some (Kd.int .i64)) true t7 (V.int .i64 0)) s fun t8 s => (condV t8
 (optK (nilV t0) s fun t11 s => (optK (fp 1 t11) s fun t12 s => ((st 1 t12 t1) s fun _ s =>
 (optK (nilV t0) s fun t14 s => (optK (fp 0 t14) s fun t15 s => ((st 1 t15 (V.slice none 0 0 true)) s fun _ s =>
 (K (V.tuple []) s)))))))
 (optK (nilV t0) s fun t14 s => (optK (fp 0 t14) s fun t15 s => ((st 1 t15 (V.slice none 0 0 true)) s fun _ s =>
 (K (V.tuple []) s)))))))))
noncomputable def fn146 : V → V → M := fn146_q
theorem fn146_qe (t0 t1 : V) : fn146_q t0 t1 = evF (E146) Tryz.f146 [t0, t1] := by kernel_rfl
theorem fn146_s : SP Tryz.prog 146 (F2 fn146) := mk2 (mkEnv tab (L := L146) trivial) Tryz.func146 (by kernel_rfl) (fn146_qe)

/-! 147: (*sealchain/sealchainref01.Reader).Raw -/
def L147 (f146 : M2) (f54 : M1) : List (Nat × (List V → M)) := [(146, F2 f146), (54, F1 f54)]
def E147 (f146 : M2) (f54 : M1) : Env := ⟨ty, tabC (L147 f146 f54), meth, tabL [], tabL []⟩
noncomputable def fn147_q (f146 : M2) (f54 : M1) (t0 t1 : V) : M := fun s K =>
 (optK (nilV t0) s fun t7 s => (optK (fp 1 t7) s fun t8 s => ((ld1 t8) s fun t9 s =>
 (optK (binV .eql (some (Kd.int .i64)) true t9 (V.int .i64 0)) s fun t10 s => (grd t10
 (optK (binV .lss (some (Kd.int .i64)) true t1 (V.int .i64 0)) s fun t13 s => (condV t13
 ((f146 t0 (V.int .i64 2)) s fun t16 s =>
 (optK (nilV t0) s fun t18 s => (optK (fp 1 t18) s fun t19 s => ((ld1 t19) s fun t20 s =>
 (optK (binV .eql (some (Kd.int .i64)) true t20 (V.int .i64 0)) s fun t21 s => (grd t21
 (optK (nilV t0) s fun t24 s => (optK (fp 0 t24) s fun t25 s => ((ld1 t25) s fun t26 s =>
 (optK (lenV (some (Kd.slice 5)) t26) s fun t27 s => (optK (binV .lss (some (Kd.int .i64)) false t27 t1) s fun t29 s => (condV t29
 ((f146 t0 (V.int .i64 3)) s fun t32 s =>
 (optK (nilV t0) s fun t34 s => (optK (fp 1 t34) s fun t35 s => ((ld1 t35) s fun t36 s =>
 (optK (binV .neq (some (Kd.int .i64)) true t36 (V.int .i64 0)) s fun t37 s => (condV t37
 (K (V.slice none 0 0 true) s)
 (optK (nilV t0) s fun t39 s => (optK (fp 0 t39) s fun t40 s => ((ld1 t40) s fun t41 s =>
 (optK (sliceSl 1 t41 none (some t1) none) s fun t43 s => ((f54 t43) s fun t44 s =>
 (optK (nilV t0) s fun t47 s => (optK (fp 0 t47) s fun t48 s => ((ld1 t48) s fun t49 s =>
 (optK (sliceSl 1 t49 (some t1) none none) s fun t51 s => (optK (nilV t0) s fun t52 s => (optK (fp 0 t52) s fun t53 s => ((st 1 t53 t51) s fun _ s =>
 (K t44 s)))))))))))))))))))
 (optK (nilV t0) s fun t34 s => (optK (fp 1 t34) s fun t35 s => ((ld1 t35) s fun t36 s =>
 (optK (binV .neq (some (Kd.int .i64)) true t36 (V.int .i64 0)) s fun t37 s => (condV t37
 (K (V.slice none 0 0 true) s)
 (optK (nilV t0) s fun t39 s => (optK (fp 0 t39) s fun t40 s => ((ld1 t40) s fun t41 s =>
 (optK (sliceSl 1 t41 none (some t1) none) s fun t43 s => ((f54 t43) s fun t44 s =>
 (optK (nilV t0) s fun t47 s => (optK (fp 0 t47) s fun t48 s => ((ld1 t48) s fun t49 s =>
 (optK (sliceSl 1 t49 (some t1) none none) s fun t51 s => (optK (nilV t0) s fun t52 s => (optK (fp 0 t52) s fun t53 s => ((st 1 t53 t51) s fun _ s =>
 (K t44 s))))))))))))))))))))))))
 (optK (nilV t0) s fun t34 s => (optK (fp 1 t34) s fun t35 s => ((ld1 t35) s fun t36 s =>
 (optK (binV .neq (some (Kd.int .i64)) true t36 (V.int .i64 0)) s fun t37 s => (condV t37
 (K (V.slice none 0 0 true) s)
 (optK (nilV t0) s fun t39 s => (optK (fp 0 t39) s fun t40 s => ((ld1 t40) s fun t41 s =>
 (optK (sliceSl 1 t41 none (some t1) none) s fun t43 s => ((f54 t43) s fun t44 s =>
 (optK (nilV t0) s fun t47 s => (optK (fp 0 t47) s fun t48 s => ((ld1 t48) s fun t49 s =>
 (optK (sliceSl 1 t49 (some t1) none none) s fun t51 s => (optK (nilV t0) s fun t52 s => (optK (fp 0 t52) s fun t53 s => ((st 1 t53 t51) s fun _ s =>
 (K t44 s))))))))))))))))))
 False))))))
 (optK (nilV t0) s fun t18 s => (optK (fp 1 t18) s fun t19 s => ((ld1 t19) s fun t20 s =>
 (optK (binV .eql (some (Kd.int .i64)) true t20 (V.int .i64 0)) s fun t21 s => (grd t21
 (optK (nilV t0) s fun t24 s => (optK (fp 0 t24) s fun t25 s => ((ld1 t25) s fun t26 s =>
 (optK (lenV (some (Kd.slice 5)) t26) s fun t27 s => (optK (binV .lss (some (Kd.int .i64)) false t27 t1) s fun t29 s => (condV t29
 ((f146 t0 (V.int .i64 3)) s fun t32 s =>
 (optK (nilV t0) s fun t34 s => (optK (fp 1 t34) s fun t35 s => ((ld1 t35) s fun t36 s =>
 (optK (binV .neq (some (Kd.int .i64)) true t36 (V.int .i64 0)) s fun t37 s => (condV t37
 (K (V.slice none 0 0 true) s)
 (optK (nilV t0) s fun t39 s => (optK (fp 0 t39) s fun t40 s => ((ld1 t40) s fun t41 s =>
 (optK (sliceSl 1 t41 none (some t1) none) s fun t43 s => ((f54 t43) s fun t44 s =>
 (optK (nilV t0) s fun t47 s => (optK (fp 0 t47) s fun t48 s => ((ld1 t48) s fun t49 s =>
 (optK (sliceSl 1 t49 (some t1) none none) s fun t51 s => (optK (nilV t0) s fun t52 s => (optK (fp 0 t52) s fun t53 s => ((st 1 t53 t51) s fun _ s =>
 (K t44 s)))))))))))))))))))
 (optK (nilV t0) s fun t34 s => (optK (fp 1 t34) s fun t35 s => ((ld1 t35) s fun t36 s =>
 (optK (binV .neq (some (Kd.int .i64)) true t36 (V.int .i64 0)) s fun t37 s => (condV t37
 (K (V.slice none 0 0 true) s)
 (optK (nilV t0) s fun t39 s => (optK (fp 0 t39) s fun t40 s => ((ld1 t40) s fun t41 s =>
 (optK (sliceSl 1 t41 none (some t1) none) s fun t43 s => ((f54 t43) s fun t44 s =>
 (optK (nilV t0) s fun t47 s => (optK (fp 0 t47) s fun t48 s => ((ld1 t48) s fun t49 s =>
 (optK (sliceSl 1 t49 (some t1) none none) s fun t51 s => (optK (nilV t0) s fun t52 s => (optK (fp 0 t52) s fun t53 s => ((st 1 t53 t51) s fun _ s =>
 (K t44 s))))))))))))))))))))))))
 (optK (nilV t0) s fun t34 s => (optK (fp 1 t34) s fun t35 s => ((ld1 t35) s fun t36 s =>
 (optK (binV .neq (some (Kd.int .i64)) true t36 (V.int .i64 0)) s fun t37 s => (condV t37
 (K (V.slice none 0 0 true) s)
 (optK (nilV t0) s fun t39 s => (optK (fp 0 t39) s fun t40 s => ((ld1 t40) s fun t41 s =>
 (optK (sliceSl 1 t41 none (some t1) none) s fun t43 s => ((f54 t43) s fun t44 s =>
 (optK (nilV t0) s fun t47 s => (optK (fp 0 t47) s fun t48 s => ((ld1 t48) s fun t49 s =>
 (optK (sliceSl 1 t49 (some t1) none none) s fun t51 s => (optK (nilV t0) s fun t52 s => (optK (fp 0 t52) s fun t53 s => ((st 1 t53 t51) s fun _ s =>
 (K t44 s))))))))))))))))))
 False)))))))
 (optK (nilV t0) s fun t18 s => (optK (fp 1 t18) s fun t19 s => ((ld1 t19) s fun t20 s =>
 (optK (binV .eql (some (Kd.int .i64)) true t20 (V.int .i64 0)) s fun t21 s => (grd t21
 (optK (nilV t0) s fun t24 s => (optK (fp 0 t24) s fun t25 s => ((ld1 t25) s fun t26 s =>
 (optK (lenV (some (Kd.slice 5)) t26) s fun t27 s => (optK (binV .lss (some (Kd.int .i64)) false t27 t1) s fun t29 s => (condV t29
 ((f146 t0 (V.int .i64 3)) s fun t32 s =>
 (optK (nilV t0) s fun t34 s => (optK (fp 1 t34) s fun t35 s => ((ld1 t35) s fun t36 s =>
 (optK (binV .neq (some (Kd.int .i64)) true t36 (V.int .i64 0)) s fun t37 s => (condV t37
 (K (V.slice none 0 0 true) s)
 (optK (nilV t0) s fun t39 s => (optK (fp 0 t39) s fun t40 s => ((ld1 t40) s fun t41 s =>
 (optK (sliceSl 1 t41 none (some t1) none) s fun t43 s => ((f54 t43) s fun t44 s =>
 (optK (nilV t0) s fun t47 s => (optK (fp 0 t47) s fun t48 s => ((ld1 t48) s fun t49 s =>
 (optK (sliceSl 1 t49 (some t1) none none) s fun t51 s => (optK (nilV t0) s fun t52 s => (optK (fp 0 t52) s fun t53 s => ((st 1 t53 t51) s fun _ s =>
 (K t44 s)))))))))))))))))))
 (optK (nilV t0) s fun t34 s => (optK (fp 1 t34) s fun t35 s => ((ld1 t35) s fun t36 s =>
 (optK (binV .neq (some (Kd.int .i64)) true t36 (V.int .i64 0)) s fun t37 s => (condV t37
 (K (V.slice none 0 0 true) s)
 (optK (nilV t0) s fun t39 s => (optK (fp 0 t39) s fun t40 s => ((ld1 t40) s fun t41 s =>
 (optK (sliceSl 1 t41 none (some t1) none) s fun t43 s => ((f54 t43) s fun t44 s =>
 (optK (nilV t0) s fun t47 s => (optK (fp 0 t47) s fun t48 s => ((ld1 t48) s fun t49 s =>
 (optK (sliceSl 1 t49 (some t1) none none) s fun t51 s => (optK (nilV t0) s fun t52 s => (optK (fp 0 t52) s fun t53 s => ((st 1 t53 t51) s fun _ s =>
 (K t44 s))))))))))))))))))))))))
 (optK (nilV t0) s fun t34 s => (optK (fp 1 t34) s fun t35 s => ((ld1 t35) s fun t36 s =>
 (optK (binV .neq (some (Kd.int .i64)) true t36 (V.int .i64 0)) s fun t37 s => (condV t37
 (K (V.slice none 0 0 true) s)
 (optK (nilV t0) s fun t39 s => (optK (fp 0 t39) s fun t40 s => ((ld1 t40) s fun t41 s =>
 (optK (sliceSl 1 t41 none (some t1) none) s fun t43 s => ((f54 t43) s fun t44 s =>
 (optK (nilV t0) s fun t47 s => (optK (fp 0 t47) s fun t48 s => ((ld1 t48) s fun t49 s =>
 (optK (sliceSl 1 t49 (some t1) none none) s fun t51 s => (optK (nilV t0) s fun t52 s => (optK (fp 0 t52) s fun t53 s => ((st 1 t53 t51) s fun _ s =>
 (K t44 s))))))))))))))))))
 False)))))
 False)))))
noncomputable def fn147 : V → V → M := fn147_q fn146 fn54
theorem fn147_qe (f146 : M2) (f54 : M1) (t0 t1 : V) : fn147_q f146 f54 t0 t1 = evF (E147 f146 f54) Tryz.f147 [t0, t1] := by kernel_rfl
theorem fn147_s : SP Tryz.prog 147 (F2 fn147) := mk2 (mkEnv tab (L := L147 fn146 fn54) ⟨fn146_s, fn54_s, trivial⟩) Tryz.func147 (by kernel_rfl) (fn147_qe fn146 fn54)

/-! 132: (*sealchain/sealchainref01.Reader).Num -/
def L132 (f145 : M1) (f146 : M2) (f147 : M2) : List (Nat × (List V → M)) := [(145, F1 f145), (146, F2 f146), (147, F2 f147)]
def E132 (f145 : M1) (f146 : M2) (f147 : M2) : Env := ⟨ty, tabC (L132 f145 f146 f147), meth, tabL [(6, [0, 5, 6, 7])], tabL [(6, [0, 6])]⟩
noncomputable def fn132_L1 (f145 : M1) (f146 : M2) (f147 : M2) (t0 t5 t6 t7 : V) : AS → KX → Prop := fun s K =>
 (optK (lenV (some (Kd.slice 5)) t5) s fun t25 s => (optK (binV .lss (some (Kd.int .i64)) false t7 t25) s fun t26 s => (condV t26
 (optK (binV .mul (some (Kd.int .u64)) true (V.int .u64 256) t6) s fun t30 s => (optK (elemPtr none 1 t5 t7) s fun t33 s => ((ld1 t33) s fun t34 s =>
 ((cvt (Kd.int .u8) (Kd.int .u64) t34) s fun t35 s =>
 (optK (binV .add (some (Kd.int .u64)) false t30 t35) s fun t36 s => (optK (binV .add (some (Kd.int .i64)) true t7 (V.int .i64 1)) s fun t28 s => (K .nrm (t0 :: (jk 4 (t5 :: (t36 :: (t28 :: (jk 35 [])))))) s)))))))
 (K (.exit 0) (t0 :: (jk 5 (t6 :: (jk 36 [])))) s))))
noncomputable def fn132_q (f145 : M1) (f146 : M2) (f147 : M2) (t0 t1 : V) : M := fun s K =>
 (optK (nilV t0) s fun t9 s => (optK (fp 1 t9) s fun t10 s => ((ld1 t10) s fun t11 s =>
 (optK (binV .eql (some (Kd.int .i64)) true t11 (V.int .i64 0)) s fun t12 s => (grd t12
 ((f145 t1) s fun t15 s =>
 (optK (unV .not t15) s fun t16 s => (condV t16
 ((f146 t0 (V.int .i64 2)) s fun t19 s =>
 ((f147 t0 t1) s fun t22 s =>
 (loopN LOOPS (fun tm s K => fn132_L1 f145 f146 f147 (tm.getD 0 .junk) (tm.getD 5 .junk) (tm.getD 6 .junk) (tm.getD 7 .junk) s K) (t0 :: (jk 4 (t22 :: ((V.int .u64 0) :: ((V.int .i64 0) :: (jk 35 [])))))) s (fun e tm s => exX e (fun j1 => (exB (j1 == 0)
 (optK (binV .gtr (some (Kd.int .u64)) true (tm.getD 6 .junk) (V.int .u64 9007199254740991)) s fun t38 s => (condV t38
 ((f146 (tm.getD 0 .junk) (V.int .i64 9)) s fun t40 s =>
 (K (V.int .i64 0) s))
 ((cvt (Kd.int .u64) (Kd.int .i64) (tm.getD 6 .junk)) s fun t42 s =>
 (K t42 s))))
 False)) (K V.junk s)))))
 ((f147 t0 t1) s fun t22 s =>
 (loopN LOOPS (fun tm s K => fn132_L1 f145 f146 f147 (tm.getD 0 .junk) (tm.getD 5 .junk) (tm.getD 6 .junk) (tm.getD 7 .junk) s K) (t0 :: (jk 4 (t22 :: ((V.int .u64 0) :: ((V.int .i64 0) :: (jk 35 [])))))) s (fun e tm s => exX e (fun j1 => (exB (j1 == 0)
 (optK (binV .gtr (some (Kd.int .u64)) true (tm.getD 6 .junk) (V.int .u64 9007199254740991)) s fun t38 s => (condV t38
 ((f146 (tm.getD 0 .junk) (V.int .i64 9)) s fun t40 s =>
 (K (V.int .i64 0) s))
 ((cvt (Kd.int .u64) (Kd.int .i64) (tm.getD 6 .junk)) s fun t42 s =>
 (K t42 s))))
 False)) (K V.junk s)))))))
 ((f147 t0 t1) s fun t22 s =>
 (loopN LOOPS (fun tm s K => fn132_L1 f145 f146 f147 (tm.getD 0 .junk) (tm.getD 5 .junk) (tm.getD 6 .junk) (tm.getD 7 .junk) s K) (t0 :: (jk 4 (t22 :: ((V.int .u64 0) :: ((V.int .i64 0) :: (jk 35 [])))))) s (fun e tm s => exX e (fun j1 => (exB (j1 == 0)
 (optK (binV .gtr (some (Kd.int .u64)) true (tm.getD 6 .junk) (V.int .u64 9007199254740991)) s fun t38 s => (condV t38
 ((f146 (tm.getD 0 .junk) (V.int .i64 9)) s fun t40 s =>
 (K (V.int .i64 0) s))
 ((cvt (Kd.int .u64) (Kd.int .i64) (tm.getD 6 .junk)) s fun t42 s =>
 (K t42 s))))
 False)) (K V.junk s))))
 False)))))
noncomputable def fn132 : V → V → M := fn132_q fn145 fn146 fn147
theorem fn132_qe (f145 : M1) (f146 : M2) (f147 : M2) (t0 t1 : V) : fn132_q f145 f146 f147 t0 t1 = evF (E132 f145 f146 f147) Tryz.f132 [t0, t1] := by kernel_rfl
theorem fn132_s : SP Tryz.prog 132 (F2 fn132) := mk2 (mkEnv tab (L := L132 fn145 fn146 fn147) ⟨fn145_s, fn146_s, fn147_s, trivial⟩) Tryz.func132 (by kernel_rfl) (fn132_qe fn145 fn146 fn147)

/-! 133: (*sealchain/sealchainref01.Reader).Count -/
def L133 (f146 : M2) (f147 : M2) : List (Nat × (List V → M)) := [(146, F2 f146), (147, F2 f147)]
def E133 (f146 : M2) (f147 : M2) : Env := ⟨ty, tabC (L133 f146 f147), meth, tabL [(3, [0, 1, 5, 6])], tabL [(3, [4])]⟩
noncomputable def fn133_L1 (f146 : M2) (f147 : M2) (t0 t1 t5 t6 : V) : AS → KX → Prop := fun s K =>
 (optK (nilV t0) s fun t9 s => (optK (fp 1 t9) s fun t10 s => ((ld1 t10) s fun t11 s =>
 (optK (binV .eql (some (Kd.int .i64)) true t11 (V.int .i64 0)) s fun t12 s => (condV t12
 (optK (binV .eql (some (Kd.int .i64)) true t6 (V.int .i64 8)) s fun t16 s => (condV t16
 ((f146 t0 (V.int .i64 4)) s fun t18 s =>
 (K .ret (jk 4 ((V.int .i64 0) :: (jk 51 []))) s))
 ((f147 t0 (V.int .i64 1)) s fun t20 s =>
 (optK (lenV (some (Kd.slice 5)) t20) s fun t22 s => (optK (binV .eql (some (Kd.int .i64)) true t22 (V.int .i64 0)) s fun t23 s => (condV t23
 (K .ret (jk 4 ((V.int .i64 0) :: (jk 51 []))) s)
 (optK (binV .eql (some (Kd.int .i64)) true t6 (V.int .i64 0)) s fun t25 s => (grd t25
 (optK (elemPtr none 1 t20 (V.int .i64 0)) s fun t28 s => ((ld1 t28) s fun t29 s =>
 (optK (binV .eql (some (Kd.int .u8)) true t29 (V.int .u8 128)) s fun t30 s => (condV t30
 ((f146 t0 (V.int .i64 4)) s fun t33 s =>
 (K .ret (jk 4 ((V.int .i64 0) :: (jk 51 []))) s))
 (optK (binV .mul (some (Kd.int .i64)) true (V.int .i64 128) t5) s fun t35 s => (optK (elemPtr none 1 t20 (V.int .i64 0)) s fun t37 s => ((ld1 t37) s fun t38 s =>
 (optK (binV .rem (some (Kd.int .u8)) true t38 (V.int .u8 128)) s fun t39 s => ((cvt (Kd.int .u8) (Kd.int .i64) t39) s fun t40 s =>
 (optK (binV .add (some (Kd.int .i64)) false t35 t40) s fun t41 s => (optK (elemPtr none 1 t20 (V.int .i64 0)) s fun t43 s => ((ld1 t43) s fun t44 s =>
 (optK (binV .geq (some (Kd.int .u8)) true t44 (V.int .u8 128)) s fun t45 s => (condV t45
 (optK (binV .add (some (Kd.int .i64)) true t6 (V.int .i64 1)) s fun t14 s => (K .nrm (t0 :: (t1 :: (jk 3 (t41 :: (t14 :: (jk 49 [])))))) s))
 (optK (binV .gtr (some (Kd.int .i64)) true t41 (V.int .i64 9007199254740991)) s fun t47 s => (condV t47
 ((f146 t0 (V.int .i64 9)) s fun t49 s =>
 (K .ret (jk 4 ((V.int .i64 0) :: (jk 51 []))) s))
 (optK (binV .gtr (some (Kd.int .i64)) false t41 t1) s fun t52 s => (condV t52
 ((f146 t0 (V.int .i64 5)) s fun t54 s =>
 (K .ret (jk 4 ((V.int .i64 0) :: (jk 51 []))) s))
 (K .ret (jk 4 (t41 :: (jk 51 []))) s)))))))))))))))))))
 (optK (binV .mul (some (Kd.int .i64)) true (V.int .i64 128) t5) s fun t35 s => (optK (elemPtr none 1 t20 (V.int .i64 0)) s fun t37 s => ((ld1 t37) s fun t38 s =>
 (optK (binV .rem (some (Kd.int .u8)) true t38 (V.int .u8 128)) s fun t39 s => ((cvt (Kd.int .u8) (Kd.int .i64) t39) s fun t40 s =>
 (optK (binV .add (some (Kd.int .i64)) false t35 t40) s fun t41 s => (optK (elemPtr none 1 t20 (V.int .i64 0)) s fun t43 s => ((ld1 t43) s fun t44 s =>
 (optK (binV .geq (some (Kd.int .u8)) true t44 (V.int .u8 128)) s fun t45 s => (condV t45
 (optK (binV .add (some (Kd.int .i64)) true t6 (V.int .i64 1)) s fun t14 s => (K .nrm (t0 :: (t1 :: (jk 3 (t41 :: (t14 :: (jk 49 [])))))) s))
 (optK (binV .gtr (some (Kd.int .i64)) true t41 (V.int .i64 9007199254740991)) s fun t47 s => (condV t47
 ((f146 t0 (V.int .i64 9)) s fun t49 s =>
 (K .ret (jk 4 ((V.int .i64 0) :: (jk 51 []))) s))
 (optK (binV .gtr (some (Kd.int .i64)) false t41 t1) s fun t52 s => (condV t52
 ((f146 t0 (V.int .i64 5)) s fun t54 s =>
 (K .ret (jk 4 ((V.int .i64 0) :: (jk 51 []))) s))
 (K .ret (jk 4 (t41 :: (jk 51 []))) s)))))))))))))))
 False))))))))
 (K (.exit 0) (jk 56 []) s))))))
noncomputable def fn133_q (f146 : M2) (f147 : M2) (t0 t1 : V) : M := fun s K =>
 (loopN LOOPS (fun tm s K => fn133_L1 f146 f147 (tm.getD 0 .junk) (tm.getD 1 .junk) (tm.getD 5 .junk) (tm.getD 6 .junk) s K) (t0 :: (t1 :: (jk 3 ((V.int .i64 0) :: ((V.int .i64 0) :: (jk 49 [])))))) s (fun e tm s => exX e (fun j1 => (exB (j1 == 0)
 (K (V.int .i64 0) s)
 False)) (K (tm.getD 4 .junk) s)))
noncomputable def fn133 : V → V → M := fn133_q fn146 fn147
theorem fn133_qe (f146 : M2) (f147 : M2) (t0 t1 : V) : fn133_q f146 f147 t0 t1 = evF (E133 f146 f147) Tryz.f133 [t0, t1] := by kernel_rfl
theorem fn133_s : SP Tryz.prog 133 (F2 fn133) := mk2 (mkEnv tab (L := L133 fn146 fn147) ⟨fn146_s, fn147_s, trivial⟩) Tryz.func133 (by kernel_rfl) (fn133_qe fn146 fn147)
end Go.Proofs.Vt
