/- A part of the proofs of the Vote laws: functions of the program in the evaluator's form, printed by a program of the prover's, each equation checked by the kernel. -/
import Derived.Test.YtlmjmjpohjdogaaGreatDoorF0
set_option linter.unusedVariables false
set_option linter.unusedSimpArgs false
/- PRINTED by gen.py. -/
set_option maxRecDepth 100000
namespace Go.Proofs.Vt
open Go Go.Rx Go.Proofs
/-! 164: math/bits.Len32 -/
def L164 : List (Nat × (List V → M)) := []
def E164 : Env := ⟨ty, tabC (L164), meth, tabL [], tabL []⟩
noncomputable def fn164_q (t0 : V) : M := fun s K =>
 (optK (binV .geq (some (Kd.int .u32)) true t0 (V.int .u32 65536)) s fun t4 s => (condV t4
 (optK (binV .shr (some (Kd.int .u32)) true t0 (V.int .u64 16)) s fun t6 s => (optK (binV .geq (some (Kd.int .u32)) true t6 (V.int .u32 256)) s fun t8 s => (condV t8
 (optK (binV .shr (some (Kd.int .u32)) true t6 (V.int .u64 8)) s fun t10 s => (optK (binV .add (some (Kd.int .i64)) true (V.int .i64 16) (V.int .i64 8)) s fun t12 s => ((cvt (Kd.int .u32) (Kd.int .u8) t10) s fun t15 s =>
 (optK (indexS (V.str [0, 1, 2, 2, 3, 3, 3, 3, 4, 4, 4, 4, 4, 4, 4, 4, 5, 5, 5, 5, 5, 5, 5, 5, 5, 5, 5, 5, 5, 5, 5, 5, 6, 6, 6, 6, 6, 6, 6, 6, 6, 6, 6, 6, 6, 6, 6, 6, 6, 6, 6, 6, 6, 6, 6, 6, 6, 6, 6, 6, 6, 6, 6, 6, 7, 7, 7, 7, 7, 7, 7, 7, 7, 7, 7, 7, 7, 7, 7, 7, 7, 7, 7, 7, 7, 7, 7, 7, 7, 7, 7, 7, 7, 7, 7, 7, 7, 7, 7, 7, 7, 7, 7, 7, 7, 7, 7, 7, 7, 7, 7, 7, 7, 7, 7, 7, 7, 7, 7, 7, 7, 7, 7, 7, 7, 7, 7, 7, 8, 8, 8, 8, 8, 8, 8, 8, 8, 8, 8, 8, 8, 8, 8, 8, 8, 8, 8, 8, 8, 8, 8, 8, 8, 8, 8, 8, 8, 8, 8, 8, 8, 8, 8, 8, 8, 8, 8, 8, 8, 8, 8, 8, 8, 8, 8, 8, 8, 8, 8, 8, 8, 8, 8, 8, 8, 8, 8, 8, 8, 8, 8, 8, 8, 8, 8, 8, 8, 8, 8, 8, 8, 8, 8, 8, 8, 8, 8, 8, 8, 8, 8, 8, 8, 8, 8, 8, 8, 8, 8, 8, 8, 8, 8, 8, 8, 8, 8, 8, 8, 8, 8, 8, 8, 8, 8, 8, 8, 8, 8, 8, 8, 8, 8, 8, 8, 8, 8, 8, 8, 8, 8, 8, 8, 8, 8, 8]) t15) s fun t16 s => ((cvt (Kd.int .u8) (Kd.int .i64) t16) s fun t17 s =>
 (optK (binV .add (some (Kd.int .i64)) false t12 t17) s fun t18 s => (K t18 s)))))))
 ((cvt (Kd.int .u32) (Kd.int .u8) t6) s fun t15 s =>
 (optK (indexS (V.str [0, 1, 2, 2, 3, 3, 3, 3, 4, 4, 4, 4, 4, 4, 4, 4, 5, 5, 5, 5, 5, 5, 5, 5, 5, 5, 5, 5, 5, 5, 5, 5, 6, 6, 6, 6, 6, 6, 6, 6, 6, 6, 6, 6, 6, 6, 6, 6, 6, 6, 6, 6, 6, 6, 6, 6, 6, 6, 6, 6, 6, 6, 6, 6, 7, 7, 7, 7, 7, 7, 7, 7, 7, 7, 7, 7, 7, 7, 7, 7, 7, 7, 7, 7, 7, 7, 7, 7, 7, 7, 7, 7, 7, 7, 7, 7, 7, 7, 7, 7, 7, 7, 7, 7, 7, 7, 7, 7, 7, 7, 7, 7, 7, 7, 7, 7, 7, 7, 7, 7, 7, 7, 7, 7, 7, 7, 7, 7, 8, 8, 8, 8, 8, 8, 8, 8, 8, 8, 8, 8, 8, 8, 8, 8, 8, 8, 8, 8, 8, 8, 8, 8, 8, 8, 8, 8, 8, 8, 8, 8, 8, 8, 8, 8, 8, 8, 8, 8, 8, 8, 8, 8, 8, 8, 8, 8, 8, 8, 8, 8, 8, 8, 8, 8, 8, 8, 8, 8, 8, 8, 8, 8, 8, 8, 8, 8, 8, 8, 8, 8, 8, 8, 8, 8, 8, 8, 8, 8, 8, 8, 8, 8, 8, 8, 8, 8, 8, 8, 8, 8, 8, 8, 8, 8, 8, 8, 8, 8, 8, 8, 8, 8, 8, 8, 8, 8, 8, 8, 8, 8, 8, 8, 8, 8, 8, 8, 8, 8, 8, 8, 8, 8, 8, 8, 8, 8]) t15) s fun t16 s => ((cvt (Kd.int .u8) (Kd.int .i64) t16) s fun t17 s =>
 (optK (binV .add (some (Kd.int .i64)) false (V.int .i64 16) t17) s fun t18 s => (K t18 s))))))))
 (optK (binV .geq (some (Kd.int .u32)) true t0 (V.int .u32 256)) s fun t8 s => (condV t8
 (optK (binV .shr (some (Kd.int .u32)) true t0 (V.int .u64 8)) s fun t10 s => (optK (binV .add (some (Kd.int .i64)) true (V.int .i64 0) (V.int .i64 8)) s fun t12 s => ((cvt (Kd.int .u32) (Kd.int .u8) t10) s fun t15 s =>
 (optK (indexS (V.str [0, 1, 2, 2, 3, 3, 3, 3, 4, 4, 4, 4, 4, 4, 4, 4, 5, 5, 5, 5, 5, 5, 5, 5, 5, 5, 5, 5, 5, 5, 5, 5, 6, 6, 6, 6, 6, 6, 6, 6, 6, 6, 6, 6, 6, 6, 6, 6, 6, 6, 6, 6, 6, 6, 6, 6, 6, 6, 6, 6, 6, 6, 6, 6, 7, 7, 7, 7, 7, 7, 7, 7, 7, 7, 7, 7, 7, 7, 7, 7, 7, 7, 7, 7, 7, 7, 7, 7, 7, 7, 7, 7, 7, 7, 7, 7, 7, 7, 7, 7, 7, 7, 7, 7, 7, 7, 7, 7, 7, 7, 7, 7, 7, 7, 7, 7, 7, 7, 7, 7, 7, 7, 7, 7, 7, 7, 7, 7, 8, 8, 8, 8, 8, 8, 8, 8, 8, 8, 8, 8, 8, 8, 8, 8, 8, 8, 8, 8, 8, 8, 8, 8, 8, 8, 8, 8, 8, 8, 8, 8, 8, 8, 8, 8, 8, 8, 8, 8, 8, 8, 8, 8, 8, 8, 8, 8, 8, 8, 8, 8, 8, 8, 8, 8, 8, 8, 8, 8, 8, 8, 8, 8, 8, 8, 8, 8, 8, 8, 8, 8, 8, 8, 8, 8, 8, 8, 8, 8, 8, 8, 8, 8, 8, 8, 8, 8, 8, 8, 8, 8, 8, 8, 8, 8, 8, 8, 8, 8, 8, 8, 8, 8, 8, 8, 8, 8, 8, 8, 8, 8, 8, 8, 8, 8, 8, 8, 8, 8, 8, 8, 8, 8, 8, 8, 8, 8]) t15) s fun t16 s => ((cvt (Kd.int .u8) (Kd.int .i64) t16) s fun t17 s =>
 (optK (binV .add (some (Kd.int .i64)) false t12 t17) s fun t18 s => (K t18 s)))))))
 ((cvt (Kd.int .u32) (Kd.int .u8) t0) s fun t15 s =>
 (optK (indexS (V.str [0, 1, 2, 2, 3, 3, 3, 3, 4, 4, 4, 4, 4, 4, 4, 4, 5, 5, 5, 5, 5, 5, 5, 5, 5, 5, 5, 5, 5, 5, 5, 5, 6, 6, 6, 6, 6, 6, 6, 6, 6, 6, 6, 6, 6, 6, 6, 6, 6, 6, 6, 6, 6, 6, 6, 6, 6, 6, 6, 6, 6, 6, 6, 6, 7, 7, 7, 7, 7, 7, 7, 7, 7, 7, 7, 7, 7, 7, 7, 7, 7, 7, 7, 7, 7, 7, 7, 7, 7, 7, 7, 7, 7, 7, 7, 7, 7, 7, 7, 7, 7, 7, 7, 7, 7, 7, 7, 7, 7, 7, 7, 7, 7, 7, 7, 7, 7, 7, 7, 7, 7, 7, 7, 7, 7, 7, 7, 7, 8, 8, 8, 8, 8, 8, 8, 8, 8, 8, 8, 8, 8, 8, 8, 8, 8, 8, 8, 8, 8, 8, 8, 8, 8, 8, 8, 8, 8, 8, 8, 8, 8, 8, 8, 8, 8, 8, 8, 8, 8, 8, 8, 8, 8, 8, 8, 8, 8, 8, 8, 8, 8, 8, 8, 8, 8, 8, 8, 8, 8, 8, 8, 8, 8, 8, 8, 8, 8, 8, 8, 8, 8, 8, 8, 8, 8, 8, 8, 8, 8, 8, 8, 8, 8, 8, 8, 8, 8, 8, 8, 8, 8, 8, 8, 8, 8, 8, 8, 8, 8, 8, 8, 8, 8, 8, 8, 8, 8, 8, 8, 8, 8, 8, 8, 8, 8, 8, 8, 8, 8, 8, 8, 8, 8, 8, 8, 8]) t15) s fun t16 s => ((cvt (Kd.int .u8) (Kd.int .i64) t16) s fun t17 s =>
 (optK (binV .add (some (Kd.int .i64)) false (V.int .i64 0) t17) s fun t18 s => (K t18 s)))))))))
noncomputable def fn164 : V → M := fn164_q
theorem fn164_qe (t0 : V) : fn164_q t0 = evF (E164) Tryz.f164 [t0] := by kernel_rfl
theorem fn164_s : SP Tryz.prog 164 (F1 fn164) := mk1 (mkEnv tab (L := L164) trivial) Tryz.func164 (by kernel_rfl) (fn164_qe)

/-! 165: math/bits.Len64 -/
def L165 : List (Nat × (List V → M)) := []
def E165 : Env := ⟨ty, tabC (L165), meth, tabL [], tabL []⟩
noncomputable def fn165_q (t0 : V) : M := fun s K =>
 (optK (binV .geq (some (Kd.int .u64)) true t0 (V.int .u64 4294967296)) s fun t4 s => (condV t4
 (optK (binV .shr (some (Kd.int .u64)) true t0 (V.int .u64 32)) s fun t6 s => (optK (binV .geq (some (Kd.int .u64)) true t6 (V.int .u64 65536)) s fun t8 s => (condV t8
 (optK (binV .shr (some (Kd.int .u64)) true t6 (V.int .u64 16)) s fun t10 s => (optK (binV .add (some (Kd.int .i64)) true (V.int .i64 32) (V.int .i64 16)) s fun t12 s => (optK (binV .geq (some (Kd.int .u64)) true t10 (V.int .u64 256)) s fun t14 s => (condV t14
 (optK (binV .shr (some (Kd.int .u64)) true t10 (V.int .u64 8)) s fun t16 s => (optK (binV .add (some (Kd.int .i64)) true t12 (V.int .i64 8)) s fun t18 s => ((cvt (Kd.int .u64) (Kd.int .u8) t16) s fun t21 s =>
 (optK (indexS (V.str [0, 1, 2, 2, 3, 3, 3, 3, 4, 4, 4, 4, 4, 4, 4, 4, 5, 5, 5, 5, 5, 5, 5, 5, 5, 5, 5, 5, 5, 5, 5, 5, 6, 6, 6, 6, 6, 6, 6, 6, 6, 6, 6, 6, 6, 6, 6, 6, 6, 6, 6, 6, 6, 6, 6, 6, 6, 6, 6, 6, 6, 6, 6, 6, 7, 7, 7, 7, 7, 7, 7, 7, 7, 7, 7, 7, 7, 7, 7, 7, 7, 7, 7, 7, 7, 7, 7, 7, 7, 7, 7, 7, 7, 7, 7, 7, 7, 7, 7, 7, 7, 7, 7, 7, 7, 7, 7, 7, 7, 7, 7, 7, 7, 7, 7, 7, 7, 7, 7, 7, 7, 7, 7, 7, 7, 7, 7, 7, 8, 8, 8, 8, 8, 8, 8, 8, 8, 8, 8, 8, 8, 8, 8, 8, 8, 8, 8, 8, 8, 8, 8, 8, 8, 8, 8, 8, 8, 8, 8, 8, 8, 8, 8, 8, 8, 8, 8, 8, 8, 8, 8, 8, 8, 8, 8, 8, 8, 8, 8, 8, 8, 8, 8, 8, 8, 8, 8, 8, 8, 8, 8, 8, 8, 8, 8, 8, 8, 8, 8, 8, 8, 8, 8, 8, 8, 8, 8, 8, 8, 8, 8, 8, 8, 8, 8, 8, 8, 8, 8, 8, 8, 8, 8, 8, 8, 8, 8, 8, 8, 8, 8, 8, 8, 8, 8, 8, 8, 8, 8, 8, 8, 8, 8, 8, 8, 8, 8, 8, 8, 8, 8, 8, 8, 8, 8, 8]) t21) s fun t22 s => ((cvt (Kd.int .u8) (Kd.int .i64) t22) s fun t23 s =>
 (optK (binV .add (some (Kd.int .i64)) false t18 t23) s fun t24 s => (K t24 s)))))))
 ((cvt (Kd.int .u64) (Kd.int .u8) t10) s fun t21 s =>
 (optK (indexS (V.str [0, 1, 2, 2, 3, 3, 3, 3, 4, 4, 4, 4, 4, 4, 4, 4, 5, 5, 5, 5, 5, 5, 5, 5, 5, 5, 5, 5, 5, 5, 5, 5, 6, 6, 6, 6, 6, 6, 6, 6, 6, 6, 6, 6, 6, 6, 6, 6, 6, 6, 6, 6, 6, 6, 6, 6, 6, 6, 6, 6, 6, 6, 6, 6, 7, 7, 7, 7, 7, 7, 7, 7, 7, 7, 7, 7, 7, 7, 7, 7, 7, 7, 7, 7, 7, 7, 7, 7, 7, 7, 7, 7, 7, 7, 7, 7, 7, 7, 7, 7, 7, 7, 7, 7, 7, 7, 7, 7, 7, 7, 7, 7, 7, 7, 7, 7, 7, 7, 7, 7, 7, 7, 7, 7, 7, 7, 7, 7, 8, 8, 8, 8, 8, 8, 8, 8, 8, 8, 8, 8, 8, 8, 8, 8, 8, 8, 8, 8, 8, 8, 8, 8, 8, 8, 8, 8, 8, 8, 8, 8, 8, 8, 8, 8, 8, 8, 8, 8, 8, 8, 8, 8, 8, 8, 8, 8, 8, 8, 8, 8, 8, 8, 8, 8, 8, 8, 8, 8, 8, 8, 8, 8, 8, 8, 8, 8, 8, 8, 8, 8, 8, 8, 8, 8, 8, 8, 8, 8, 8, 8, 8, 8, 8, 8, 8, 8, 8, 8, 8, 8, 8, 8, 8, 8, 8, 8, 8, 8, 8, 8, 8, 8, 8, 8, 8, 8, 8, 8, 8, 8, 8, 8, 8, 8, 8, 8, 8, 8, 8, 8, 8, 8, 8, 8, 8, 8]) t21) s fun t22 s => ((cvt (Kd.int .u8) (Kd.int .i64) t22) s fun t23 s =>
 (optK (binV .add (some (Kd.int .i64)) false t12 t23) s fun t24 s => (K t24 s)))))))))
 (optK (binV .geq (some (Kd.int .u64)) true t6 (V.int .u64 256)) s fun t14 s => (condV t14
 (optK (binV .shr (some (Kd.int .u64)) true t6 (V.int .u64 8)) s fun t16 s => (optK (binV .add (some (Kd.int .i64)) true (V.int .i64 32) (V.int .i64 8)) s fun t18 s => ((cvt (Kd.int .u64) (Kd.int .u8) t16) s fun t21 s =>
 (optK (indexS (V.str [0, 1, 2, 2, 3, 3, 3, 3, 4, 4, 4, 4, 4, 4, 4, 4, 5, 5, 5, 5, 5, 5, 5, 5, 5, 5, 5, 5, 5, 5, 5, 5, 6, 6, 6, 6, 6, 6, 6, 6, 6, 6, 6, 6, 6, 6, 6, 6, 6, 6, 6, 6, 6, 6, 6, 6, 6, 6, 6, 6, 6, 6, 6, 6, 7, 7, 7, 7, 7, 7, 7, 7, 7, 7, 7, 7, 7, 7, 7, 7, 7, 7, 7, 7, 7, 7, 7, 7, 7, 7, 7, 7, 7, 7, 7, 7, 7, 7, 7, 7, 7, 7, 7, 7, 7, 7, 7, 7, 7, 7, 7, 7, 7, 7, 7, 7, 7, 7, 7, 7, 7, 7, 7, 7, 7, 7, 7, 7, 8, 8, 8, 8, 8, 8, 8, 8, 8, 8, 8, 8, 8, 8, 8, 8, 8, 8, 8, 8, 8, 8, 8, 8, 8, 8, 8, 8, 8, 8, 8, 8, 8, 8, 8, 8, 8, 8, 8, 8, 8, 8, 8, 8, 8, 8, 8, 8, 8, 8, 8, 8, 8, 8, 8, 8, 8, 8, 8, 8, 8, 8, 8, 8, 8, 8, 8, 8, 8, 8, 8, 8, 8, 8, 8, 8, 8, 8, 8, 8, 8, 8, 8, 8, 8, 8, 8, 8, 8, 8, 8, 8, 8, 8, 8, 8, 8, 8, 8, 8, 8, 8, 8, 8, 8, 8, 8, 8, 8, 8, 8, 8, 8, 8, 8, 8, 8, 8, 8, 8, 8, 8, 8, 8, 8, 8, 8, 8]) t21) s fun t22 s => ((cvt (Kd.int .u8) (Kd.int .i64) t22) s fun t23 s =>
 (optK (binV .add (some (Kd.int .i64)) false t18 t23) s fun t24 s => (K t24 s)))))))
 ((cvt (Kd.int .u64) (Kd.int .u8) t6) s fun t21 s =>
 (optK (indexS (V.str [0, 1, 2, 2, 3, 3, 3, 3, 4, 4, 4, 4, 4, 4, 4, 4, 5, 5, 5, 5, 5, 5, 5, 5, 5, 5, 5, 5, 5, 5, 5, 5, 6, 6, 6, 6, 6, 6, 6, 6, 6, 6, 6, 6, 6, 6, 6, 6, 6, 6, 6, 6, 6, 6, 6, 6, 6, 6, 6, 6, 6, 6, 6, 6, 7, 7, 7, 7, 7, 7, 7, 7, 7, 7, 7, 7, 7, 7, 7, 7, 7, 7, 7, 7, 7, 7, 7, 7, 7, 7, 7, 7, 7, 7, 7, 7, 7, 7, 7, 7, 7, 7, 7, 7, 7, 7, 7, 7, 7, 7, 7, 7, 7, 7, 7, 7, 7, 7, 7, 7, 7, 7, 7, 7, 7, 7, 7, 7, 8, 8, 8, 8, 8, 8, 8, 8, 8, 8, 8, 8, 8, 8, 8, 8, 8, 8, 8, 8, 8, 8, 8, 8, 8, 8, 8, 8, 8, 8, 8, 8, 8, 8, 8, 8, 8, 8, 8, 8, 8, 8, 8, 8, 8, 8, 8, 8, 8, 8, 8, 8, 8, 8, 8, 8, 8, 8, 8, 8, 8, 8, 8, 8, 8, 8, 8, 8, 8, 8, 8, 8, 8, 8, 8, 8, 8, 8, 8, 8, 8, 8, 8, 8, 8, 8, 8, 8, 8, 8, 8, 8, 8, 8, 8, 8, 8, 8, 8, 8, 8, 8, 8, 8, 8, 8, 8, 8, 8, 8, 8, 8, 8, 8, 8, 8, 8, 8, 8, 8, 8, 8, 8, 8, 8, 8, 8, 8]) t21) s fun t22 s => ((cvt (Kd.int .u8) (Kd.int .i64) t22) s fun t23 s =>
 (optK (binV .add (some (Kd.int .i64)) false (V.int .i64 32) t23) s fun t24 s => (K t24 s))))))))))
 (optK (binV .geq (some (Kd.int .u64)) true t0 (V.int .u64 65536)) s fun t8 s => (condV t8
 (optK (binV .shr (some (Kd.int .u64)) true t0 (V.int .u64 16)) s fun t10 s => (optK (binV .add (some (Kd.int .i64)) true (V.int .i64 0) (V.int .i64 16)) s fun t12 s => (optK (binV .geq (some (Kd.int .u64)) true t10 (V.int .u64 256)) s fun t14 s => (condV t14
 (optK (binV .shr (some (Kd.int .u64)) true t10 (V.int .u64 8)) s fun t16 s => (optK (binV .add (some (Kd.int .i64)) true t12 (V.int .i64 8)) s fun t18 s => ((cvt (Kd.int .u64) (Kd.int .u8) t16) s fun t21 s =>
 (optK (indexS (V.str [0, 1, 2, 2, 3, 3, 3, 3, 4, 4, 4, 4, 4, 4, 4, 4, 5, 5, 5, 5, 5, 5, 5, 5, 5, 5, 5, 5, 5, 5, 5, 5, 6, 6, 6, 6, 6, 6, 6, 6, 6, 6, 6, 6, 6, 6, 6, 6, 6, 6, 6, 6, 6, 6, 6, 6, 6, 6, 6, 6, 6, 6, 6, 6, 7, 7, 7, 7, 7, 7, 7, 7, 7, 7, 7, 7, 7, 7, 7, 7, 7, 7, 7, 7, 7, 7, 7, 7, 7, 7, 7, 7, 7, 7, 7, 7, 7, 7, 7, 7, 7, 7, 7, 7, 7, 7, 7, 7, 7, 7, 7, 7, 7, 7, 7, 7, 7, 7, 7, 7, 7, 7, 7, 7, 7, 7, 7, 7, 8, 8, 8, 8, 8, 8, 8, 8, 8, 8, 8, 8, 8, 8, 8, 8, 8, 8, 8, 8, 8, 8, 8, 8, 8, 8, 8, 8, 8, 8, 8, 8, 8, 8, 8, 8, 8, 8, 8, 8, 8, 8, 8, 8, 8, 8, 8, 8, 8, 8, 8, 8, 8, 8, 8, 8, 8, 8, 8, 8, 8, 8, 8, 8, 8, 8, 8, 8, 8, 8, 8, 8, 8, 8, 8, 8, 8, 8, 8, 8, 8, 8, 8, 8, 8, 8, 8, 8, 8, 8, 8, 8, 8, 8, 8, 8, 8, 8, 8, 8, 8, 8, 8, 8, 8, 8, 8, 8, 8, 8, 8, 8, 8, 8, 8, 8, 8, 8, 8, 8, 8, 8, 8, 8, 8, 8, 8, 8]) t21) s fun t22 s => ((cvt (Kd.int .u8) (Kd.int .i64) t22) s fun t23 s =>
 (optK (binV .add (some (Kd.int .i64)) false t18 t23) s fun t24 s => (K t24 s)))))))
 ((cvt (Kd.int .u64) (Kd.int .u8) t10) s fun t21 s =>
 (optK (indexS (V.str [0, 1, 2, 2, 3, 3, 3, 3, 4, 4, 4, 4, 4, 4, 4, 4, 5, 5, 5, 5, 5, 5, 5, 5, 5, 5, 5, 5, 5, 5, 5, 5, 6, 6, 6, 6, 6, 6, 6, 6, 6, 6, 6, 6, 6, 6, 6, 6, 6, 6, 6, 6, 6, 6, 6, 6, 6, 6, 6, 6, 6, 6, 6, 6, 7, 7, 7, 7, 7, 7, 7, 7, 7, 7, 7, 7, 7, 7, 7, 7, 7, 7, 7, 7, 7, 7, 7, 7, 7, 7, 7, 7, 7, 7, 7, 7, 7, 7, 7, 7, 7, 7, 7, 7, 7, 7, 7, 7, 7, 7, 7, 7, 7, 7, 7, 7, 7, 7, 7, 7, 7, 7, 7, 7, 7, 7, 7, 7, 8, 8, 8, 8, 8, 8, 8, 8, 8, 8, 8, 8, 8, 8, 8, 8, 8, 8, 8, 8, 8, 8, 8, 8, 8, 8, 8, 8, 8, 8, 8, 8, 8, 8, 8, 8, 8, 8, 8, 8, 8, 8, 8, 8, 8, 8, 8, 8, 8, 8, 8, 8, 8, 8, 8, 8, 8, 8, 8, 8, 8, 8, 8, 8, 8, 8, 8, 8, 8, 8, 8, 8, 8, 8, 8, 8, 8, 8, 8, 8, 8, 8, 8, 8, 8, 8, 8, 8, 8, 8, 8, 8, 8, 8, 8, 8, 8, 8, 8, 8, 8, 8, 8, 8, 8, 8, 8, 8, 8, 8, 8, 8, 8, 8, 8, 8, 8, 8, 8, 8, 8, 8, 8, 8, 8, 8, 8, 8]) t21) s fun t22 s => ((cvt (Kd.int .u8) (Kd.int .i64) t22) s fun t23 s =>
 (optK (binV .add (some (Kd.int .i64)) false t12 t23) s fun t24 s => (K t24 s)))))))))
 (optK (binV .geq (some (Kd.int .u64)) true t0 (V.int .u64 256)) s fun t14 s => (condV t14
 (optK (binV .shr (some (Kd.int .u64)) true t0 (V.int .u64 8)) s fun t16 s => (optK (binV .add (some (Kd.int .i64)) true (V.int .i64 0) (V.int .i64 8)) s fun t18 s => ((cvt (Kd.int .u64) (Kd.int .u8) t16) s fun t21 s =>
 (optK (indexS (V.str [0, 1, 2, 2, 3, 3, 3, 3, 4, 4, 4, 4, 4, 4, 4, 4, 5, 5, 5, 5, 5, 5, 5, 5, 5, 5, 5, 5, 5, 5, 5, 5, 6, 6, 6, 6, 6, 6, 6, 6, 6, 6, 6, 6, 6, 6, 6, 6, 6, 6, 6, 6, 6, 6, 6, 6, 6, 6, 6, 6, 6, 6, 6, 6, 7, 7, 7, 7, 7, 7, 7, 7, 7, 7, 7, 7, 7, 7, 7, 7, 7, 7, 7, 7, 7, 7, 7, 7, 7, 7, 7, 7, 7, 7, 7, 7, 7, 7, 7, 7, 7, 7, 7, 7, 7, 7, 7, 7, 7, 7, 7, 7, 7, 7, 7, 7, 7, 7, 7, 7, 7, 7, 7, 7, 7, 7, 7, 7, 8, 8, 8, 8, 8, 8, 8, 8, 8, 8, 8, 8, 8, 8, 8, 8, 8, 8, 8, 8, 8, 8, 8, 8, 8, 8, 8, 8, 8, 8, 8, 8, 8, 8, 8, 8, 8, 8, 8, 8, 8, 8, 8, 8, 8, 8, 8, 8, 8, 8, 8, 8, 8, 8, 8, 8, 8, 8, 8, 8, 8, 8, 8, 8, 8, 8, 8, 8, 8, 8, 8, 8, 8, 8, 8, 8, 8, 8, 8, 8, 8, 8, 8, 8, 8, 8, 8, 8, 8, 8, 8, 8, 8, 8, 8, 8, 8, 8, 8, 8, 8, 8, 8, 8, 8, 8, 8, 8, 8, 8, 8, 8, 8, 8, 8, 8, 8, 8, 8, 8, 8, 8, 8, 8, 8, 8, 8, 8]) t21) s fun t22 s => ((cvt (Kd.int .u8) (Kd.int .i64) t22) s fun t23 s =>
 (optK (binV .add (some (Kd.int .i64)) false t18 t23) s fun t24 s => (K t24 s)))))))
 ((cvt (Kd.int .u64) (Kd.int .u8) t0) s fun t21 s =>
 (optK (indexS (V.str [0, 1, 2, 2, 3, 3, 3, 3, 4, 4, 4, 4, 4, 4, 4, 4, 5, 5, 5, 5, 5, 5, 5, 5, 5, 5, 5, 5, 5, 5, 5, 5, 6, 6, 6, 6, 6, 6, 6, 6, 6, 6, 6, 6, 6, 6, 6, 6, 6, 6, 6, 6, 6, 6, 6, 6, 6, 6, 6, 6, 6, 6, 6, 6, 7, 7, 7, 7, 7, 7, 7, 7, 7, 7, 7, 7, 7, 7, 7, 7, 7, 7, 7, 7, 7, 7, 7, 7, 7, 7, 7, 7, 7, 7, 7, 7, 7, 7, 7, 7, 7, 7, 7, 7, 7, 7, 7, 7, 7, 7, 7, 7, 7, 7, 7, 7, 7, 7, 7, 7, 7, 7, 7, 7, 7, 7, 7, 7, 8, 8, 8, 8, 8, 8, 8, 8, 8, 8, 8, 8, 8, 8, 8, 8, 8, 8, 8, 8, 8, 8, 8, 8, 8, 8, 8, 8, 8, 8, 8, 8, 8, 8, 8, 8, 8, 8, 8, 8, 8, 8, 8, 8, 8, 8, 8, 8, 8, 8, 8, 8, 8, 8, 8, 8, 8, 8, 8, 8, 8, 8, 8, 8, 8, 8, 8, 8, 8, 8, 8, 8, 8, 8, 8, 8, 8, 8, 8, 8, 8, 8, 8, 8, 8, 8, 8, 8, 8, 8, 8, 8, 8, 8, 8, 8, 8, 8, 8, 8, 8, 8, 8, 8, 8, 8, 8, 8, 8, 8, 8, 8, 8, 8, 8, 8, 8, 8, 8, 8, 8, 8, 8, 8, 8, 8, 8, 8]) t21) s fun t22 s => ((cvt (Kd.int .u8) (Kd.int .i64) t22) s fun t23 s =>
 (optK (binV .add (some (Kd.int .i64)) false (V.int .i64 0) t23) s fun t24 s => (K t24 s)))))))))))
noncomputable def fn165 : V → M := fn165_q
theorem fn165_qe (t0 : V) : fn165_q t0 = evF (E165) Tryz.f165 [t0] := by kernel_rfl
theorem fn165_s : SP Tryz.prog 165 (F1 fn165) := mk1 (mkEnv tab (L := L165) trivial) Tryz.func165 (by kernel_rfl) (fn165_qe)

/-! 143: math/bits.Len -/
def L143 (f164 : M1) (f165 : M1) : List (Nat × (List V → M)) := [(164, F1 f164), (165, F1 f165)]
def E143 (f164 : M1) (f165 : M1) : Env := ⟨ty, tabC (L143 f164 f165), meth, tabL [], tabL []⟩
noncomputable def fn143_q (f164 : M1) (f165 : M1) (t0 : V) : M := fun s K =>
 ((f165 t0) s fun t7 s =>
 (K t7 s))
noncomputable def fn143 : V → M := fn143_q fn164 fn165
theorem fn143_qe (f164 : M1) (f165 : M1) (t0 : V) : fn143_q f164 f165 t0 = evF (E143 f164 f165) Tryz.f143 [t0] := by kernel_rfl
theorem fn143_s : SP Tryz.prog 143 (F1 fn143) := mk1 (mkEnv tab (L := L143 fn164 fn165) ⟨fn164_s, fn165_s, trivial⟩) Tryz.func143 (by kernel_rfl) (fn143_qe fn164 fn165)

/-! 120: cmp.isNaN[int] -/
def L120 : List (Nat × (List V → M)) := []
def E120 : Env := ⟨ty, tabC (L120), meth, tabL [], tabL []⟩
noncomputable def fn120_q (t0 : V) : M := fun s K =>
 (optK (binV .neq (some (Kd.int .i64)) false t0 t0) s fun t5 s => (K t5 s))
noncomputable def fn120 : V → M := fn120_q
theorem fn120_qe (t0 : V) : fn120_q t0 = evF (E120) Tryz.f120 [t0] := by kernel_rfl
theorem fn120_s : SP Tryz.prog 120 (F1 fn120) := mk1 (mkEnv tab (L := L120) trivial) Tryz.func120 (by kernel_rfl) (fn120_qe)

/-! 161: cmp.Less[int] -/
def L161 (f120 : M1) : List (Nat × (List V → M)) := [(120, F1 f120)]
def E161 (f120 : M1) : Env := ⟨ty, tabC (L161 f120), meth, tabL [], tabL []⟩
noncomputable def fn161_q (f120 : M1) (t0 t1 : V) : M := fun s K =>
 ((f120 t0) s fun t6 s =>
 (grd t6
 ((f120 t1) s fun t9 s =>
 (optK (unV .not t9) s fun t10 s => (grd t10
 (K (V.bool true) s)
 (optK (binV .lss (some (Kd.int .i64)) false t0 t1) s fun t15 s => (K t15 s))
 False)))
 (optK (binV .lss (some (Kd.int .i64)) false t0 t1) s fun t15 s => (K t15 s))
 False))
noncomputable def fn161 : V → V → M := fn161_q fn120
theorem fn161_qe (f120 : M1) (t0 t1 : V) : fn161_q f120 t0 t1 = evF (E161 f120) Tryz.f161 [t0, t1] := by kernel_rfl
theorem fn161_s : SP Tryz.prog 161 (F2 fn161) := mk2 (mkEnv tab (L := L161 fn120) ⟨fn120_s, trivial⟩) Tryz.func161 (by kernel_rfl) (fn161_qe fn120)

/-! 155: slices.insertionSortOrdered[int] -/
def L155 (f161 : M2) : List (Nat × (List V → M)) := [(161, F2 f161)]
def E155 (f161 : M2) : Env := ⟨ty, tabC (L155 f161), meth, tabL [(1, [0, 1, 2, 6]), (4, [0, 1, 2, 6, 7])], tabL [(1, []), (4, [0, 1, 2, 6])]⟩
noncomputable def fn155_L2 (f161 : M2) (t0 t1 t2 t6 t7 : V) : AS → KX → Prop := fun s K =>
 (optK (binV .gtr (some (Kd.int .i64)) false t7 t1) s fun t18 s => (grd t18
 (optK (elemPtr none 1 t0 t7) s fun t22 s => ((ld1 t22) s fun t23 s1 =>
 (optK (binV .sub (some (Kd.int .i64)) true t7 (V.int .i64 1)) s1 fun t26 s1 => (optK (elemPtr none 1 t0 t26) s1 fun t27 s1 => ((ld1 t27) s1 fun t28 s2 =>
 ((f161 t23 t28) s2 fun t29 s3 =>
 (condV t29
 (optK (binV .sub (some (Kd.int .i64)) true t7 (V.int .i64 1)) s3 fun t37 s3 => (optK (binV .sub (some (Kd.int .i64)) true t7 (V.int .i64 1)) s3 fun t40 s3 => (optK (elemPtr none 1 t0 t40) s3 fun t41 s3 => ((ld1 t41) s3 fun t42 s4 =>
 (optK (elemPtr none 1 t0 t7) s4 fun t45 s4 => ((ld1 t45) s4 fun t46 s5 =>
 (optK (elemPtr none 1 t0 t7) s5 fun t47 s5 => ((st 1 t47 t42) s5 fun _ s6 =>
 (optK (elemPtr none 1 t0 t37) s6 fun t48 s6 => ((st 1 t48 t46) s6 fun _ s7 =>
 (optK (binV .sub (some (Kd.int .i64)) true t7 (V.int .i64 1)) s7 fun t32 s7 => (K .nrm (t0 :: (t1 :: (t2 :: (jk 3 (t6 :: (t32 :: (jk 41 []))))))) s7))))))))))))
 (K (.exit 2) (t0 :: (t1 :: (t2 :: (jk 3 (t6 :: (jk 42 [])))))) s3))))))))
 (K (.exit 2) (t0 :: (t1 :: (t2 :: (jk 3 (t6 :: (jk 42 [])))))) s)
 False))
noncomputable def fn155_L1 (f161 : M2) (t0 t1 t2 t6 : V) : AS → KX → Prop := fun s K =>
 (optK (binV .lss (some (Kd.int .i64)) false t6 t2) s fun t12 s => (condV t12
 (loopN LOOPS (fun tm s K => fn155_L2 f161 (tm.getD 0 .junk) (tm.getD 1 .junk) (tm.getD 2 .junk) (tm.getD 6 .junk) (tm.getD 7 .junk) s K) (t0 :: (t1 :: (t2 :: (jk 3 (t6 :: (t6 :: (jk 41 []))))))) s (fun e tm s => exX e (fun j1 => (exB (j1 == 2)
 (optK (binV .add (some (Kd.int .i64)) true (tm.getD 6 .junk) (V.int .i64 1)) s fun t14 s => (K .nrm ((tm.getD 0 .junk) :: ((tm.getD 1 .junk) :: ((tm.getD 2 .junk) :: (jk 3 (t14 :: (jk 42 [])))))) s))
 (exB (j1 == 1)
 (optK (binV .add (some (Kd.int .i64)) true (tm.getD 6 .junk) (V.int .i64 1)) s fun t14 s => (K .nrm ((tm.getD 0 .junk) :: ((tm.getD 1 .junk) :: ((tm.getD 2 .junk) :: (jk 3 (t14 :: (jk 42 [])))))) s))
 (K (.exit j1) (jk 49 []) s)))) (K .ret (jk 49 []) s)))
 (K (.exit 0) (jk 49 []) s)))
noncomputable def fn155_q (f161 : M2) (t0 t1 t2 : V) : M := fun s K =>
 (optK (binV .add (some (Kd.int .i64)) true t1 (V.int .i64 1)) s fun t9 s => (loopN LOOPS (fun tm s K => fn155_L1 f161 (tm.getD 0 .junk) (tm.getD 1 .junk) (tm.getD 2 .junk) (tm.getD 6 .junk) s K) (t0 :: (t1 :: (t2 :: (jk 3 (t9 :: (jk 42 [])))))) s (fun e tm s => exX e (fun j1 => (exB (j1 == 0)
 (K (V.tuple []) s)
 False)) (K (V.tuple []) s))))
noncomputable def fn155 : V → V → V → M := fn155_q fn161
theorem fn155_qe (f161 : M2) (t0 t1 t2 : V) : fn155_q f161 t0 t1 t2 = evF (E155 f161) Tryz.f155 [t0, t1, t2] := by kernel_rfl
theorem fn155_s : SP Tryz.prog 155 (F3 fn155) := mk3 (mkEnv tab (L := L155 fn161) ⟨fn161_s, trivial⟩) Tryz.func155 (by kernel_rfl) (fn155_qe fn161)

/-! 142: slices.pdqsortOrdered[int] -/
def L142 (f155 : M3) (f161 : M2) : List (Nat × (List V → M)) := [(155, F3 f155), (161, F2 f161)]
def E142 (f155 : M3) (f161 : M2) : Env := ⟨ty, tabC (L142 f155 f161), meth, tabL [(2, [0, 1, 2, 3, 8, 9])], tabL [(2, [])]⟩
noncomputable def fn142_L1 (f155 : M3) (f161 : M2) (t0 t1 t2 t3 t8 t9 : V) : AS → KX → Prop := fun s K =>
 (optK (binV .sub (some (Kd.int .i64)) false t2 t1) s fun t21 s => (optK (binV .leq (some (Kd.int .i64)) true t21 (V.int .i64 12)) s fun t23 s => (condV t23
 ((f155 t0 t1 t2) s fun t27 s =>
 (K .ret (jk 134 []) s))
 (optK (binV .eql (some (Kd.int .i64)) true t3 (V.int .i64 0)) s fun t29 s => (condV t29
 False
 (optK (unV .not t8) s fun t35 s => (condV t35
 False
 False)))))))
noncomputable def fn142_q (f155 : M3) (f161 : M2) (t0 t1 t2 t3 : V) : M := fun s K =>
 (loopN LOOPS (fun tm s K => fn142_L1 f155 f161 (tm.getD 0 .junk) (tm.getD 1 .junk) (tm.getD 2 .junk) (tm.getD 3 .junk) (tm.getD 8 .junk) (tm.getD 9 .junk) s K) (t0 :: (t1 :: (t2 :: (t3 :: (jk 4 ((V.bool true) :: ((V.bool true) :: (jk 124 [])))))))) s (fun e tm s => exX e (fun j1 => (exB (j1 == 0)
 (K (V.tuple []) s)
 False)) (K (V.tuple []) s)))
noncomputable def fn142 : V → V → V → V → M := fn142_q fn155 fn161
theorem fn142_qe (f155 : M3) (f161 : M2) (t0 t1 t2 t3 : V) : fn142_q f155 f161 t0 t1 t2 t3 = evF (E142 f155 f161) Tryz.f142 [t0, t1, t2, t3] := by kernel_rfl
theorem fn142_s : SP Tryz.prog 142 (F4 fn142) := mk4 (mkEnv tab (L := L142 fn155 fn161) ⟨fn155_s, fn161_s, trivial⟩) Tryz.func142 (by kernel_rfl) (fn142_qe fn155 fn161)

/-! 116: slices.Sort[[]int,int] -/
def L116 (f143 : M1) (f142 : V → V → V → V → M) : List (Nat × (List V → M)) := [(143, F1 f143), (142, F4 f142)]
def E116 (f143 : M1) (f142 : V → V → V → V → M) : Env := ⟨ty, tabC (L116 f143 f142), meth, tabL [], tabL []⟩
noncomputable def fn116_q (f143 : M1) (f142 : V → V → V → V → M) (t0 : V) : M := fun s K =>
 (optK (lenV (some (Kd.slice 3)) t0) s fun t4 s => ((cvt (Kd.int .i64) (Kd.int .u64) t4) s fun t8 s =>
 ((f143 t8) s fun t9 s =>
 ((f142 t0 (V.int .i64 0) t4 t9) s fun t10 s =>
 (K (V.tuple []) s)))))
noncomputable def fn116 : V → M := fn116_q fn143 fn142
theorem fn116_qe (f143 : M1) (f142 : V → V → V → V → M) (t0 : V) : fn116_q f143 f142 t0 = evF (E116 f143 f142) Tryz.f116 [t0] := by kernel_rfl
theorem fn116_s : SP Tryz.prog 116 (F1 fn116) := mk1 (mkEnv tab (L := L116 fn143 fn142) ⟨fn143_s, fn142_s, trivial⟩) Tryz.func116 (by kernel_rfl) (fn116_qe fn143 fn142)

/-! 80: slices.Sorted[int] -/
def L80 (f115 : M1) (f116 : M1) : List (Nat × (List V → M)) := [(115, F1 f115), (116, F1 f116)]
def E80 (f115 : M1) (f116 : M1) : Env := ⟨ty, tabC (L80 f115 f116), meth, tabL [], tabL []⟩
noncomputable def fn80_q (f115 : M1) (f116 : M1) (t0 : V) : M := fun s K =>
 ((f115 t0) s fun t5 s =>
 ((f116 t5) s fun t7 s =>
 (K t5 s)))
noncomputable def fn80 : V → M := fn80_q slices_CollectI fn116
theorem fn80_qe (f115 : M1) (f116 : M1) (t0 : V) : fn80_q f115 f116 t0 = evF (E80 f115 f116) Tryz.f80 [t0] := by kernel_rfl
theorem fn80_s : SP Tryz.prog 80 (F1 fn80) := mk1 (mkEnv tab (L := L80 slices_CollectI fn116) ⟨slices_CollectI_s, fn116_s, trivial⟩) Tryz.func80 (by kernel_rfl) (fn80_qe slices_CollectI fn116)

/-! 83: slices.Compact[[]int,int] -/
def L83 : List (Nat × (List V → M)) := []
def E83 : Env := ⟨ty, tabC (L83), meth, tabL [(4, [0, 3]), (9, [0, 3, 4, 5])], tabL [(4, [0, 2]), (9, [0, 3])]⟩
noncomputable def fn83_L2 (t0 t3 t4 t5 : V) : AS → KX → Prop := fun s K =>
 (optK (lenV (some (Kd.slice 3)) t4) s fun t31 s => (optK (binV .lss (some (Kd.int .i64)) false t5 t31) s fun t32 s => (condV t32
 (optK (elemPtr none 1 t4 t5) s fun t37 s => ((ld1 t37) s fun t38 s3 =>
 (optK (binV .sub (some (Kd.int .i64)) true t5 (V.int .i64 1)) s3 fun t41 s3 => (optK (elemPtr none 1 t4 t41) s3 fun t42 s3 => ((ld1 t42) s3 fun t43 s4 =>
 (optK (binV .neq (some (Kd.int .i64)) false t38 t43) s4 fun t44 s4 => (condV t44
 (optK (elemPtr none 1 t4 t5) s4 fun t49 s4 => ((ld1 t49) s4 fun t50 s4 =>
 (optK (elemPtr none 1 t0 t3) s4 fun t51 s4 => ((st 1 t51 t50) s4 fun _ s4 =>
 (optK (binV .add (some (Kd.int .i64)) true t3 (V.int .i64 1)) s4 fun t53 s4 => (optK (binV .add (some (Kd.int .i64)) true t5 (V.int .i64 1)) s4 fun t34 s4 => (K .nrm (t0 :: (V.junk :: (V.junk :: (t53 :: (t4 :: (t34 :: (jk 55 []))))))) s4)))))))
 (optK (binV .add (some (Kd.int .i64)) true t5 (V.int .i64 1)) s4 fun t34 s4 => (K .nrm (t0 :: (V.junk :: (V.junk :: (t3 :: (t4 :: (t34 :: (jk 55 []))))))) s4)))))))))
 (K (.exit 2) (t0 :: (V.junk :: (V.junk :: (t3 :: (jk 57 []))))) s))))
noncomputable def fn83_L1 (t0 t3 : V) : AS → KX → Prop := fun s K =>
 (optK (lenV (some (Kd.slice 3)) t0) s fun t12 s => (optK (binV .lss (some (Kd.int .i64)) false t3 t12) s fun t13 s => (condV t13
 (optK (elemPtr none 1 t0 t3) s fun t18 s => ((ld1 t18) s fun t19 s1 =>
 (optK (binV .sub (some (Kd.int .i64)) true t3 (V.int .i64 1)) s1 fun t22 s1 => (optK (elemPtr none 1 t0 t22) s1 fun t23 s1 => ((ld1 t23) s1 fun t24 s2 =>
 (optK (binV .eql (some (Kd.int .i64)) false t19 t24) s2 fun t25 s2 => (condV t25
 (optK (sliceSl 1 t0 (some t3) none none) s2 fun t28 s2 => (loopN LOOPS (fun tm s K => fn83_L2 (tm.getD 0 .junk) (tm.getD 3 .junk) (tm.getD 4 .junk) (tm.getD 5 .junk) s K) (t0 :: (V.junk :: (V.junk :: (t3 :: (t28 :: ((V.int .i64 1) :: (jk 55 []))))))) s2 (fun e tm s => exX e (fun j1 => (exB (j1 == 2)
 (optK (sliceSl 1 (tm.getD 0 .junk) (some (tm.getD 3 .junk)) none none) s fun t56 s => ((clr 1 [(V.int .i64 0)] t56) s fun _ s =>
 (optK (sliceSl 1 (tm.getD 0 .junk) none (some (tm.getD 3 .junk)) none) s fun t59 s => (K .ret ((tm.getD 0 .junk) :: (V.junk :: (t59 :: (jk 58 [])))) s))))
 (exB (j1 == 1)
 (optK (binV .add (some (Kd.int .i64)) true (tm.getD 3 .junk) (V.int .i64 1)) s fun t15 s => (K .nrm ((tm.getD 0 .junk) :: (V.junk :: (V.junk :: (t15 :: (jk 57 []))))) s))
 (K (.exit j1) ((tm.getD 0 .junk) :: (jk 60 [])) s)))) (K .ret ((tm.getD 0 .junk) :: (jk 60 [])) s))))
 (optK (binV .add (some (Kd.int .i64)) true t3 (V.int .i64 1)) s2 fun t15 s2 => (K .nrm (t0 :: (V.junk :: (V.junk :: (t15 :: (jk 57 []))))) s2)))))))))
 (K (.exit 0) (t0 :: (jk 60 [])) s))))
noncomputable def fn83_q (t0 : V) : M := fun s K =>
 (optK (lenV (some (Kd.slice 3)) t0) s fun t7 s => (optK (binV .lss (some (Kd.int .i64)) true t7 (V.int .i64 2)) s fun t8 s => (condV t8
 (K t0 s)
 (loopN LOOPS (fun tm s K => fn83_L1 (tm.getD 0 .junk) (tm.getD 3 .junk) s K) (t0 :: (V.junk :: (V.junk :: ((V.int .i64 1) :: (jk 57 []))))) s (fun e tm s => exX e (fun j1 => (exB (j1 == 0)
 (K (tm.getD 0 .junk) s)
 False)) (K (tm.getD 2 .junk) s))))))
noncomputable def fn83 : V → M := fn83_q
theorem fn83_qe (t0 : V) : fn83_q t0 = evF (E83) Tryz.f83 [t0] := by kernel_rfl
theorem fn83_s : SP Tryz.prog 83 (F1 fn83) := mk1 (mkEnv tab (L := L83) trivial) Tryz.func83 (by kernel_rfl) (fn83_qe)

/-! 82: sealchain/pack.arg -/
def L82 : List (Nat × (List V → M)) := []
def E82 : Env := ⟨ty, tabC (L82), meth, tabL [], tabL []⟩
noncomputable def fn82_q (t0 : V) : M := fun s K =>
 (optK (unV .not t0) s fun t4 s => (condV t4
 (K (V.int .i64 2) s)
 (K (V.int .i64 0) s)))
noncomputable def fn82 : V → M := fn82_q
theorem fn82_qe (t0 : V) : fn82_q t0 = evF (E82) Tryz.f82 [t0] := by kernel_rfl
theorem fn82_s : SP Tryz.prog 82 (F1 fn82) := mk1 (mkEnv tab (L := L82) trivial) Tryz.func82 (by kernel_rfl) (fn82_qe)

/-! 42: sealchain/pack.CheckConf -/
def L42 (f77 : M2) (f78 : M1) (f81 : M1) (f80 : M1) (f83 : M1) (f84 : M3) (f82 : M1) : List (Nat × (List V → M)) := [(77, F2 f77), (78, F1 f78), (81, F1 f81), (80, F1 f80), (83, F1 f83), (84, F3 f84), (82, F1 f82)]
def E42 (f77 : M2) (f78 : M1) (f81 : M1) (f80 : M1) (f83 : M1) (f84 : M3) (f82 : M1) : Env := ⟨ty, tabC (L42 f77 f78 f81 f80 f83 f84 f82), meth, tabL [], tabL []⟩
noncomputable def fn42_q (f77 : M2) (f78 : M1) (f81 : M1) (f80 : M1) (f83 : M1) (f84 : M3) (f82 : M1) (t0 : V) : M := fun s K =>
 ((boxV t0) s fun t1 s =>
 (optK (fp 2 t1) s fun t5 s => ((ld1 t5) s fun t6 s =>
 ((f77 t6 (V.func (.func 78) [] [])) s fun t7 s =>
 (optK (fp 2 t1) s fun t8 s => ((ld1 t8) s fun t9 s =>
 ((f81 t9) s fun t10 s =>
 ((f80 t10) s fun t11 s =>
 (optK (unV .not t7) s fun t13 s => (grd t13
 ((f83 t11) s fun t16 s1 =>
 (optK (lenV (some (Kd.slice 3)) t16) s1 fun t17 s1 => (optK (fp 2 t1) s1 fun t18 s1 => ((ld1 t18) s1 fun t19 s2 =>
 (chkB (holds ti35 t18 s t19) (optK (lenV (some (Kd.slice 3)) t19) s2 fun t20 s2 => (optK (binV .eql (some (Kd.int .i64)) false t17 t20) s2 fun t21 s2 => (grd t21
 (optK (fp 0 t1) s2 fun t24 s2 => ((ld1 t24) s2 fun t25 s3 =>
 ((f84 t25 (V.int .i64 0) (V.int .i64 9007199254740991)) s3 fun t26 s4 =>
 (grd t26
 (optK (fp 2 t1) s4 fun t29 s4 => ((ld1 t29) s4 fun t30 s5 =>
 (optK (lenV (some (Kd.slice 3)) t30) s5 fun t31 s5 => ((f84 t31 (V.int .i64 1) (V.int .i64 4)) s5 fun t32 s6 =>
 (grd t32
 (optK (fp 1 t1) s6 fun t35 s6 => ((ld1 t35) s6 fun t36 s7 =>
 (optK (fp 2 t1) s7 fun t37 s7 => ((ld1 t37) s7 fun t38 s8 =>
 (optK (lenV (some (Kd.slice 3)) t38) s8 fun t39 s8 => ((f84 t36 (V.int .i64 1) t39) s8 fun t40 s9 =>
 ((f82 t40) s9 fun t42 s10 =>
 (K t42 s10))))))))
 ((f82 (V.bool false)) s6 fun t42 s11 =>
 (K t42 s11))
 False)))))
 ((f82 (V.bool false)) s4 fun t42 s12 =>
 (K t42 s12))
 False))))
 ((f82 (V.bool false)) s2 fun t42 s13 =>
 (K t42 s13))
 False))))))))
 ((f82 (V.bool false)) s fun t42 s14 =>
 (K t42 s14))
 False))))))))))
noncomputable def fn42 : V → M := fn42_q fn77 fn78 fn81 fn80 fn83 fn84 fn82
theorem fn42_qe (f77 : M2) (f78 : M1) (f81 : M1) (f80 : M1) (f83 : M1) (f84 : M3) (f82 : M1) (t0 : V) : fn42_q f77 f78 f81 f80 f83 f84 f82 t0 = evF (E42 f77 f78 f81 f80 f83 f84 f82) Tryz.f42 [t0] := by kernel_rfl
theorem fn42_s : SP Tryz.prog 42 (F1 fn42) := mk1 (mkEnv tab (L := L42 fn77 fn78 fn81 fn80 fn83 fn84 fn82) ⟨fn77_s, fn78_s, fn81_s, fn80_s, fn83_s, fn84_s, fn82_s, trivial⟩) Tryz.func42 (by kernel_rfl) (fn42_qe fn77 fn78 fn81 fn80 fn83 fn84 fn82)

/-! 112: sealchain/pack.whole[sealchain/api.Config] -/
def L112 (f108 : M1) (f76 : M1) (f42 : M1) : List (Nat × (List V → M)) := [(108, F1 f108), (76, F1 f76), (42, F1 f42)]
def E112 (f108 : M1) (f76 : M1) (f42 : M1) : Env := ⟨ty, tabC (L112 f108 f76 f42), meth, tabL [], tabL []⟩
noncomputable def fn112_q (f108 : M1) (f76 : M1) (f42 : M1) (t0 t1 t2 : V) : M := fun s K =>
 ((boxV t1) s fun t4 s =>
 ((newC [(V.int .i64 0), (V.int .i64 0), (V.slice none 0 0 true)]) s fun t6 s =>
 ((newC [(V.int .i64 0), (V.int .i64 0), (V.slice none 0 0 true)]) s fun t8 s =>
 ((f108 t0) s fun t11 s =>
 (optK (binV .neq (some (Kd.int .i64)) true t11 (V.int .i64 0)) s fun t12 s => (condV t12
 ((ldA 3 t8) s fun t13 s1 =>
 ((f108 t0) s1 fun t15 s2 =>
 (chkB (holds ti37 t8 s2 t13) ((st 3 t6 t13) s2 fun _ s3 =>
 (rfin (rcons (peek ti37 t6 s3) (rcons (some t15) (some []))) s3 K)))))
 ((f76 t0) s fun t18 s =>
 (optK (binV .neq (some (Kd.int .i64)) true t18 (V.int .i64 0)) s fun t19 s => (condV t19
 (condV t19
 ((ldA 3 t8) s fun t24 s =>
 ((st 3 t6 t24) s fun _ s =>
 (rfin (rcons (peek ti37 t6 s) (rcons (some (V.int .i64 4)) (some []))) s K)))
 ((ldA 3 t4) s fun t25 s =>
 ((st 3 t6 t25) s fun _ s =>
 (rfin (rcons (peek ti37 t6 s) (rcons (some (V.int .i64 0)) (some []))) s K))))
 ((ldA 3 t4) s fun t21 s =>
 ((callV (E112 f108 f76 f42) t2 [t21]) s fun t22 s =>
 (optK (binV .neq (some (Kd.int .i64)) true t22 (V.int .i64 0)) s fun t23 s => (condV t23
 ((ldA 3 t8) s fun t24 s =>
 ((st 3 t6 t24) s fun _ s =>
 (rfin (rcons (peek ti37 t6 s) (rcons (some (V.int .i64 4)) (some []))) s K)))
 ((ldA 3 t4) s fun t25 s =>
 ((st 3 t6 t25) s fun _ s =>
 (rfin (rcons (peek ti37 t6 s) (rcons (some (V.int .i64 0)) (some []))) s K))))))))))))))))
noncomputable def fn112 : V → V → V → M := fn112_q fn108 fn76 fn42
theorem fn112_qe (f108 : M1) (f76 : M1) (f42 : M1) (t0 t1 t2 : V) : fn112_q f108 f76 f42 t0 t1 t2 = evF (E112 f108 f76 f42) Tryz.f112 [t0, t1, t2] := by kernel_rfl
theorem fn112_s : SP Tryz.prog 112 (F3 fn112) := mk3 (mkEnv tab (L := L112 fn108 fn76 fn42) ⟨fn108_s, fn76_s, fn42_s, trivial⟩) Tryz.func112 (by kernel_rfl) (fn112_qe fn108 fn76 fn42)

/-! 74: sealchain/pack.ParseConf -/
def L74 (f71 : M1) (f73 : M2) (f72 : M2) (f112 : M3) (f42 : M1) : List (Nat × (List V → M)) := [(71, F1 f71), (73, F2 f73), (72, F2 f72), (112, F3 f112), (42, F1 f42)]
def E74 (f71 : M1) (f73 : M2) (f72 : M2) (f112 : M3) (f42 : M1) : Env := ⟨ty, tabC (L74 f71 f73 f72 f112 f42), meth, tabL [(4, [2, 4, 5, 15, 16])], tabL [(4, [2, 4, 5])]⟩
noncomputable def fn74_L1 (f71 : M1) (f73 : M2) (f72 : M2) (f112 : M3) (f42 : M1) (t2 t4 t5 t15 t16 : V) : AS → KX → Prop := fun s K =>
 (optK (binV .lss (some (Kd.int .i64)) false t16 t15) s fun t17 s => (condV t17
 (optK (fp 2 t5) s fun t18 s => ((ld1 t18) s fun t19 s1 =>
 ((f72 t4 (V.int .i64 1)) s1 fun t21 s2 =>
 (chkB (holds ti35 t18 s2 t19) ((bsl 1 [(V.int .i64 0)] 1 [(0, t21)]) s2 fun t22 s3 =>
 (chkB (holds ti35 t18 s3 t19) ((app 1 8 t19 t22) s3 fun t23 s4 =>
 (optK (fp 2 t5) s4 fun t24 s4 => ((st 1 t24 t23) s4 fun _ s5 =>
 (optK (binV .add (some (Kd.int .i64)) true t16 (V.int .i64 1)) s5 fun t25 s5 => (K .nrm (V.junk :: (V.junk :: (t2 :: (V.junk :: (t4 :: (t5 :: (jk 9 (t15 :: (t25 :: (jk 14 [])))))))))) s5)))))))))))
 (K (.exit 0) (V.junk :: (V.junk :: (t2 :: (V.junk :: (t4 :: (t5 :: (jk 25 []))))))) s)))
noncomputable def fn74_q (f71 : M1) (f73 : M2) (f72 : M2) (f112 : M3) (f42 : M1) (t0 : V) : M := fun s K =>
 ((newC [(V.int .i64 0), (V.int .i64 0), (V.slice none 0 0 true)]) s fun t2 s =>
 ((f71 t0) s fun t7 s =>
 ((f73 t7 (V.int .i64 9007199254740991)) s fun t9 s =>
 ((f72 t7 (V.int .i64 1)) s fun t11 s =>
 (optK (aggO (fillV (placeS [(0, 3), (1, 3), (2, 35)] ty) [(V.int .i64 0), (V.int .i64 0), (V.slice none 0 0 true)] [(0, t9), (1, t11)])) s fun t12 s => ((newC [(V.int .i64 0), (V.int .i64 0), (V.slice none 0 0 true)]) s fun t5 s =>
 ((st 3 t5 t12) s fun _ s =>
 ((f72 t7 (V.int .i64 1)) s fun t14 s =>
 (optK (foldV min2V t14 [(V.int .i64 5)]) s fun t15 s => (loopN LOOPS (fun tm s K => fn74_L1 f71 f73 f72 f112 f42 (tm.getD 2 .junk) (tm.getD 4 .junk) (tm.getD 5 .junk) (tm.getD 15 .junk) (tm.getD 16 .junk) s K) (V.junk :: (V.junk :: (t2 :: (V.junk :: (t7 :: (t5 :: (jk 9 (t15 :: ((V.int .i64 0) :: (jk 14 [])))))))))) s (fun e tm s => exX e (fun j1 => (exB (j1 == 0)
 ((ldA 3 (tm.getD 5 .junk)) s fun t27 s =>
 ((f112 (tm.getD 4 .junk) t27 (V.func (.func 42) [] [])) s fun t28 s =>
 (optK (extractV t28 0) s fun t29 s => (optK (extractV t28 1) s fun t30 s => ((st 3 (tm.getD 2 .junk) t29) s fun _ s =>
 (rfin (rcons (peek ti37 (tm.getD 2 .junk) s) (rcons (some t30) (some []))) s K))))))
 False)) (rfin (rcons (peek ti37 (tm.getD 2 .junk) s) (rcons (some V.junk) (some []))) s K))))))))))))
noncomputable def fn74 : V → M := fn74_q fn71 fn73 fn72 fn112 fn42
theorem fn74_qe (f71 : M1) (f73 : M2) (f72 : M2) (f112 : M3) (f42 : M1) (t0 : V) : fn74_q f71 f73 f72 f112 f42 t0 = evF (E74 f71 f73 f72 f112 f42) Tryz.f74 [t0] := by kernel_rfl
theorem fn74_s : SP Tryz.prog 74 (F1 fn74) := mk1 (mkEnv tab (L := L74 fn71 fn73 fn72 fn112 fn42) ⟨fn71_s, fn73_s, fn72_s, fn112_s, fn42_s, trivial⟩) Tryz.func74 (by kernel_rfl) (fn74_qe fn71 fn73 fn72 fn112 fn42)

/-! 37: sealchain/vote.read -/
def L37 (f71 : M1) (f72 : M2) (f73 : M2) (f75 : M2) (f74 : M1) (f76 : M1) : List (Nat × (List V → M)) := [(71, F1 f71), (72, F2 f72), (73, F2 f73), (75, F2 f75), (74, F1 f74), (76, F1 f76)]
def E37 (f71 : M1) (f72 : M2) (f73 : M2) (f75 : M2) (f74 : M1) (f76 : M1) : Env := ⟨ty, tabC (L37 f71 f72 f73 f75 f74 f76), meth, tabL [], tabL []⟩
noncomputable def fn37_q (f71 : M1) (f72 : M2) (f73 : M2) (f75 : M2) (f74 : M1) (f76 : M1) (t0 : V) : M := fun s K =>
 ((f71 t0) s fun t10 s =>
 ((f72 t10 (V.int .i64 1)) s fun t12 s =>
 ((f73 t10 (V.int .i64 9007199254740991)) s fun t14 s =>
 (optK (binV .eql (some (Kd.int .i64)) true t12 (V.int .i64 1)) s fun t17 s => (condV t17
 ((f76 t10) s fun t39 s =>
 (optK (binV .neq (some (Kd.int .i64)) true t39 (V.int .i64 0)) s fun t40 s => (grd t40
 (K V.nilIface s)
 (optK (binV .lss (some (Kd.int .i64)) true t14 (V.int .i64 1)) s fun t43 s => (condV t43
 (K V.nilIface s)
 (K (V.iface 93 t14) s)))
 False)))
 (optK (binV .eql (some (Kd.int .i64)) true t12 (V.int .i64 3)) s fun t21 s => (condV t21
 ((f76 t10) s fun t39 s =>
 (optK (binV .neq (some (Kd.int .i64)) true t39 (V.int .i64 0)) s fun t40 s => (grd t40
 (K V.nilIface s)
 (optK (binV .lss (some (Kd.int .i64)) true t14 (V.int .i64 1)) s fun t43 s => (condV t43
 (K V.nilIface s)
 (K (V.iface 96 t14) s)))
 False)))
 (optK (binV .eql (some (Kd.int .i64)) true t12 (V.int .i64 2)) s fun t25 s => (condV t25
 ((f75 t10 (V.int .i64 2048)) s fun t28 s =>
 ((f74 t28) s fun t29 s =>
 (optK (extractV t29 0) s fun t30 s => (optK (extractV t29 1) s fun t31 s => ((newC [(V.int .i64 0), (V.int .i64 0), (V.slice none 0 0 true)]) s fun t7 s =>
 ((st 3 t7 t30) s fun _ s =>
 (optK (binV .neq (some (Kd.int .i64)) true t31 (V.int .i64 0)) s fun t33 s => (condV t33
 (K V.nilIface s)
 ((ldA 3 t7) s fun t35 s =>
 (optK (aggO (fillV (placeS [(0, 3), (1, 37)] ty) [(V.int .i64 0), (V.int .i64 0), (V.int .i64 0), (V.slice none 0 0 true)] [(0, t14), (1, t35)])) s fun t36 s => ((f76 t10) s fun t39 s =>
 (optK (binV .neq (some (Kd.int .i64)) true t39 (V.int .i64 0)) s fun t40 s => (grd t40
 (K V.nilIface s)
 (optK (binV .lss (some (Kd.int .i64)) true t14 (V.int .i64 1)) s fun t43 s => (condV t43
 (K V.nilIface s)
 (K (V.iface 92 t36) s)))
 False)))))))))))))
 ((f76 t10) s fun t39 s =>
 (optK (binV .neq (some (Kd.int .i64)) true t39 (V.int .i64 0)) s fun t40 s => (grd t40
 (K V.nilIface s)
 (optK (binV .lss (some (Kd.int .i64)) true t14 (V.int .i64 1)) s fun t43 s => (condV t43
 (K V.nilIface s)
 (K V.nilIface s)))
 False))))))))))))
noncomputable def fn37 : V → M := fn37_q fn71 fn72 fn73 fn75 fn74 fn76
theorem fn37_qe (f71 : M1) (f72 : M2) (f73 : M2) (f75 : M2) (f74 : M1) (f76 : M1) (t0 : V) : fn37_q f71 f72 f73 f75 f74 f76 t0 = evF (E37 f71 f72 f73 f75 f74 f76) Tryz.f37 [t0] := by kernel_rfl
theorem fn37_s : SP Tryz.prog 37 (F1 fn37) := mk1 (mkEnv tab (L := L37 fn71 fn72 fn73 fn75 fn74 fn76) ⟨fn71_s, fn72_s, fn73_s, fn75_s, fn74_s, fn76_s, trivial⟩) Tryz.func37 (by kernel_rfl) (fn37_qe fn71 fn72 fn73 fn75 fn74 fn76)

/-! 70: (*sealchain/vote.Voter).does$1 -/
def L70 : List (Nat × (List V → M)) := []
def E70 : Env := ⟨ty, tabC (L70), meth, tabL [], tabL []⟩
noncomputable def fn70_q (t0 t1 t2 : V) : M := fun s K =>
 ((boxV t1) s fun t4 s =>
 ((ld1 t2) s fun t7 s =>
 (optK (nilV t7) s fun t8 s => (optK (fp 2 t8) s fun t9 s => ((ld1 t9) s fun t10 s =>
 (optK (binV .lss (some (Kd.int .i64)) false t0 t10) s fun t11 s => (K t11 s)))))))
noncomputable def fn70 : V → V → V → M := fn70_q
theorem fn70_qe (t0 t1 t2 : V) : fn70_q t0 t1 t2 = evF (E70) Tryz.f70 [t0, t1, t2] := by kernel_rfl
theorem fn70_s : SP Tryz.prog 70 (F3 fn70) := mk3 (mkEnv tab (L := L70) trivial) Tryz.func70 (by kernel_rfl) (fn70_qe)

/-! 69: maps.DeleteFunc[map[int]sealchain/api.Vote,int,sealchain/api.Vote] -/
def L69 (f70 : M3) : List (Nat × (List V → M)) := [(70, F3 f70)]
def E69 (f70 : M3) : Env := ⟨ty, tabC (L69 f70), meth, tabL [(1, [0, 1, 7])], tabL [(1, [])]⟩
noncomputable def fn69_L1 (f70 : M3) (t0 t1 t7 : V) : AS → KX → Prop := fun s K =>
 ((nextM t7) s fun t8 s =>
 (optK (extractV t8 0) s fun t9 s => (condV t9
 ((entryM t7) s fun t10 s =>
 (optK (extractV t10 0) s fun t11 s => (optK (extractV t10 1) s fun t12 s => ((newC [(V.int .i64 0), (V.int .i64 0), (V.int .i64 0), (V.slice none 0 0 true)]) s fun t5 s =>
 ((st 4 t5 t12) s fun _ s =>
 ((ldA 4 t5) s fun t15 s =>
 ((callV (E69 f70) t1 [t11, t15]) s fun t16 s =>
 (condV t16
 ((mapDel (Kd.int .i64) t0 t11) s fun _ s =>
 (K .nrm (t0 :: (t1 :: (jk 5 (t7 :: (jk 11 []))))) s))
 (K .nrm (t0 :: (t1 :: (jk 5 (t7 :: (jk 11 []))))) s)))))))))
 (K (.exit 0) (jk 19 []) s))))
noncomputable def fn69_q (f70 : M3) (t0 t1 : V) : M := fun s K =>
 ((rangeM t0) s fun t7 s =>
 (loopN LOOPS (fun tm s K => fn69_L1 f70 (tm.getD 0 .junk) (tm.getD 1 .junk) (tm.getD 7 .junk) s K) (t0 :: (t1 :: (jk 5 (t7 :: (jk 11 []))))) s (fun e tm s => exX e (fun j1 => (exB (j1 == 0)
 (K (V.tuple []) s)
 False)) (K (V.tuple []) s))))
noncomputable def fn69 : V → V → M := fn69_q fn70
theorem fn69_qe (f70 : M3) (t0 t1 : V) : fn69_q f70 t0 t1 = evF (E69 f70) Tryz.f69 [t0, t1] := by kernel_rfl
theorem fn69_s : SP Tryz.prog 69 (F2 fn69) := mk2 (mkEnv tab (L := L69 fn70) ⟨fn70_s, trivial⟩) Tryz.func69 (by kernel_rfl) (fn69_qe fn70)

/-! 43: (*sealchain/vote.Voter).room -/
def L43 : List (Nat × (List V → M)) := []
def E43 : Env := ⟨ty, tabC (L43), meth, tabL [], tabL []⟩
noncomputable def fn43_q (t0 t1 : V) : M := fun s K =>
 (optK (nilV t0) s fun t9 s => (optK (fp 3 t9) s fun t10 s => ((ld1 t10) s fun t11 s =>
 ((lookV (Kd.int .i64) (V.agg [(V.int .i64 0), (V.int .i64 0), (V.int .i64 0), (V.slice none 0 0 true)]) true t11 t1) s fun t13 s =>
 (optK (extractV t13 0) s fun t14 s => (optK (extractV t13 1) s fun t15 s => ((newC [(V.int .i64 0), (V.int .i64 0), (V.int .i64 0), (V.slice none 0 0 true)]) s fun t5 s =>
 ((st 4 t5 t14) s fun _ s =>
 (grd t15
 (K (V.bool true) s)
 (optK (nilV t0) s fun t19 s => (optK (fp 3 t19) s fun t20 s => ((ld1 t20) s fun t21 s =>
 ((lenM t21) s fun t22 s =>
 (optK (binV .lss (some (Kd.int .i64)) true t22 (V.int .i64 8)) s fun t23 s => (K t23 s))))))
 False)))))))))
noncomputable def fn43 : V → V → M := fn43_q
theorem fn43_qe (t0 t1 : V) : fn43_q t0 t1 = evF (E43) Tryz.f43 [t0, t1] := by kernel_rfl
theorem fn43_s : SP Tryz.prog 43 (F2 fn43) := mk2 (mkEnv tab (L := L43) trivial) Tryz.func43 (by kernel_rfl) (fn43_qe)

/-! 36: (*sealchain/vote.Voter).does -/
def L36 (f70 : M3) (f69 : M2) (f43 : M2) : List (Nat × (List V → M)) := [(70, F3 f70), (69, F2 f69), (43, F2 f43)]
def E36 (f70 : M3) (f69 : M2) (f43 : M2) : Env := ⟨ty, tabC (L36 f70 f69 f43), meth, tabL [], tabL []⟩
noncomputable def fn36_q (f70 : M3) (f69 : M2) (f43 : M2) (t0 t1 : V) : M := fun s K =>
 ((boxV t0) s fun t2 s =>
 (optK (assertV (some (Kd.int .i64)) 93 (V.int .i64 0) true t1) s fun t10 s => (optK (extractV t10 1) s fun t11 s => (optK (extractV t10 0) s fun t12 s => (condV t11
 ((ld1 t2) s fun t13 s1 =>
 ((ld1 t2) s1 fun t14 s2 =>
 (optK (nilV t14) s2 fun t15 s2 => (optK (fp 1 t15) s2 fun t16 s2 => ((ld1 t16) s2 fun t17 s3 =>
 (optK (foldV max2V t17 [t12]) s3 fun t19 s3 => (optK (nilV t13) s3 fun t20 s3 => (optK (fp 1 t20) s3 fun t21 s3 => ((st 1 t21 t19) s3 fun _ s4 =>
 (K (V.bool true) s4))))))))))
 (optK (assertV (some (Kd.int .i64)) 96 (V.int .i64 0) true t1) s fun t22 s => (optK (extractV t22 1) s fun t23 s => (optK (extractV t22 0) s fun t24 s => (condV t23
 ((ld1 t2) s fun t25 s5 =>
 ((ld1 t2) s5 fun t26 s6 =>
 (optK (nilV t26) s6 fun t27 s6 => (optK (fp 2 t27) s6 fun t28 s6 => ((ld1 t28) s6 fun t29 s7 =>
 (optK (foldV max2V t29 [t24]) s7 fun t31 s7 => (optK (nilV t25) s7 fun t32 s7 => (optK (fp 2 t32) s7 fun t33 s7 => ((st 1 t33 t31) s7 fun _ s8 =>
 ((ld1 t2) s8 fun t34 s8 =>
 (optK (nilV t34) s8 fun t35 s8 => (optK (fp 3 t35) s8 fun t36 s8 => ((ld1 t36) s8 fun t37 s8 =>
 ((f69 t37 (V.func (.func 70) [] [t2])) s8 fun t39 s8 =>
 (K (V.bool true) s8)))))))))))))))
 (optK (assertV (some (Kd.struct [(0, 3), (1, 37)])) 92 (V.agg [(V.int .i64 0), (V.int .i64 0), (V.int .i64 0), (V.slice none 0 0 true)]) true t1) s fun t40 s => (optK (extractV t40 1) s fun t41 s => (optK (extractV t40 0) s fun t42 s => (condV t41
 ((newC [(V.int .i64 0), (V.int .i64 0), (V.int .i64 0), (V.slice none 0 0 true)]) s fun t7 s =>
 ((st 4 t7 t42) s fun _ s =>
 (optK (fp 1 t7) s fun t43 s => (optK (fp 0 t43) s fun t44 s => ((ld1 t44) s fun t45 s9 =>
 ((ld1 t2) s9 fun t46 s10 =>
 (optK (nilV t46) s10 fun t47 s10 => (optK (fp 2 t47) s10 fun t48 s10 => ((ld1 t48) s10 fun t49 s11 =>
 (optK (binV .lss (some (Kd.int .i64)) false t45 t49) s11 fun t50 s11 => (grd t50
 (K (V.bool false) s11)
 ((ld1 t2) s11 fun t52 s12 =>
 (optK (fp 1 t7) s12 fun t53 s12 => (optK (fp 0 t53) s12 fun t54 s12 => ((ld1 t54) s12 fun t55 s13 =>
 ((f43 t52 t55) s13 fun t56 s14 =>
 (optK (unV .not t56) s14 fun t57 s14 => (condV t57
 (K (V.bool false) s14)
 ((ld1 t2) s14 fun t59 s15 =>
 ((ld1 t2) s15 fun t60 s16 =>
 (optK (nilV t60) s16 fun t61 s16 => (optK (fp 1 t61) s16 fun t62 s16 => ((ld1 t62) s16 fun t63 s17 =>
 (optK (fp 0 t7) s17 fun t64 s17 => ((ld1 t64) s17 fun t65 s18 =>
 (optK (foldV max2V t63 [t65]) s18 fun t66 s18 => (optK (nilV t59) s18 fun t67 s18 => (optK (fp 1 t67) s18 fun t68 s18 => ((st 1 t68 t66) s18 fun _ s19 =>
 ((ld1 t2) s19 fun t69 s20 =>
 (optK (nilV t69) s20 fun t70 s20 => (optK (fp 3 t70) s20 fun t71 s20 => ((ld1 t71) s20 fun t72 s21 =>
 (optK (fp 1 t7) s21 fun t73 s21 => (optK (fp 0 t73) s21 fun t74 s21 => ((ld1 t74) s21 fun t75 s22 =>
 ((ldA 4 t7) s22 fun t76 s23 =>
 ((mapSet (Kd.int .i64) t72 t75 t76) s23 fun _ s24 =>
 (K (V.bool true) s24))))))))))))))))))))))))))))
 False)))))))))))
 (K (V.bool false) s))))))))))))))
noncomputable def fn36 : V → V → M := fn36_q fn70 fn69 fn43
theorem fn36_qe (f70 : M3) (f69 : M2) (f43 : M2) (t0 t1 : V) : fn36_q f70 f69 f43 t0 t1 = evF (E36 f70 f69 f43) Tryz.f36 [t0, t1] := by kernel_rfl
theorem fn36_s : SP Tryz.prog 36 (F2 fn36) := mk2 (mkEnv tab (L := L36 fn70 fn69 fn43) ⟨fn70_s, fn69_s, fn43_s, trivial⟩) Tryz.func36 (by kernel_rfl) (fn36_qe fn70 fn69 fn43)

/-! 8: sealchain/vote.Open -/
def L8 (f34 : M1) (f35 : M1) (f37 : M1) (f36 : M2) : List (Nat × (List V → M)) := [(34, F1 f34), (35, F1 f35), (37, F1 f37), (36, F2 f36)]
def E8 (f34 : M1) (f35 : M1) (f37 : M1) (f36 : M2) : Env := ⟨ty, tabC (L8 f34 f35 f37 f36), meth, tabL [(6, [6, 22, 23, 24])], tabL [(6, [2, 3, 6])]⟩
noncomputable def fn8_L1 (f34 : M1) (f35 : M1) (f37 : M1) (f36 : M2) (t6 t22 t23 t24 : V) : AS → KX → Prop := fun s K =>
 (optK (binV .lss (some (Kd.int .i64)) false t24 t23) s fun t25 s => (condV t25
 (optK (elemPtr none 1 t22 t24) s fun t26 s => ((ld1 t26) s fun t27 s =>
 ((f37 t27) s fun t30 s =>
 ((f36 t6 t30) s fun t31 s =>
 (optK (unV .not t31) s fun t32 s => (condV t32
 (K .ret (V.junk :: (V.junk :: ((V.ptr none) :: ((V.int .i64 140) :: (V.junk :: (V.junk :: (t6 :: (jk 28 [])))))))) s)
 (optK (binV .add (some (Kd.int .i64)) true t24 (V.int .i64 1)) s fun t33 s => (K .nrm (jk 6 (t6 :: (jk 15 (t22 :: (t23 :: (t33 :: (jk 10 []))))))) s))))))))
 (K (.exit 0) (jk 6 (t6 :: (jk 28 []))) s)))
noncomputable def fn8_q (f34 : M1) (f35 : M1) (f37 : M1) (f36 : M2) (t0 : V) : M := fun s K =>
 ((f34 t0) s fun t11 s =>
 (optK (extractV t11 0) s fun t12 s => (optK (extractV t11 1) s fun t13 s => (optK (binV .neq (some (Kd.int .i64)) true t13 (V.int .i64 0)) s fun t15 s => (condV t15
 (K (V.tuple [(V.ptr none), t13]) s)
 (mkMap s fun t18 s =>
 (optK (aggO (fillV (placeS [(0, 66), (1, 3), (2, 3), (3, 67)] ty) [(V.ptr none), (V.int .i64 0), (V.int .i64 0), (V.map none)] [(0, t12), (3, t18)])) s fun t19 s => ((boxV t19) s fun t20 s =>
 ((f35 t12) s fun t22 s =>
 (optK (lenV (some (Kd.slice 59)) t22) s fun t23 s => (loopN LOOPS (fun tm s K => fn8_L1 f34 f35 f37 f36 (tm.getD 6 .junk) (tm.getD 22 .junk) (tm.getD 23 .junk) (tm.getD 24 .junk) s K) (jk 6 (t20 :: (jk 15 (t22 :: (t23 :: ((V.int .i64 0) :: (jk 10 []))))))) s (fun e tm s => exX e (fun j1 => (exB (j1 == 0)
 (K (V.tuple [(tm.getD 6 .junk), (V.int .i64 0)]) s)
 False)) (K (V.tuple [(tm.getD 2 .junk), (tm.getD 3 .junk)]) s)))))))))))))
noncomputable def fn8 : V → M := fn8_q fn34 fn35 fn37 fn36
theorem fn8_qe (f34 : M1) (f35 : M1) (f37 : M1) (f36 : M2) (t0 : V) : fn8_q f34 f35 f37 f36 t0 = evF (E8 f34 f35 f37 f36) Tryz.f8 [t0] := by kernel_rfl
theorem fn8_s : SP Tryz.prog 8 (F1 fn8) := mk1 (mkEnv tab (L := L8 fn34 fn35 fn37 fn36) ⟨fn34_s, fn35_s, fn37_s, fn36_s, trivial⟩) Tryz.func8 (by kernel_rfl) (fn8_qe fn34 fn35 fn37 fn36)

/-! 39: (*sealchain/vote.Voter).none -/
def L39 : List (Nat × (List V → M)) := []
def E39 : Env := ⟨ty, tabC (L39), meth, tabL [], tabL []⟩
noncomputable def fn39_q (t0 : V) : M := fun s K =>
 (optK (binV .eql (some (Kd.ptr 69)) true t0 (V.ptr none)) s fun t4 s => (grd t4
 (K (V.bool true) s)
 (optK (nilV t0) s fun t7 s => (optK (fp 0 t7) s fun t8 s => ((ld1 t8) s fun t9 s =>
 (optK (binV .eql (some (Kd.ptr 116)) true t9 (V.ptr none)) s fun t10 s => (K t10 s)))))
 False))
noncomputable def fn39 : V → M := fn39_q
theorem fn39_qe (t0 : V) : fn39_q t0 = evF (E39) Tryz.f39 [t0] := by kernel_rfl
theorem fn39_s : SP Tryz.prog 39 (F1 fn39) := mk1 (mkEnv tab (L := L39) trivial) Tryz.func39 (by kernel_rfl) (fn39_qe)

/-! 63: (*sealchain/wal.Log).Dead -/
def L63 (f67 : M1) : List (Nat × (List V → M)) := [(67, F1 f67)]
def E63 (f67 : M1) : Env := ⟨ty, tabC (L63 f67), meth, tabL [], tabL []⟩
noncomputable def fn63_q (f67 : M1) (t0 : V) : M := fun s K =>
 ((f67 t0) s fun t4 s =>
 (optK (unV .not t4) s fun t5 s => (grd t5
 (optK (nilV t0) s fun t8 s => (optK (fp 2 t8) s fun t9 s => ((ld1 t9) s fun t10 s =>
 (K t10 s))))
 (K (V.bool false) s)
 False)))
noncomputable def fn63 : V → M := fn63_q fn67
theorem fn63_qe (f67 : M1) (t0 : V) : fn63_q f67 t0 = evF (E63 f67) Tryz.f63 [t0] := by kernel_rfl
theorem fn63_s : SP Tryz.prog 63 (F1 fn63) := mk1 (mkEnv tab (L := L63 fn67) ⟨fn67_s, trivial⟩) Tryz.func63 (by kernel_rfl) (fn63_qe fn67)

/-! 40: (*sealchain/vote.Voter).live -/
def L40 (f39 : M1) (f63 : M1) : List (Nat × (List V → M)) := [(39, F1 f39), (63, F1 f63)]
def E40 (f39 : M1) (f63 : M1) : Env := ⟨ty, tabC (L40 f39 f63), meth, tabL [], tabL []⟩
noncomputable def fn40_q (f39 : M1) (f63 : M1) (t0 : V) : M := fun s K =>
 ((f39 t0) s fun t5 s =>
 (condV t5
 (K (V.int .i64 1) s)
 (optK (nilV t0) s fun t8 s => (optK (fp 0 t8) s fun t9 s => ((ld1 t9) s fun t10 s =>
 ((f63 t10) s fun t11 s =>
 (condV t11
 (K (V.int .i64 130) s)
 (K (V.int .i64 0) s))))))))
noncomputable def fn40 : V → M := fn40_q fn39 fn63
theorem fn40_qe (f39 : M1) (f63 : M1) (t0 : V) : fn40_q f39 f63 t0 = evF (E40 f39 f63) Tryz.f40 [t0] := by kernel_rfl
theorem fn40_s : SP Tryz.prog 40 (F1 fn40) := mk1 (mkEnv tab (L := L40 fn39 fn63) ⟨fn39_s, fn63_s, trivial⟩) Tryz.func40 (by kernel_rfl) (fn40_qe fn39 fn63)

/-! 41: sealchain/vote.number -/
def L41 : List (Nat × (List V → M)) := []
def E41 : Env := ⟨ty, tabC (L41), meth, tabL [], tabL []⟩
noncomputable def fn41_q (t0 : V) : M := fun s K =>
 (optK (binV .geq (some (Kd.int .i64)) true t0 (V.int .i64 1)) s fun t4 s => (grd t4
 (optK (binV .leq (some (Kd.int .i64)) true t0 (V.int .i64 9007199254740991)) s fun t7 s => (K t7 s))
 (K (V.bool false) s)
 False))
noncomputable def fn41 : V → M := fn41_q
theorem fn41_qe (t0 : V) : fn41_q t0 = evF (E41) Tryz.f41 [t0] := by kernel_rfl
theorem fn41_s : SP Tryz.prog 41 (F1 fn41) := mk1 (mkEnv tab (L := L41) trivial) Tryz.func41 (by kernel_rfl) (fn41_qe)

/-! 95: (*sealchain/wal.Log).live -/
def L95 (f67 : M1) : List (Nat × (List V → M)) := [(67, F1 f67)]
def E95 (f67 : M1) : Env := ⟨ty, tabC (L95 f67), meth, tabL [], tabL []⟩
noncomputable def fn95_q (f67 : M1) (t0 : V) : M := fun s K =>
 ((f67 t0) s fun t5 s =>
 (condV t5
 (K (V.int .i64 1) s)
 (optK (nilV t0) s fun t8 s => (optK (fp 2 t8) s fun t9 s => ((ld1 t9) s fun t10 s =>
 (condV t10
 (K (V.int .i64 130) s)
 (K (V.int .i64 0) s)))))))
noncomputable def fn95 : V → M := fn95_q fn67
theorem fn95_qe (f67 : M1) (t0 : V) : fn95_q f67 t0 = evF (E95 f67) Tryz.f95 [t0] := by kernel_rfl
theorem fn95_s : SP Tryz.prog 95 (F1 fn95) := mk1 (mkEnv tab (L := L95 fn67) ⟨fn67_s, trivial⟩) Tryz.func95 (by kernel_rfl) (fn95_qe fn67)

/-! 90: sealchain/num.Write -/
def L90 : List (Nat × (List V → M)) := []
def E90 : Env := ⟨ty, tabC (L90), meth, tabL [], tabL []⟩
noncomputable def fn90_q : M := fun s K =>
 (optK (aggO (fillV (placeS [(0, 59), (1, 24)] ty) [(V.slice none 0 0 true), (V.int .i64 0)] [])) s fun t1 s => ((boxV t1) s fun t2 s =>
 (K t2 s)))
noncomputable def fn90 : M := fn90_q
theorem fn90_qe : fn90_q = evF (E90) Tryz.f90 [] := by kernel_rfl
theorem fn90_s : SP Tryz.prog 90 (F0 fn90) := mk0 (mkEnv tab (L := L90) trivial) Tryz.func90 (by kernel_rfl) (fn90_qe)

/-! 122: (*sealchain/num.Writer).put -/
def L122 (f140 : M1) : List (Nat × (List V → M)) := [(140, F1 f140)]
def E122 (f140 : M1) : Env := ⟨ty, tabC (L122 f140), meth, tabL [], tabL []⟩
noncomputable def fn122_q (f140 : M1) (t0 t1 t2 : V) : M := fun s K =>
 (optK (binV .eql (some (Kd.ptr 163)) true t0 (V.ptr none)) s fun t8 s => (condV t8
 (K (V.ptr none) s)
 (optK (nilV t0) s fun t11 s => (optK (fp 1 t11) s fun t12 s => ((ld1 t12) s fun t13 s =>
 ((bsl 1 [(V.int .i64 0)] 2 [(0, t13), (1, t1)]) s fun t15 s =>
 ((f140 t15) s fun t16 s =>
 (optK (nilV t0) s fun t17 s => (optK (fp 1 t17) s fun t18 s => ((st 1 t18 t16) s fun _ s =>
 (optK (nilV t0) s fun t20 s => (optK (fp 1 t20) s fun t21 s => ((ld1 t21) s fun t22 s =>
 (optK (binV .eql (some (Kd.int .i64)) true t22 (V.int .i64 0)) s fun t23 s => (condV t23
 (optK (nilV t0) s fun t26 s => (optK (fp 0 t26) s fun t27 s => ((ld1 t27) s fun t28 s =>
 ((app 1 1 t28 t2) s fun t30 s =>
 (optK (nilV t0) s fun t31 s => (optK (fp 0 t31) s fun t32 s => ((st 1 t32 t30) s fun _ s =>
 (K t0 s))))))))
 (K t0 s))))))))))))))))
noncomputable def fn122 : V → V → V → M := fn122_q fn140
theorem fn122_qe (f140 : M1) (t0 t1 t2 : V) : fn122_q f140 t0 t1 t2 = evF (E122 f140) Tryz.f122 [t0, t1, t2] := by kernel_rfl
theorem fn122_s : SP Tryz.prog 122 (F3 fn122) := mk3 (mkEnv tab (L := L122 fn140) ⟨fn140_s, trivial⟩) Tryz.func122 (by kernel_rfl) (fn122_qe fn140)

/-! 91: (*sealchain/num.Writer).Num -/
def L91 (f109 : M1) (f122 : M3) : List (Nat × (List V → M)) := [(109, F1 f109), (122, F3 f122)]
def E91 (f109 : M1) (f122 : M3) : Env := ⟨ty, tabC (L91 f109 f122), meth, tabL [(9, [0, 1, 2, 7, 27, 28])], tabL [(9, [0, 7])]⟩
noncomputable def fn91_L1 (f109 : M1) (f122 : M3) (t0 t1 t2 t7 t27 t28 : V) : AS → KX → Prop := fun s K =>
 (optK (binV .lss (some (Kd.int .i64)) false t28 t27) s fun t29 s => (condV t29
 (optK (binV .sub (some (Kd.int .i64)) true t1 (V.int .i64 1)) s fun t34 s => (optK (binV .sub (some (Kd.int .i64)) false t34 t28) s fun t36 s => (optK (binV .mul (some (Kd.int .i64)) true (V.int .i64 8) t36) s fun t37 s => (optK (binV .shr (some (Kd.int .i64)) false t2 t37) s fun t38 s => ((cvt (Kd.int .i64) (Kd.int .u8) t38) s fun t39 s =>
 ((bsl 1 [(V.int .u8 0)] 1 [(0, t39)]) s fun t40 s =>
 ((app 1 1 t7 t40) s fun t41 s =>
 (optK (binV .add (some (Kd.int .i64)) true t28 (V.int .i64 1)) s fun t42 s => (K .nrm (t0 :: (t1 :: (t2 :: (jk 4 (t41 :: (jk 19 (t27 :: (t42 :: (jk 17 []))))))))) s)))))))))
 (K (.exit 1) (t0 :: (jk 6 (t7 :: (jk 38 [])))) s)))
noncomputable def fn91_q (f109 : M1) (f122 : M3) (t0 t1 t2 : V) : M := fun s K =>
 ((f109 t1) s fun t11 s =>
 (optK (unV .not t11) s fun t12 s => (condV t12
 ((f122 t0 (V.int .i64 2) (V.slice none 0 0 true)) s fun t14 s =>
 (K t14 s))
 (optK (binV .lss (some (Kd.int .i64)) true t2 (V.int .i64 0)) s fun t17 s => (condV t17
 (condV t17
 ((f122 t0 (V.int .i64 9) (V.slice none 0 0 true)) s fun t26 s =>
 (K t26 s))
 (loopN LOOPS (fun tm s K => fn91_L1 f109 f122 (tm.getD 0 .junk) (tm.getD 1 .junk) (tm.getD 2 .junk) (tm.getD 7 .junk) (tm.getD 27 .junk) (tm.getD 28 .junk) s K) (t0 :: (t1 :: (t2 :: (jk 4 ((V.slice none 0 0 true) :: (jk 19 (t1 :: ((V.int .i64 0) :: (jk 17 []))))))))) s (fun e tm s => exX e (fun j1 => (exB (j1 == 1)
 ((f122 (tm.getD 0 .junk) (V.int .i64 0) (tm.getD 7 .junk)) s fun t45 s =>
 (K t45 s))
 False)) (K V.junk s))))
 (optK (binV .gtr (some (Kd.int .i64)) true t2 (V.int .i64 9007199254740991)) s fun t19 s => (condV t19
 (condV t19
 ((f122 t0 (V.int .i64 9) (V.slice none 0 0 true)) s fun t26 s =>
 (K t26 s))
 (loopN LOOPS (fun tm s K => fn91_L1 f109 f122 (tm.getD 0 .junk) (tm.getD 1 .junk) (tm.getD 2 .junk) (tm.getD 7 .junk) (tm.getD 27 .junk) (tm.getD 28 .junk) s K) (t0 :: (t1 :: (t2 :: (jk 4 ((V.slice none 0 0 true) :: (jk 19 (t1 :: ((V.int .i64 0) :: (jk 17 []))))))))) s (fun e tm s => exX e (fun j1 => (exB (j1 == 1)
 ((f122 (tm.getD 0 .junk) (V.int .i64 0) (tm.getD 7 .junk)) s fun t45 s =>
 (K t45 s))
 False)) (K V.junk s))))
 (optK (binV .mul (some (Kd.int .i64)) true (V.int .i64 8) t1) s fun t22 s => (optK (binV .shr (some (Kd.int .i64)) false t2 t22) s fun t23 s => (optK (binV .neq (some (Kd.int .i64)) true t23 (V.int .i64 0)) s fun t24 s => (condV t24
 ((f122 t0 (V.int .i64 9) (V.slice none 0 0 true)) s fun t26 s =>
 (K t26 s))
 (loopN LOOPS (fun tm s K => fn91_L1 f109 f122 (tm.getD 0 .junk) (tm.getD 1 .junk) (tm.getD 2 .junk) (tm.getD 7 .junk) (tm.getD 27 .junk) (tm.getD 28 .junk) s K) (t0 :: (t1 :: (t2 :: (jk 4 ((V.slice none 0 0 true) :: (jk 19 (t1 :: ((V.int .i64 0) :: (jk 17 []))))))))) s (fun e tm s => exX e (fun j1 => (exB (j1 == 1)
 ((f122 (tm.getD 0 .junk) (V.int .i64 0) (tm.getD 7 .junk)) s fun t45 s =>
 (K t45 s))
 False)) (K V.junk s))))))))))))))
noncomputable def fn91 : V → V → V → M := fn91_q fn109 fn122
theorem fn91_qe (f109 : M1) (f122 : M3) (t0 t1 t2 : V) : fn91_q f109 f122 t0 t1 t2 = evF (E91 f109 f122) Tryz.f91 [t0, t1, t2] := by kernel_rfl
theorem fn91_s : SP Tryz.prog 91 (F3 fn91) := mk3 (mkEnv tab (L := L91 fn109 fn122) ⟨fn109_s, fn122_s, trivial⟩) Tryz.func91 (by kernel_rfl) (fn91_qe fn109 fn122)

/-! 124: (*sealchain/num.Writer).Raw -/
def L124 (f122 : M3) : List (Nat × (List V → M)) := [(122, F3 f122)]
def E124 (f122 : M3) : Env := ⟨ty, tabC (L124 f122), meth, tabL [], tabL []⟩
noncomputable def fn124_q (f122 : M3) (t0 t1 : V) : M := fun s K =>
 ((f122 t0 (V.int .i64 0) t1) s fun t7 s =>
 (K t7 s))
noncomputable def fn124 : V → V → M := fn124_q fn122
theorem fn124_qe (f122 : M3) (t0 t1 : V) : fn124_q f122 t0 t1 = evF (E124 f122) Tryz.f124 [t0, t1] := by kernel_rfl
theorem fn124_s : SP Tryz.prog 124 (F2 fn124) := mk2 (mkEnv tab (L := L124 fn122) ⟨fn122_s, trivial⟩) Tryz.func124 (by kernel_rfl) (fn124_qe fn122)

/-! 121: (*sealchain/num.Writer).Bytes -/
def L121 (f107 : M1) : List (Nat × (List V → M)) := [(107, F1 f107)]
def E121 (f107 : M1) : Env := ⟨ty, tabC (L121 f107), meth, tabL [], tabL []⟩
noncomputable def fn121_q (f107 : M1) (t0 : V) : M := fun s K =>
 (optK (binV .eql (some (Kd.ptr 163)) true t0 (V.ptr none)) s fun t6 s => (condV t6
 (K (V.tuple [(V.slice none 0 0 true), (V.int .i64 1)]) s)
 (optK (nilV t0) s fun t9 s => (optK (fp 1 t9) s fun t10 s => ((ld1 t10) s fun t11 s =>
 (optK (binV .neq (some (Kd.int .i64)) true t11 (V.int .i64 0)) s fun t12 s => (condV t12
 (optK (nilV t0) s fun t14 s => (optK (fp 1 t14) s fun t15 s => ((ld1 t15) s fun t16 s1 =>
 (K (V.tuple [(V.slice none 0 0 true), t16]) s1))))
 (optK (nilV t0) s fun t18 s => (optK (fp 0 t18) s fun t19 s => ((ld1 t19) s fun t20 s =>
 ((f107 t20) s fun t21 s =>
 (K (V.tuple [t21, (V.int .i64 0)]) s))))))))))))
noncomputable def fn121 : V → M := fn121_q fn107
theorem fn121_qe (f107 : M1) (t0 : V) : fn121_q f107 t0 = evF (E121 f107) Tryz.f121 [t0] := by kernel_rfl
theorem fn121_s : SP Tryz.prog 121 (F1 fn121) := mk1 (mkEnv tab (L := L121 fn107) ⟨fn107_s, trivial⟩) Tryz.func121 (by kernel_rfl) (fn121_qe fn107)

/-! 125: sealchain/wal.Record -/
def L125 (f90 : M) (f91 : M3) (f124 : M2) (f121 : M1) (f106 : M1) : List (Nat × (List V → M)) := [(90, F0 f90), (91, F3 f91), (124, F2 f124), (121, F1 f121), (106, F1 f106)]
def E125 (f90 : M) (f91 : M3) (f124 : M2) (f121 : M1) (f106 : M1) : Env := ⟨ty, tabC (L125 f90 f91 f124 f121 f106), meth, tabL [], tabL []⟩
noncomputable def fn125_q (f90 : M) (f91 : M3) (f124 : M2) (f121 : M1) (f106 : M1) (t0 : V) : M := fun s K =>
 (optK (lenV (some (Kd.slice 5)) t0) s fun t7 s => (optK (binV .gtr (some (Kd.int .i64)) true t7 (V.int .i64 40000)) s fun t8 s => (condV t8
 (K (V.tuple [(V.slice none 0 0 true), (V.int .i64 5)]) s)
 ((f90) s fun t10 s =>
 (optK (lenV (some (Kd.slice 5)) t0) s fun t12 s => ((f91 t10 (V.int .i64 2) t12) s fun t13 s =>
 (optK (lenV (some (Kd.slice 5)) t0) s fun t15 s => (optK (binV .sub (some (Kd.int .i64)) true (V.int .i64 65535) t15) s fun t16 s => ((f91 t13 (V.int .i64 2) t16) s fun t17 s =>
 ((f124 t17 t0) s fun t19 s =>
 ((f121 t19) s fun t20 s =>
 (optK (extractV t20 0) s fun t21 s => (optK (extractV t20 1) s fun t22 s => (optK (binV .neq (some (Kd.int .i64)) true t22 (V.int .i64 0)) s fun t24 s => (condV t24
 (K (V.tuple [(V.slice none 0 0 true), t22]) s)
 ((f106 t21) s fun t28 s =>
 ((app 1 1 t21 t28) s fun t29 s =>
 (K (V.tuple [t29, (V.int .i64 0)]) s))))))))))))))))))
noncomputable def fn125 : V → M := fn125_q fn90 fn91 fn124 fn121 fn106
theorem fn125_qe (f90 : M) (f91 : M3) (f124 : M2) (f121 : M1) (f106 : M1) (t0 : V) : fn125_q f90 f91 f124 f121 f106 t0 = evF (E125 f90 f91 f124 f121 f106) Tryz.f125 [t0] := by kernel_rfl
theorem fn125_s : SP Tryz.prog 125 (F1 fn125) := mk1 (mkEnv tab (L := L125 fn90 fn91 fn124 fn121 fn106) ⟨fn90_s, fn91_s, fn124_s, fn121_s, fn106_s, trivial⟩) Tryz.func125 (by kernel_rfl) (fn125_qe fn90 fn91 fn124 fn121 fn106)

/-! 96: sealchain/wal.records -/
def L96 (f125 : M1) : List (Nat × (List V → M)) := [(125, F1 f125)]
def E96 (f125 : M1) : Env := ⟨ty, tabC (L96 f125), meth, tabL [(2, [2, 8, 9, 10])], tabL [(2, [2, 3])]⟩
noncomputable def fn96_L1 (f125 : M1) (t2 t8 t9 t10 : V) : AS → KX → Prop := fun s K =>
 (optK (binV .lss (some (Kd.int .i64)) false t10 t9) s fun t11 s => (condV t11
 (optK (elemPtr none 1 t8 t10) s fun t12 s => ((ld1 t12) s fun t13 s =>
 ((f125 t13) s fun t16 s =>
 (optK (extractV t16 0) s fun t17 s => (optK (extractV t16 1) s fun t18 s => (optK (binV .neq (some (Kd.int .i64)) true t18 (V.int .i64 0)) s fun t20 s => (condV t20
 (K .ret (V.junk :: (V.junk :: ((V.slice none 0 0 true) :: (t18 :: (jk 23 []))))) s)
 ((app 1 1 t2 t17) s fun t24 s =>
 (optK (binV .add (some (Kd.int .i64)) true t10 (V.int .i64 1)) s fun t25 s => (K .nrm (V.junk :: (V.junk :: (t24 :: (jk 5 (t8 :: (t9 :: (t25 :: (jk 16 [])))))))) s))))))))))
 (K (.exit 0) (V.junk :: (V.junk :: (t2 :: (jk 24 [])))) s)))
noncomputable def fn96_q (f125 : M1) (t0 : V) : M := fun s K =>
 (optK (lenV (some (Kd.slice 59)) t0) s fun t9 s => (loopN LOOPS (fun tm s K => fn96_L1 f125 (tm.getD 2 .junk) (tm.getD 8 .junk) (tm.getD 9 .junk) (tm.getD 10 .junk) s K) (V.junk :: (V.junk :: ((V.slice none 0 0 true) :: (jk 5 (t0 :: (t9 :: ((V.int .i64 0) :: (jk 16 [])))))))) s (fun e tm s => exX e (fun j1 => (exB (j1 == 0)
 (K (V.tuple [(tm.getD 2 .junk), (V.int .i64 0)]) s)
 False)) (K (V.tuple [(tm.getD 2 .junk), (tm.getD 3 .junk)]) s))))
noncomputable def fn96 : V → M := fn96_q fn125
theorem fn96_qe (f125 : M1) (t0 : V) : fn96_q f125 t0 = evF (E96 f125) Tryz.f96 [t0] := by kernel_rfl
theorem fn96_s : SP Tryz.prog 96 (F1 fn96) := mk1 (mkEnv tab (L := L96 fn125) ⟨fn125_s, trivial⟩) Tryz.func96 (by kernel_rfl) (fn96_qe fn125)

/-! 22: (*sealchain/disk.Disk).Write -/
def L22 (f52 : M1) (f53 : M1) : List (Nat × (List V → M)) := [(52, F1 f52), (53, F1 f53)]
def E22 (f52 : M1) (f53 : M1) : Env := ⟨ty, tabC (L22 f52 f53), meth, tabL [], tabL []⟩
noncomputable def fn22_q (f52 : M1) (f53 : M1) (t0 t1 : V) : M := fun s K =>
 ((f52 t0) s fun t7 s =>
 (optK (binV .neq (some (Kd.int .i64)) true t7 (V.int .i64 0)) s fun t9 s => (condV t9
 (K t7 s)
 (optK (nilV t0) s fun t12 s => (optK (fp 0 t12) s fun t13 s => ((ld1 t13) s fun t14 s =>
 (optK (lenV (some (Kd.slice 5)) t14) s fun t15 s => (optK (lenV (some (Kd.slice 5)) t1) s fun t17 s => (optK (binV .add (some (Kd.int .i64)) false t15 t17) s fun t18 s => (optK (binV .gtr (some (Kd.int .i64)) true t18 (V.int .i64 1048576)) s fun t19 s => (condV t19
 (K (V.int .i64 5) s)
 (optK (nilV t0) s fun t22 s => (optK (fp 0 t22) s fun t23 s => ((ld1 t23) s fun t24 s =>
 ((app 1 1 t24 t1) s fun t26 s =>
 (optK (nilV t0) s fun t27 s => (optK (fp 0 t27) s fun t28 s => ((st 1 t28 t26) s fun _ s =>
 (optK (nilV t0) s fun t31 s => (optK (fp 4 t31) s fun t32 s => ((ld1 t32) s fun t33 s1 =>
 ((f53 t1) s1 fun t35 s2 =>
 (chkB (holds ti52 t32 s2 t33) ((bsl 1 [(V.slice none 0 0 true)] 1 [(0, t35)]) s2 fun t36 s3 =>
 (chkB (holds ti52 t32 s3 t33) ((app 1 24 t33 t36) s3 fun t37 s4 =>
 (optK (nilV t0) s4 fun t38 s4 => (optK (fp 4 t38) s4 fun t39 s4 => ((st 1 t39 t37) s4 fun _ s5 =>
 (K (V.int .i64 0) s5))))))))))))))))))))))))))))))
noncomputable def fn22 : V → V → M := fn22_q fn52 fn53
theorem fn22_qe (f52 : M1) (f53 : M1) (t0 t1 : V) : fn22_q f52 f53 t0 t1 = evF (E22 f52 f53) Tryz.f22 [t0, t1] := by kernel_rfl
theorem fn22_s : SP Tryz.prog 22 (F2 fn22) := mk2 (mkEnv tab (L := L22 fn52 fn53) ⟨fn52_s, fn53_s, trivial⟩) Tryz.func22 (by kernel_rfl) (fn22_qe fn52 fn53)

/-! 97: (*sealchain/wal.Log).did -/
def L97 : List (Nat × (List V → M)) := []
def E97 : Env := ⟨ty, tabC (L97), meth, tabL [], tabL []⟩
noncomputable def fn97_q (t0 t1 : V) : M := fun s K =>
 (optK (binV .eql (some (Kd.int .i64)) true t1 (V.int .i64 130)) s fun t7 s => (optK (nilV t0) s fun t8 s => (optK (fp 2 t8) s fun t9 s => ((st 1 t9 t7) s fun _ s =>
 (K t1 s)))))
noncomputable def fn97 : V → V → M := fn97_q
theorem fn97_qe (t0 t1 : V) : fn97_q t0 t1 = evF (E97) Tryz.f97 [t0, t1] := by kernel_rfl
theorem fn97_s : SP Tryz.prog 97 (F2 fn97) := mk2 (mkEnv tab (L := L97) trivial) Tryz.func97 (by kernel_rfl) (fn97_qe)

/-! 62: (*sealchain/disk.Disk).tear -/
def L62 : List (Nat × (List V → M)) := []
def E62 : Env := ⟨ty, tabC (L62), meth, tabL [], tabL []⟩
noncomputable def fn62_q (t0 t1 : V) : M := fun s K =>
 (optK (nilV t0) s fun t5 s => (optK (fp 1 t5) s fun t6 s => ((ld1 t6) s fun t7 s1 =>
 (optK (nilV t0) s1 fun t10 s1 => (optK (fp 0 t10) s1 fun t11 s1 => ((ld1 t11) s1 fun t12 s2 =>
 (optK (lenV (some (Kd.slice 5)) t12) s2 fun t13 s2 => (optK (nilV t0) s2 fun t15 s2 => (optK (fp 1 t15) s2 fun t16 s2 => ((ld1 t16) s2 fun t17 s3 =>
 (optK (binV .sub (some (Kd.int .i64)) false t13 t17) s3 fun t18 s3 => (optK (foldV min2V t1 [t18]) s3 fun t19 s3 => (optK (binV .add (some (Kd.int .i64)) false t7 t19) s3 fun t20 s3 => (optK (nilV t0) s3 fun t21 s3 => (optK (fp 1 t21) s3 fun t22 s3 => ((st 1 t22 t20) s3 fun _ s4 =>
 (optK (nilV t0) s4 fun t26 s4 => (optK (fp 0 t26) s4 fun t27 s4 => ((ld1 t27) s4 fun t28 s5 =>
 (optK (nilV t0) s5 fun t30 s5 => (optK (fp 1 t30) s5 fun t31 s5 => ((ld1 t31) s5 fun t32 s6 =>
 (optK (sliceSl 1 t28 none (some t32) none) s6 fun t33 s6 => (optK (nilV t0) s6 fun t34 s6 => (optK (fp 0 t34) s6 fun t35 s6 => ((st 1 t35 t33) s6 fun _ s7 =>
 (optK (nilV t0) s7 fun t36 s7 => (optK (fp 2 t36) s7 fun t37 s7 => ((st 1 t37 (V.bool true)) s7 fun _ s8 =>
 (K (V.tuple []) s8))))))))))))))))))))))))))))))
noncomputable def fn62 : V → V → M := fn62_q
theorem fn62_qe (t0 t1 : V) : fn62_q t0 t1 = evF (E62) Tryz.f62 [t0, t1] := by kernel_rfl
theorem fn62_s : SP Tryz.prog 62 (F2 fn62) := mk2 (mkEnv tab (L := L62) trivial) Tryz.func62 (by kernel_rfl) (fn62_qe)

/-! 61: (*sealchain/disk.Disk).Arm$1 -/
def L61 (f62 : M2) : List (Nat × (List V → M)) := [(62, F2 f62)]
def E61 (f62 : M2) : Env := ⟨ty, tabC (L61 f62), meth, tabL [], tabL []⟩
noncomputable def fn61_q (f62 : M2) (t0 t1 : V) : M := fun s K =>
 ((ld1 t1) s fun t5 s =>
 ((f62 t0 t5) s fun t6 s =>
 (K (V.bool false) s)))
noncomputable def fn61 : V → V → M := fn61_q fn62
theorem fn61_qe (f62 : M2) (t0 t1 : V) : fn61_q f62 t0 t1 = evF (E61 f62) Tryz.f61 [t0, t1] := by kernel_rfl
theorem fn61_s : SP Tryz.prog 61 (F2 fn61) := mk2 (mkEnv tab (L := L61 fn62) ⟨fn62_s, trivial⟩) Tryz.func61 (by kernel_rfl) (fn61_qe fn62)
end Go.Proofs.Vt
