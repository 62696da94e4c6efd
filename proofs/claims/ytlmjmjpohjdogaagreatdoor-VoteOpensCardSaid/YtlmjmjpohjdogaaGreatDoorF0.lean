/- A part of the proofs of the Vote laws: functions of the program in the evaluator's form, printed by a program of the prover's, each equation checked by the kernel. -/
import Derived.Test.YtlmjmjpohjdogaaGreatDoorSeq
set_option linter.unusedVariables false
set_option linter.unusedSimpArgs false
/- PRINTED by gen.py. -/
set_option maxRecDepth 100000
namespace Go.Proofs.Vt
open Go Go.Rx Go.Proofs
/-! 38: sealchain/disk.always -/
abbrev N_fn38 : FuncId := 38
def L38 : List (Nat × (List V → M)) := []
def E38 : Env := ⟨ty, tabC (L38), meth, tabL [], tabL []⟩
noncomputable def fn38_q (t0 : V) : M := fun s K =>
 (K (V.bool true) s)
noncomputable def fn38 : V → M := fn38_q
theorem fn38_qe (t0 : V) : fn38_q t0 = evF (E38) Tryz.f38 [t0] := by kernel_rfl
theorem fn38_s : SP Tryz.prog 38 (F1 fn38) := mk1 (mkEnv tab (L := L38) trivial) Tryz.func38 (by kernel_rfl) (fn38_qe)

/-! 9: sealchain/disk.New -/
def L9 (f38 : M1) : List (Nat × (List V → M)) := [(38, F1 f38)]
def E9 (f38 : M1) : Env := ⟨ty, tabC (L9 f38), meth, tabL [], tabL []⟩
noncomputable def fn9_q (f38 : M1) : M := fun s K =>
 (optK (aggO (fillV (placeS [(0, 59), (1, 3), (2, 4), (3, 85), (4, 52)] ty) [(V.slice none 0 0 true), (V.int .i64 0), (V.bool false), V.nilFunc, (V.slice none 0 0 true)] [(3, (V.func (.func 38) [] []))])) s fun t1 s => ((boxV t1) s fun t2 s =>
 (K t2 s)))
noncomputable def fn9 : M := fn9_q fn38
theorem fn9_qe (f38 : M1) : fn9_q f38 = evF (E9 f38) Tryz.f9 [] := by kernel_rfl
theorem fn9_s : SP Tryz.prog 9 (F0 fn9) := mk0 (mkEnv tab (L := L9 fn38) ⟨fn38_s, trivial⟩) Tryz.func9 (by kernel_rfl) (fn9_qe fn38)

/-! 64: (*sealchain/disk.Disk).none -/
def L64 : List (Nat × (List V → M)) := []
def E64 : Env := ⟨ty, tabC (L64), meth, tabL [], tabL []⟩
noncomputable def fn64_q (t0 : V) : M := fun s K =>
 (optK (binV .eql (some (Kd.ptr 87)) true t0 (V.ptr none)) s fun t4 s => (grd t4
 (K (V.bool true) s)
 (optK (nilV t0) s fun t7 s => (optK (fp 3 t7) s fun t8 s => ((ld1 t8) s fun t9 s =>
 (optK (binV .eql (some Kd.func) true t9 V.nilFunc) s fun t10 s => (K t10 s)))))
 False))
noncomputable def fn64 : V → M := fn64_q
theorem fn64_qe (t0 : V) : fn64_q t0 = evF (E64) Tryz.f64 [t0] := by kernel_rfl
theorem fn64_s : SP Tryz.prog 64 (F1 fn64) := mk1 (mkEnv tab (L := L64) trivial) Tryz.func64 (by kernel_rfl) (fn64_qe)

/-! 52: (*sealchain/disk.Disk).live -/
def L52 (f64 : M1) : List (Nat × (List V → M)) := [(64, F1 f64)]
def E52 (f64 : M1) : Env := ⟨ty, tabC (L52 f64), meth, tabL [], tabL []⟩
noncomputable def fn52_q (f64 : M1) (t0 : V) : M := fun s K =>
 ((f64 t0) s fun t5 s =>
 (condV t5
 (K (V.int .i64 1) s)
 (optK (nilV t0) s fun t8 s => (optK (fp 2 t8) s fun t9 s => ((ld1 t9) s fun t10 s =>
 (condV t10
 (K (V.int .i64 130) s)
 (K (V.int .i64 0) s)))))))
noncomputable def fn52 : V → M := fn52_q fn64
theorem fn52_qe (f64 : M1) (t0 : V) : fn52_q f64 t0 = evF (E52 f64) Tryz.f52 [t0] := by kernel_rfl
theorem fn52_s : SP Tryz.prog 52 (F1 fn52) := mk1 (mkEnv tab (L := L52 fn64) ⟨fn64_s, trivial⟩) Tryz.func52 (by kernel_rfl) (fn52_qe fn64)

/-! 65: (*sealchain/disk.Disk).Cut -/
def L65 (f52 : M1) : List (Nat × (List V → M)) := [(52, F1 f52)]
def E65 (f52 : M1) : Env := ⟨ty, tabC (L65 f52), meth, tabL [], tabL []⟩
noncomputable def fn65_q (f52 : M1) (t0 t1 : V) : M := fun s K =>
 ((f52 t0) s fun t7 s =>
 (optK (binV .neq (some (Kd.int .i64)) true t7 (V.int .i64 0)) s fun t9 s => (condV t9
 (K t7 s)
 (optK (binV .lss (some (Kd.int .i64)) true t1 (V.int .i64 0)) s fun t12 s => (grd t12
 (K (V.int .i64 9) s)
 (optK (nilV t0) s fun t16 s => (optK (fp 0 t16) s fun t17 s => ((ld1 t17) s fun t18 s =>
 (optK (lenV (some (Kd.slice 5)) t18) s fun t19 s => (optK (binV .gtr (some (Kd.int .i64)) false t1 t19) s fun t20 s => (condV t20
 (K (V.int .i64 9) s)
 (optK (nilV t0) s fun t25 s => (optK (fp 0 t25) s fun t26 s => ((ld1 t26) s fun t27 s =>
 (optK (sliceSl 1 t27 none (some t1) none) s fun t29 s => (optK (nilV t0) s fun t31 s => (optK (fp 0 t31) s fun t32 s => ((st 1 t32 t29) s fun _ s =>
 (optK (nilV t0) s fun t33 s => (optK (fp 1 t33) s fun t34 s => ((st 1 t34 t1) s fun _ s =>
 (K (V.int .i64 0) s)))))))))))))))))
 False)))))
noncomputable def fn65 : V → V → M := fn65_q fn52
theorem fn65_qe (f52 : M1) (t0 t1 : V) : fn65_q f52 t0 t1 = evF (E65 f52) Tryz.f65 [t0, t1] := by kernel_rfl
theorem fn65_s : SP Tryz.prog 65 (F2 fn65) := mk2 (mkEnv tab (L := L65 fn52) ⟨fn52_s, trivial⟩) Tryz.func65 (by kernel_rfl) (fn65_qe fn52)

/-! 53: sealchain/disk.copied -/
def L53 : List (Nat × (List V → M)) := []
def E53 : Env := ⟨ty, tabC (L53), meth, tabL [], tabL []⟩
noncomputable def fn53_q (t0 : V) : M := fun s K =>
 (optK (lenV (some (Kd.slice 5)) t0) s fun t5 s => ((mkSl 1 1 [(V.int .u8 0)] t5 t5) s fun t6 s =>
 ((cpy 1 t6 t0) s fun t9 s =>
 (K t6 s))))
noncomputable def fn53 : V → M := fn53_q
theorem fn53_qe (t0 : V) : fn53_q t0 = evF (E53) Tryz.f53 [t0] := by kernel_rfl
theorem fn53_s : SP Tryz.prog 53 (F1 fn53) := mk1 (mkEnv tab (L := L53) trivial) Tryz.func53 (by kernel_rfl) (fn53_qe)

/-! 60: (*sealchain/disk.Disk).Read -/
def L60 (f64 : M1) (f53 : M1) : List (Nat × (List V → M)) := [(64, F1 f64), (53, F1 f53)]
def E60 (f64 : M1) (f53 : M1) : Env := ⟨ty, tabC (L60 f64 f53), meth, tabL [], tabL []⟩
noncomputable def fn60_q (f64 : M1) (f53 : M1) (t0 : V) : M := fun s K =>
 ((f64 t0) s fun t4 s =>
 (condV t4
 (K (V.slice none 0 0 true) s)
 (optK (nilV t0) s fun t6 s => (optK (fp 0 t6) s fun t7 s => ((ld1 t7) s fun t8 s =>
 ((f53 t8) s fun t9 s =>
 (K t9 s)))))))
noncomputable def fn60 : V → M := fn60_q fn64 fn53
theorem fn60_qe (f64 : M1) (f53 : M1) (t0 : V) : fn60_q f64 f53 t0 = evF (E60 f64 f53) Tryz.f60 [t0] := by kernel_rfl
theorem fn60_s : SP Tryz.prog 60 (F1 fn60) := mk1 (mkEnv tab (L := L60 fn64 fn53) ⟨fn64_s, fn53_s, trivial⟩) Tryz.func60 (by kernel_rfl) (fn60_qe fn64 fn53)

/-! 107: slices.Clone[[]byte,byte] -/
def L107 : List (Nat × (List V → M)) := []
def E107 : Env := ⟨ty, tabC (L107), meth, tabL [], tabL []⟩
noncomputable def fn107_q (t0 : V) : M := fun s K =>
 (optK (binV .eql (some (Kd.slice 5)) true t0 (V.slice none 0 0 true)) s fun t4 s => (condV t4
 (K (V.slice none 0 0 true) s)
 ((bsl 1 [(V.int .u8 0)] 0 []) s fun t5 s =>
 ((app 1 1 t5 t0) s fun t7 s =>
 (K t7 s)))))
noncomputable def fn107 : V → M := fn107_q
theorem fn107_qe (t0 : V) : fn107_q t0 = evF (E107) Tryz.f107 [t0] := by kernel_rfl
theorem fn107_s : SP Tryz.prog 107 (F1 fn107) := mk1 (mkEnv tab (L := L107) trivial) Tryz.func107 (by kernel_rfl) (fn107_qe)

/-! 71: sealchain/num.Read -/
def L71 (f107 : M1) : List (Nat × (List V → M)) := [(107, F1 f107)]
def E71 (f107 : M1) : Env := ⟨ty, tabC (L71 f107), meth, tabL [], tabL []⟩
noncomputable def fn71_q (f107 : M1) (t0 : V) : M := fun s K =>
 ((f107 t0) s fun t4 s =>
 (optK (aggO (fillV (placeS [(0, 59), (1, 24)] ty) [(V.slice none 0 0 true), (V.int .i64 0)] [(0, t4)])) s fun t5 s => ((boxV t5) s fun t6 s =>
 (K t6 s))))
noncomputable def fn71 : V → M := fn71_q fn107
theorem fn71_qe (f107 : M1) (t0 : V) : fn71_q f107 t0 = evF (E71 f107) Tryz.f71 [t0] := by kernel_rfl
theorem fn71_s : SP Tryz.prog 71 (F1 fn71) := mk1 (mkEnv tab (L := L71 fn107) ⟨fn107_s, trivial⟩) Tryz.func71 (by kernel_rfl) (fn71_qe fn107)

/-! 108: (*sealchain/num.Reader).Err -/
def L108 : List (Nat × (List V → M)) := []
def E108 : Env := ⟨ty, tabC (L108), meth, tabL [], tabL []⟩
noncomputable def fn108_q (t0 : V) : M := fun s K =>
 (optK (binV .eql (some (Kd.ptr 154)) true t0 (V.ptr none)) s fun t4 s => (condV t4
 (K (V.int .i64 0) s)
 (optK (nilV t0) s fun t6 s => (optK (fp 1 t6) s fun t7 s => ((ld1 t7) s fun t8 s =>
 (K t8 s))))))
noncomputable def fn108 : V → M := fn108_q
theorem fn108_qe (t0 : V) : fn108_q t0 = evF (E108) Tryz.f108 [t0] := by kernel_rfl
theorem fn108_s : SP Tryz.prog 108 (F1 fn108) := mk1 (mkEnv tab (L := L108) trivial) Tryz.func108 (by kernel_rfl) (fn108_qe)

/-! 109: sealchain/num.wide -/
def L109 : List (Nat × (List V → M)) := []
def E109 : Env := ⟨ty, tabC (L109), meth, tabL [], tabL []⟩
noncomputable def fn109_q (t0 : V) : M := fun s K =>
 (optK (binV .eql (some (Kd.int .i64)) true t0 (V.int .i64 1)) s fun t4 s => (grd t4
 (K (V.bool true) s)
 (optK (binV .eql (some (Kd.int .i64)) true t0 (V.int .i64 2)) s fun t7 s => (grd t7
 (K (V.bool true) s)
 (optK (binV .eql (some (Kd.int .i64)) true t0 (V.int .i64 4)) s fun t11 s => (grd t11
 (K (V.bool true) s)
 (optK (binV .eql (some (Kd.int .i64)) true t0 (V.int .i64 8)) s fun t15 s => (K t15 s))
 False))
 False))
 False))
noncomputable def fn109 : V → M := fn109_q
theorem fn109_qe (t0 : V) : fn109_q t0 = evF (E109) Tryz.f109 [t0] := by kernel_rfl
theorem fn109_s : SP Tryz.prog 109 (F1 fn109) := mk1 (mkEnv tab (L := L109) trivial) Tryz.func109 (by kernel_rfl) (fn109_qe)

/-! 140: cmp.Or[sealchain/api.Errno] -/
def L140 : List (Nat × (List V → M)) := []
def E140 : Env := ⟨ty, tabC (L140), meth, tabL [(3, [3, 6, 7, 8])], tabL [(3, [2, 3])]⟩
noncomputable def fn140_L1 (t3 t6 t7 t8 : V) : AS → KX → Prop := fun s K =>
 (optK (binV .lss (some (Kd.int .i64)) false t8 t7) s fun t9 s => (condV t9
 (optK (elemPtr none 1 t6 t8) s fun t10 s => ((ld1 t10) s fun t11 s =>
 (optK (binV .neq (some (Kd.int .i64)) false t11 t3) s fun t14 s => (condV t14
 (K .ret (V.junk :: (V.junk :: (t11 :: (t3 :: (jk 14 []))))) s)
 (optK (binV .add (some (Kd.int .i64)) true t8 (V.int .i64 1)) s fun t16 s => (K .nrm (jk 3 (t3 :: (V.junk :: (V.junk :: (t6 :: (t7 :: (t16 :: (jk 9 [])))))))) s))))))
 (K (.exit 0) (jk 3 (t3 :: (jk 14 []))) s)))
noncomputable def fn140_q (t0 : V) : M := fun s K =>
 (optK (lenV (some (Kd.slice 24)) t0) s fun t7 s => (loopN LOOPS (fun tm s K => fn140_L1 (tm.getD 3 .junk) (tm.getD 6 .junk) (tm.getD 7 .junk) (tm.getD 8 .junk) s K) (jk 3 ((V.int .i64 0) :: (V.junk :: (V.junk :: (t0 :: (t7 :: ((V.int .i64 0) :: (jk 9 [])))))))) s (fun e tm s => exX e (fun j1 => (exB (j1 == 0)
 (K (tm.getD 3 .junk) s)
 False)) (K (tm.getD 2 .junk) s))))
noncomputable def fn140 : V → M := fn140_q
theorem fn140_qe (t0 : V) : fn140_q t0 = evF (E140) Tryz.f140 [t0] := by kernel_rfl
theorem fn140_s : SP Tryz.prog 140 (F1 fn140) := mk1 (mkEnv tab (L := L140) trivial) Tryz.func140 (by kernel_rfl) (fn140_qe)

/-! 110: (*sealchain/num.Reader).fail -/
def L110 (f140 : M1) : List (Nat × (List V → M)) := [(140, F1 f140)]
def E110 (f140 : M1) : Env := ⟨ty, tabC (L110 f140), meth, tabL [], tabL []⟩
noncomputable def fn110_q (f140 : M1) (t0 t1 : V) : M := fun s K =>
 (optK (binV .neq (some (Kd.ptr 154)) true t0 (V.ptr none)) s fun t6 s => (condV t6
 (optK (nilV t0) s fun t10 s => (optK (fp 1 t10) s fun t11 s => ((ld1 t11) s fun t12 s =>
 ((bsl 1 [(V.int .i64 0)] 2 [(0, t12), (1, t1)]) s fun t14 s =>
 ((f140 t14) s fun t15 s =>
 (optK (nilV t0) s fun t16 s => (optK (fp 0 t16) s fun t17 s => ((st 1 t17 (V.slice none 0 0 true)) s fun _ s =>
 (optK (nilV t0) s fun t18 s => (optK (fp 1 t18) s fun t19 s => ((st 1 t19 t15) s fun _ s =>
 (K (V.int .i64 0) s))))))))))))
 (K (V.int .i64 0) s)))
noncomputable def fn110 : V → V → M := fn110_q fn140
theorem fn110_qe (f140 : M1) (t0 t1 : V) : fn110_q f140 t0 t1 = evF (E110 f140) Tryz.f110 [t0, t1] := by kernel_rfl
theorem fn110_s : SP Tryz.prog 110 (F2 fn110) := mk2 (mkEnv tab (L := L110 fn140) ⟨fn140_s, trivial⟩) Tryz.func110 (by kernel_rfl) (fn110_qe fn140)

/-! 113: (*sealchain/num.Reader).Left -/
def L113 : List (Nat × (List V → M)) := []
def E113 : Env := ⟨ty, tabC (L113), meth, tabL [], tabL []⟩
noncomputable def fn113_q (t0 : V) : M := fun s K =>
 (optK (binV .eql (some (Kd.ptr 154)) true t0 (V.ptr none)) s fun t4 s => (condV t4
 (K (V.int .i64 0) s)
 (optK (nilV t0) s fun t6 s => (optK (fp 0 t6) s fun t7 s => ((ld1 t7) s fun t8 s =>
 (optK (lenV (some (Kd.slice 5)) t8) s fun t9 s => (K t9 s)))))))
noncomputable def fn113 : V → M := fn113_q
theorem fn113_qe (t0 : V) : fn113_q t0 = evF (E113) Tryz.f113 [t0] := by kernel_rfl
theorem fn113_s : SP Tryz.prog 113 (F1 fn113) := mk1 (mkEnv tab (L := L113) trivial) Tryz.func113 (by kernel_rfl) (fn113_qe)

/-! 111: (*sealchain/num.Reader).Raw -/
def L111 (f108 : M1) (f110 : M2) (f113 : M1) (f107 : M1) : List (Nat × (List V → M)) := [(108, F1 f108), (110, F2 f110), (113, F1 f113), (107, F1 f107)]
def E111 (f108 : M1) (f110 : M2) (f113 : M1) (f107 : M1) : Env := ⟨ty, tabC (L111 f108 f110 f113 f107), meth, tabL [], tabL []⟩
noncomputable def fn111_q (f108 : M1) (f110 : M2) (f113 : M1) (f107 : M1) (t0 t1 : V) : M := fun s K =>
 ((f108 t0) s fun t8 s =>
 (optK (binV .neq (some (Kd.int .i64)) true t8 (V.int .i64 0)) s fun t9 s => (condV t9
 (K (V.slice none 0 0 true) s)
 (optK (binV .lss (some (Kd.int .i64)) true t1 (V.int .i64 0)) s fun t12 s => (condV t12
 ((f110 t0 (V.int .i64 2)) s fun t14 s =>
 (K (V.slice none 0 0 true) s))
 ((f113 t0) s fun t17 s =>
 (optK (binV .lss (some (Kd.int .i64)) false t17 t1) s fun t19 s => (condV t19
 ((f110 t0 (V.int .i64 3)) s fun t21 s =>
 (K (V.slice none 0 0 true) s))
 (optK (binV .eql (some (Kd.ptr 154)) true t0 (V.ptr none)) s fun t24 s => (condV t24
 (K (V.slice none 0 0 true) s)
 (optK (nilV t0) s fun t26 s => (optK (fp 0 t26) s fun t27 s => ((ld1 t27) s fun t28 s =>
 (optK (sliceSl 1 t28 none (some t1) none) s fun t30 s => ((f107 t30) s fun t31 s =>
 (optK (nilV t0) s fun t34 s => (optK (fp 0 t34) s fun t35 s => ((ld1 t35) s fun t36 s =>
 (optK (sliceSl 1 t36 (some t1) none none) s fun t38 s => (optK (nilV t0) s fun t39 s => (optK (fp 0 t39) s fun t40 s => ((st 1 t40 t38) s fun _ s =>
 (K t31 s)))))))))))))))))))))))
noncomputable def fn111 : V → V → M := fn111_q fn108 fn110 fn113 fn107
theorem fn111_qe (f108 : M1) (f110 : M2) (f113 : M1) (f107 : M1) (t0 t1 : V) : fn111_q f108 f110 f113 f107 t0 t1 = evF (E111 f108 f110 f113 f107) Tryz.f111 [t0, t1] := by kernel_rfl
theorem fn111_s : SP Tryz.prog 111 (F2 fn111) := mk2 (mkEnv tab (L := L111 fn108 fn110 fn113 fn107) ⟨fn108_s, fn110_s, fn113_s, fn107_s, trivial⟩) Tryz.func111 (by kernel_rfl) (fn111_qe fn108 fn110 fn113 fn107)

/-! 72: (*sealchain/num.Reader).Num -/
def L72 (f108 : M1) (f109 : M1) (f110 : M2) (f111 : M2) : List (Nat × (List V → M)) := [(108, F1 f108), (109, F1 f109), (110, F2 f110), (111, F2 f111)]
def E72 (f108 : M1) (f109 : M1) (f110 : M2) (f111 : M2) : Env := ⟨ty, tabC (L72 f108 f109 f110 f111), meth, tabL [(5, [0, 5, 20, 21, 22])], tabL [(5, [0, 5])]⟩
noncomputable def fn72_L1 (f108 : M1) (f109 : M1) (f110 : M2) (f111 : M2) (t0 t5 t20 t21 t22 : V) : AS → KX → Prop := fun s K =>
 (optK (binV .lss (some (Kd.int .i64)) false t22 t21) s fun t23 s => (condV t23
 (optK (elemPtr none 1 t20 t22) s fun t24 s => ((ld1 t24) s fun t25 s =>
 (optK (binV .shl (some (Kd.int .u64)) true t5 (V.int .u64 8)) s fun t27 s => ((cvt (Kd.int .u8) (Kd.int .u64) t25) s fun t29 s =>
 (optK (binV .or (some (Kd.int .u64)) false t27 t29) s fun t30 s => (optK (binV .add (some (Kd.int .i64)) true t22 (V.int .i64 1)) s fun t31 s => (K .nrm (t0 :: (jk 4 (t30 :: (jk 14 (t20 :: (t21 :: (t31 :: (jk 15 [])))))))) s)))))))
 (K (.exit 0) (t0 :: (jk 4 (t5 :: (jk 32 [])))) s)))
noncomputable def fn72_q (f108 : M1) (f109 : M1) (f110 : M2) (f111 : M2) (t0 t1 : V) : M := fun s K =>
 ((f108 t0) s fun t9 s =>
 (optK (binV .eql (some (Kd.int .i64)) true t9 (V.int .i64 0)) s fun t10 s => (grd t10
 ((f109 t1) s fun t13 s =>
 (optK (unV .not t13) s fun t14 s => (condV t14
 ((f110 t0 (V.int .i64 2)) s fun t17 s =>
 (K t17 s))
 ((f111 t0 t1) s fun t20 s =>
 (optK (lenV (some (Kd.slice 5)) t20) s fun t21 s => (loopN LOOPS (fun tm s K => fn72_L1 f108 f109 f110 f111 (tm.getD 0 .junk) (tm.getD 5 .junk) (tm.getD 20 .junk) (tm.getD 21 .junk) (tm.getD 22 .junk) s K) (t0 :: (jk 4 ((V.int .u64 0) :: (jk 14 (t20 :: (t21 :: ((V.int .i64 0) :: (jk 15 [])))))))) s (fun e tm s => exX e (fun j1 => (exB (j1 == 0)
 (optK (binV .gtr (some (Kd.int .u64)) true (tm.getD 5 .junk) (V.int .u64 9007199254740991)) s fun t33 s => (condV t33
 ((f110 (tm.getD 0 .junk) (V.int .i64 9)) s fun t35 s =>
 (K t35 s))
 ((cvt (Kd.int .u64) (Kd.int .i64) (tm.getD 5 .junk)) s fun t37 s =>
 (K t37 s))))
 False)) (K V.junk s))))))))
 ((f111 t0 t1) s fun t20 s =>
 (optK (lenV (some (Kd.slice 5)) t20) s fun t21 s => (loopN LOOPS (fun tm s K => fn72_L1 f108 f109 f110 f111 (tm.getD 0 .junk) (tm.getD 5 .junk) (tm.getD 20 .junk) (tm.getD 21 .junk) (tm.getD 22 .junk) s K) (t0 :: (jk 4 ((V.int .u64 0) :: (jk 14 (t20 :: (t21 :: ((V.int .i64 0) :: (jk 15 [])))))))) s (fun e tm s => exX e (fun j1 => (exB (j1 == 0)
 (optK (binV .gtr (some (Kd.int .u64)) true (tm.getD 5 .junk) (V.int .u64 9007199254740991)) s fun t33 s => (condV t33
 ((f110 (tm.getD 0 .junk) (V.int .i64 9)) s fun t35 s =>
 (K t35 s))
 ((cvt (Kd.int .u64) (Kd.int .i64) (tm.getD 5 .junk)) s fun t37 s =>
 (K t37 s))))
 False)) (K V.junk s)))))
 False)))
noncomputable def fn72 : V → V → M := fn72_q fn108 fn109 fn110 fn111
theorem fn72_qe (f108 : M1) (f109 : M1) (f110 : M2) (f111 : M2) (t0 t1 : V) : fn72_q f108 f109 f110 f111 t0 t1 = evF (E72 f108 f109 f110 f111) Tryz.f72 [t0, t1] := by kernel_rfl
theorem fn72_s : SP Tryz.prog 72 (F2 fn72) := mk2 (mkEnv tab (L := L72 fn108 fn109 fn110 fn111) ⟨fn108_s, fn109_s, fn110_s, fn111_s, trivial⟩) Tryz.func72 (by kernel_rfl) (fn72_qe fn108 fn109 fn110 fn111)

/-! 152: sealchain/sha.New -/
def L152 : List (Nat × (List V → M)) := []
def E152 : Env := ⟨ty, tabC (L152), meth, tabL [], tabL []⟩
noncomputable def fn152_q : M := fun s K =>
 (optK (aggO (fillV (placeS [(0, 146), (8, 59), (9, 3)] ty) [(V.int .u32 0), (V.int .u32 0), (V.int .u32 0), (V.int .u32 0), (V.int .u32 0), (V.int .u32 0), (V.int .u32 0), (V.int .u32 0), (V.slice none 0 0 true), (V.int .i64 0)] [])) s fun t1 s => ((boxV t1) s fun t2 s =>
 (K t2 s)))
noncomputable def fn152 : M := fn152_q
theorem fn152_qe : fn152_q = evF (E152) Tryz.f152 [] := by kernel_rfl
theorem fn152_s : SP Tryz.prog 152 (F0 fn152) := mk0 (mkEnv tab (L := L152) trivial) Tryz.func152 (by kernel_rfl) (fn152_qe)

/-! 179: (*sealchain/sha.Hash).words -/
def L179 : List (Nat × (List V → M)) := []
def E179 : Env := ⟨ty, tabC (L179), meth, tabL [], tabL []⟩
noncomputable def fn179_q (t0 : V) : M := fun s K =>
 ((newC [(V.int .u32 0), (V.int .u32 0), (V.int .u32 0), (V.int .u32 0), (V.int .u32 0), (V.int .u32 0), (V.int .u32 0), (V.int .u32 0)]) s fun t2 s =>
 (optK (nilV t0) s fun t4 s => (optK (fp 9 t4) s fun t5 s => ((ld1 t5) s fun t6 s =>
 (optK (binV .lss (some (Kd.int .i64)) true t6 (V.int .i64 64)) s fun t7 s => (condV t7
 ((ldA 8 (V.ptr (some ⟨.old 0, 0⟩))) s fun t8 s =>
 ((st 8 t2 t8) s fun _ s =>
 (rfin (rcons (peek ti146 t2 s) (some [])) s K)))
 (optK (nilV t0) s fun t10 s => (optK (fp 0 t10) s fun t11 s => ((ldA 8 t11) s fun t12 s =>
 ((st 8 t2 t12) s fun _ s =>
 (rfin (rcons (peek ti146 t2 s) (some [])) s K)))))))))))
noncomputable def fn179 : V → M := fn179_q
theorem fn179_qe (t0 : V) : fn179_q t0 = evF (E179) Tryz.f179 [t0] := by kernel_rfl
theorem fn179_s : SP Tryz.prog 179 (F1 fn179) := mk1 (mkEnv tab (L := L179) trivial) Tryz.func179 (by kernel_rfl) (fn179_qe)

/-! 190: sealchain/sha.turn -/
def L190 : List (Nat × (List V → M)) := []
def E190 : Env := ⟨ty, tabC (L190), meth, tabL [], tabL []⟩
noncomputable def fn190_q (t0 t1 : V) : M := fun s K =>
 (optK (binV .shr (some (Kd.int .u32)) false t0 t1) s fun t7 s => (optK (binV .sub (some (Kd.int .i64)) true (V.int .i64 32) t1) s fun t10 s => (optK (binV .shl (some (Kd.int .u32)) false t0 t10) s fun t11 s => (optK (binV .or (some (Kd.int .u32)) false t7 t11) s fun t12 s => (K t12 s)))))
noncomputable def fn190 : V → V → M := fn190_q
theorem fn190_qe (t0 t1 : V) : fn190_q t0 t1 = evF (E190) Tryz.f190 [t0, t1] := by kernel_rfl
theorem fn190_s : SP Tryz.prog 190 (F2 fn190) := mk2 (mkEnv tab (L := L190) trivial) Tryz.func190 (by kernel_rfl) (fn190_qe)

/-! 180: sealchain/sha.take -/
def L180 (f190 : M2) : List (Nat × (List V → M)) := [(190, F2 f190)]
def E180 (f190 : M2) : Env := ⟨ty, tabC (L180 f190), meth, tabL [(3, [1, 2, 4, 5, 23]), (12, [2, 4, 5, 9, 10, 11, 12, 13, 14, 15, 16, 117, 118]), (19, [2, 4, 185, 186])], tabL [(3, [2, 4, 5]), (12, [2, 4, 9, 10, 11, 12, 13, 14, 15, 16]), (19, [2, 4])]⟩
noncomputable def fn180_L1 (f190 : M2) (t1 t2 t4 t5 t23 : V) : AS → KX → Prop := fun s K =>
 (optK (binV .lss (some (Kd.int .i64)) true t23 (V.int .i64 64)) s fun t24 s => (condV t24
 (optK (binV .lss (some (Kd.int .i64)) true t23 (V.int .i64 16)) s fun t27 s => (condV t27
 (optK (binV .mul (some (Kd.int .i64)) true (V.int .i64 4) t23) s fun t31 s => (optK (elemPtr none 1 t1 t31) s fun t32 s => ((ld1 t32) s fun t33 s1 =>
 ((cvt (Kd.int .u8) (Kd.int .u32) t33) s1 fun t34 s1 =>
 (optK (binV .shl (some (Kd.int .u32)) true t34 (V.int .u64 24)) s1 fun t35 s1 => (optK (binV .mul (some (Kd.int .i64)) true (V.int .i64 4) t23) s1 fun t38 s1 => (optK (binV .add (some (Kd.int .i64)) true t38 (V.int .i64 1)) s1 fun t39 s1 => (optK (elemPtr none 1 t1 t39) s1 fun t40 s1 => ((ld1 t40) s1 fun t41 s2 =>
 ((cvt (Kd.int .u8) (Kd.int .u32) t41) s2 fun t42 s2 =>
 (optK (binV .shl (some (Kd.int .u32)) true t42 (V.int .u64 16)) s2 fun t43 s2 => (optK (binV .or (some (Kd.int .u32)) false t35 t43) s2 fun t44 s2 => (optK (binV .mul (some (Kd.int .i64)) true (V.int .i64 4) t23) s2 fun t47 s2 => (optK (binV .add (some (Kd.int .i64)) true t47 (V.int .i64 2)) s2 fun t48 s2 => (optK (elemPtr none 1 t1 t48) s2 fun t49 s2 => ((ld1 t49) s2 fun t50 s3 =>
 ((cvt (Kd.int .u8) (Kd.int .u32) t50) s3 fun t51 s3 =>
 (optK (binV .shl (some (Kd.int .u32)) true t51 (V.int .u64 8)) s3 fun t52 s3 => (optK (binV .or (some (Kd.int .u32)) false t44 t52) s3 fun t53 s3 => (optK (binV .mul (some (Kd.int .i64)) true (V.int .i64 4) t23) s3 fun t56 s3 => (optK (binV .add (some (Kd.int .i64)) true t56 (V.int .i64 3)) s3 fun t57 s3 => (optK (elemPtr none 1 t1 t57) s3 fun t58 s3 => ((ld1 t58) s3 fun t59 s4 =>
 ((cvt (Kd.int .u8) (Kd.int .u32) t59) s4 fun t60 s4 =>
 (optK (binV .or (some (Kd.int .u32)) false t53 t60) s4 fun t61 s4 => (optK (elemPtr (some 64) 1 t5 t23) s4 fun t62 s4 => ((st 1 t62 t61) s4 fun _ s5 =>
 (optK (binV .add (some (Kd.int .i64)) true t23 (V.int .i64 1)) s5 fun t100 s5 => (K .nrm (V.junk :: (t1 :: (t2 :: (V.junk :: (t4 :: (t5 :: (jk 17 (t100 :: (jk 174 []))))))))) s5)))))))))))))))))))))))))))))
 (optK (binV .sub (some (Kd.int .i64)) true t23 (V.int .i64 15)) s fun t64 s => (optK (elemPtr (some 64) 1 t5 t64) s fun t65 s => ((ld1 t65) s fun t66 s6 =>
 (optK (binV .sub (some (Kd.int .i64)) true t23 (V.int .i64 2)) s6 fun t68 s6 => (optK (elemPtr (some 64) 1 t5 t68) s6 fun t69 s6 => ((ld1 t69) s6 fun t70 s7 =>
 ((f190 t70 (V.int .i64 17)) s7 fun t73 s8 =>
 ((f190 t70 (V.int .i64 19)) s8 fun t75 s9 =>
 (optK (binV .xor (some (Kd.int .u32)) false t73 t75) s9 fun t76 s9 => (optK (binV .shr (some (Kd.int .u32)) true t70 (V.int .u64 10)) s9 fun t78 s9 => (optK (binV .xor (some (Kd.int .u32)) false t76 t78) s9 fun t79 s9 => (optK (binV .sub (some (Kd.int .i64)) true t23 (V.int .i64 7)) s9 fun t81 s9 => (optK (elemPtr (some 64) 1 t5 t81) s9 fun t82 s9 => ((ld1 t82) s9 fun t83 s10 =>
 (chkB (holds ti145 t82 s8 t83) (chkB (holds ti145 t82 s7 t83) (optK (binV .add (some (Kd.int .u32)) false t79 t83) s10 fun t84 s10 => ((f190 t66 (V.int .i64 7)) s10 fun t86 s11 =>
 (chkB (holds ti145 t82 s11 t83) ((f190 t66 (V.int .i64 18)) s11 fun t88 s12 =>
 (chkB (holds ti145 t82 s12 t83) (optK (binV .xor (some (Kd.int .u32)) false t86 t88) s12 fun t89 s12 => (optK (binV .shr (some (Kd.int .u32)) true t66 (V.int .u64 3)) s12 fun t91 s12 => (optK (binV .xor (some (Kd.int .u32)) false t89 t91) s12 fun t92 s12 => (optK (binV .add (some (Kd.int .u32)) false t84 t92) s12 fun t93 s12 => (optK (binV .sub (some (Kd.int .i64)) true t23 (V.int .i64 16)) s12 fun t95 s12 => (optK (elemPtr (some 64) 1 t5 t95) s12 fun t96 s12 => ((ld1 t96) s12 fun t97 s13 =>
 (chkB (holds ti145 t96 s11 t97) (chkB (holds ti145 t96 s10 t97) (chkB (holds ti145 t96 s8 t97) (chkB (holds ti145 t96 s7 t97) (optK (binV .add (some (Kd.int .u32)) false t93 t97) s13 fun t98 s13 => (optK (elemPtr (some 64) 1 t5 t23) s13 fun t99 s13 => ((st 1 t99 t98) s13 fun _ s14 =>
 (optK (binV .add (some (Kd.int .i64)) true t23 (V.int .i64 1)) s14 fun t100 s14 => (K .nrm (V.junk :: (t1 :: (t2 :: (V.junk :: (t4 :: (t5 :: (jk 17 (t100 :: (jk 174 []))))))))) s14)))))))))))))))))))))))))))))))))))))))
 (K (.exit 0) (V.junk :: (V.junk :: (t2 :: (V.junk :: (t4 :: (t5 :: (jk 192 []))))))) s)))
noncomputable def fn180_L2 (f190 : M2) (t2 t4 t5 t9 t10 t11 t12 t13 t14 t15 t16 t117 t118 : V) : AS → KX → Prop := fun s K =>
 (optK (binV .lss (some (Kd.int .i64)) true t118 (V.int .i64 64)) s fun t119 s => (condV t119
 (optK (indexV false 64 1 t117 t118) s fun t121 s => ((f190 t13 (V.int .i64 6)) s fun t124 s23 =>
 ((f190 t13 (V.int .i64 11)) s23 fun t126 s24 =>
 (optK (binV .xor (some (Kd.int .u32)) false t124 t126) s24 fun t127 s24 => ((f190 t13 (V.int .i64 25)) s24 fun t129 s25 =>
 (optK (binV .xor (some (Kd.int .u32)) false t127 t129) s25 fun t130 s25 => (optK (binV .add (some (Kd.int .u32)) false t16 t130) s25 fun t131 s25 => (optK (binV .xor (some (Kd.int .u32)) false t14 t15) s25 fun t136 s25 => (optK (binV .and (some (Kd.int .u32)) false t13 t136) s25 fun t137 s25 => (optK (binV .xor (some (Kd.int .u32)) false t15 t137) s25 fun t138 s25 => (optK (binV .add (some (Kd.int .u32)) false t131 t138) s25 fun t139 s25 => (optK (binV .add (some (Kd.int .u32)) false t139 t121) s25 fun t141 s25 => (optK (elemPtr (some 64) 1 t5 t118) s25 fun t143 s25 => ((ld1 t143) s25 fun t144 s26 =>
 (chkB (holds ti145 t143 s24 t144) (chkB (holds ti145 t143 s23 t144) (chkB (holds ti145 t143 s t144) (optK (binV .add (some (Kd.int .u32)) false t141 t144) s26 fun t145 s26 => ((f190 t9 (V.int .i64 2)) s26 fun t147 s26 =>
 ((f190 t9 (V.int .i64 13)) s26 fun t149 s26 =>
 (optK (binV .xor (some (Kd.int .u32)) false t147 t149) s26 fun t150 s26 => ((f190 t9 (V.int .i64 22)) s26 fun t152 s26 =>
 (optK (binV .xor (some (Kd.int .u32)) false t150 t152) s26 fun t153 s26 => (optK (binV .and (some (Kd.int .u32)) false t9 t10) s26 fun t156 s26 => (optK (binV .or (some (Kd.int .u32)) false t9 t10) s26 fun t160 s26 => (optK (binV .and (some (Kd.int .u32)) false t11 t160) s26 fun t161 s26 => (optK (binV .or (some (Kd.int .u32)) false t156 t161) s26 fun t162 s26 => (optK (binV .add (some (Kd.int .u32)) false t153 t162) s26 fun t163 s26 => (optK (binV .add (some (Kd.int .u32)) false t12 t145) s26 fun t169 s26 => (optK (binV .add (some (Kd.int .u32)) false t145 t163) s26 fun t175 s26 => (optK (binV .add (some (Kd.int .i64)) true t118 (V.int .i64 1)) s26 fun t176 s26 => (K .nrm (V.junk :: (V.junk :: (t2 :: (V.junk :: (t4 :: (t5 :: (jk 3 (t175 :: (t9 :: (t10 :: (t11 :: (t169 :: (t13 :: (t14 :: (t15 :: (jk 100 (t117 :: (t176 :: (jk 79 []))))))))))))))))))) s26))))))))))))))))))))))))))))))))
 (K (.exit 2) (V.junk :: (V.junk :: (t2 :: (V.junk :: (t4 :: (jk 4 (t9 :: (t10 :: (t11 :: (t12 :: (t13 :: (t14 :: (t15 :: (t16 :: (jk 181 []))))))))))))))) s)))
noncomputable def fn180_L3 (f190 : M2) (t2 t4 t185 t186 : V) : AS → KX → Prop := fun s K =>
 (optK (binV .lss (some (Kd.int .i64)) true t186 (V.int .i64 8)) s fun t187 s => (condV t187
 (optK (indexV false 8 1 t185 t186) s fun t189 s => (optK (elemPtr (some 8) 1 t2 t186) s fun t191 s => ((ld1 t191) s fun t192 s =>
 (optK (binV .add (some (Kd.int .u32)) false t192 t189) s fun t194 s => (optK (elemPtr (some 8) 1 t2 t186) s fun t195 s => ((st 1 t195 t194) s fun _ s =>
 (optK (binV .add (some (Kd.int .i64)) true t186 (V.int .i64 1)) s fun t196 s => (K .nrm (V.junk :: (V.junk :: (t2 :: (V.junk :: (t4 :: (jk 180 (t185 :: (t196 :: (jk 11 []))))))))) s))))))))
 (K (.exit 4) (V.junk :: (V.junk :: (t2 :: (V.junk :: (t4 :: (jk 193 [])))))) s)))
noncomputable def fn180_q (f190 : M2) (t0 t1 : V) : M := fun s K =>
 ((boxV t0) s fun t2 s =>
 ((newC [(V.int .u32 0), (V.int .u32 0), (V.int .u32 0), (V.int .u32 0), (V.int .u32 0), (V.int .u32 0), (V.int .u32 0), (V.int .u32 0)]) s fun t4 s =>
 ((newC [(V.int .u32 0), (V.int .u32 0), (V.int .u32 0), (V.int .u32 0), (V.int .u32 0), (V.int .u32 0), (V.int .u32 0), (V.int .u32 0), (V.int .u32 0), (V.int .u32 0), (V.int .u32 0), (V.int .u32 0), (V.int .u32 0), (V.int .u32 0), (V.int .u32 0), (V.int .u32 0), (V.int .u32 0), (V.int .u32 0), (V.int .u32 0), (V.int .u32 0), (V.int .u32 0), (V.int .u32 0), (V.int .u32 0), (V.int .u32 0), (V.int .u32 0), (V.int .u32 0), (V.int .u32 0), (V.int .u32 0), (V.int .u32 0), (V.int .u32 0), (V.int .u32 0), (V.int .u32 0), (V.int .u32 0), (V.int .u32 0), (V.int .u32 0), (V.int .u32 0), (V.int .u32 0), (V.int .u32 0), (V.int .u32 0), (V.int .u32 0), (V.int .u32 0), (V.int .u32 0), (V.int .u32 0), (V.int .u32 0), (V.int .u32 0), (V.int .u32 0), (V.int .u32 0), (V.int .u32 0), (V.int .u32 0), (V.int .u32 0), (V.int .u32 0), (V.int .u32 0), (V.int .u32 0), (V.int .u32 0), (V.int .u32 0), (V.int .u32 0), (V.int .u32 0), (V.int .u32 0), (V.int .u32 0), (V.int .u32 0), (V.int .u32 0), (V.int .u32 0), (V.int .u32 0), (V.int .u32 0)]) s fun t5 s =>
 (loopN LOOPS (fun tm s K => fn180_L1 f190 (tm.getD 1 .junk) (tm.getD 2 .junk) (tm.getD 4 .junk) (tm.getD 5 .junk) (tm.getD 23 .junk) s K) (V.junk :: (t1 :: (t2 :: (V.junk :: (t4 :: (t5 :: (jk 17 ((V.int .i64 0) :: (jk 174 []))))))))) s (fun e tm s => exX e (fun j1 => (exB (j1 == 0)
 (optK (elemPtr (some 8) 1 (tm.getD 2 .junk) (V.int .i64 0)) s fun t101 s => ((ld1 t101) s fun t102 s15 =>
 (optK (elemPtr (some 8) 1 (tm.getD 2 .junk) (V.int .i64 1)) s15 fun t103 s15 => ((ld1 t103) s15 fun t104 s16 =>
 (optK (elemPtr (some 8) 1 (tm.getD 2 .junk) (V.int .i64 2)) s16 fun t105 s16 => ((ld1 t105) s16 fun t106 s17 =>
 (optK (elemPtr (some 8) 1 (tm.getD 2 .junk) (V.int .i64 3)) s17 fun t107 s17 => ((ld1 t107) s17 fun t108 s18 =>
 (optK (elemPtr (some 8) 1 (tm.getD 2 .junk) (V.int .i64 4)) s18 fun t109 s18 => ((ld1 t109) s18 fun t110 s19 =>
 (optK (elemPtr (some 8) 1 (tm.getD 2 .junk) (V.int .i64 5)) s19 fun t111 s19 => ((ld1 t111) s19 fun t112 s20 =>
 (optK (elemPtr (some 8) 1 (tm.getD 2 .junk) (V.int .i64 6)) s20 fun t113 s20 => ((ld1 t113) s20 fun t114 s21 =>
 (optK (elemPtr (some 8) 1 (tm.getD 2 .junk) (V.int .i64 7)) s21 fun t115 s21 => ((ld1 t115) s21 fun t116 s22 =>
 ((ldA 64 (V.ptr (some ⟨.old 1, 0⟩))) s22 fun t117 s22 =>
 (loopN LOOPS (fun tm s K => fn180_L2 f190 (tm.getD 2 .junk) (tm.getD 4 .junk) (tm.getD 5 .junk) (tm.getD 9 .junk) (tm.getD 10 .junk) (tm.getD 11 .junk) (tm.getD 12 .junk) (tm.getD 13 .junk) (tm.getD 14 .junk) (tm.getD 15 .junk) (tm.getD 16 .junk) (tm.getD 117 .junk) (tm.getD 118 .junk) s K) (V.junk :: (V.junk :: ((tm.getD 2 .junk) :: (V.junk :: ((tm.getD 4 .junk) :: ((tm.getD 5 .junk) :: (jk 3 (t102 :: (t104 :: (t106 :: (t108 :: (t110 :: (t112 :: (t114 :: (t116 :: (jk 100 (t117 :: ((V.int .i64 0) :: (jk 79 []))))))))))))))))))) s22 (fun e tm s => exX e (fun j2 => (exB (j2 == 2)
 (optK (aggO (fillV (fun j => some (j * 1, 1)) [(V.int .u32 0), (V.int .u32 0), (V.int .u32 0), (V.int .u32 0), (V.int .u32 0), (V.int .u32 0), (V.int .u32 0), (V.int .u32 0)] [(0, (tm.getD 9 .junk)), (1, (tm.getD 10 .junk)), (2, (tm.getD 11 .junk)), (3, (tm.getD 12 .junk)), (4, (tm.getD 13 .junk)), (5, (tm.getD 14 .junk)), (6, (tm.getD 15 .junk)), (7, (tm.getD 16 .junk))])) s fun t185 s => (loopN LOOPS (fun tm s K => fn180_L3 f190 (tm.getD 2 .junk) (tm.getD 4 .junk) (tm.getD 185 .junk) (tm.getD 186 .junk) s K) (V.junk :: (V.junk :: ((tm.getD 2 .junk) :: (V.junk :: ((tm.getD 4 .junk) :: (jk 180 (t185 :: ((V.int .i64 0) :: (jk 11 []))))))))) s (fun e tm s => exX e (fun j3 => (exB (j3 == 4)
 ((ldA 8 (tm.getD 2 .junk)) s fun t197 s =>
 ((st 8 (tm.getD 4 .junk) t197) s fun _ s =>
 (rfin (rcons (peek ti146 (tm.getD 4 .junk) s) (some [])) s K)))
 False)) (rfin (rcons (peek ti146 (tm.getD 4 .junk) s) (some [])) s K))))
 False)) (rfin (rcons (peek ti146 (tm.getD 4 .junk) s) (some [])) s K))))))))))))))))))))
 False)) (rfin (rcons (peek ti146 (tm.getD 4 .junk) s) (some [])) s K))))))
noncomputable def fn180 : V → V → M := fn180_q fn190
theorem fn180_qe (f190 : M2) (t0 t1 : V) : fn180_q f190 t0 t1 = evF (E180 f190) Tryz.f180 [t0, t1] := by kernel_rfl
theorem fn180_s : SP Tryz.prog 180 (F2 fn180) := mk2 (mkEnv tab (L := L180 fn190) ⟨fn190_s, trivial⟩) Tryz.func180 (by kernel_rfl) (fn180_qe fn190)

/-! 153: (*sealchain/sha.Hash).Write -/
def L153 (f179 : M1) (f180 : M2) (f107 : M1) : List (Nat × (List V → M)) := [(179, F1 f179), (180, F2 f180), (107, F1 f107)]
def E153 (f179 : M1) (f180 : M2) (f107 : M1) : Env := ⟨ty, tabC (L153 f179 f180 f107), meth, tabL [(5, [0, 1, 5, 6])], tabL [(5, [0, 1, 5, 6])]⟩
noncomputable def fn153_L1 (f179 : M1) (f180 : M2) (f107 : M1) (t0 t1 t5 t6 : V) : AS → KX → Prop := fun s K =>
 (optK (lenV (some (Kd.slice 5)) t6) s fun t29 s => (optK (binV .geq (some (Kd.int .i64)) true t29 (V.int .i64 64)) s fun t30 s => (condV t30
 ((ldA 8 t5) s fun t31 s5 =>
 ((f180 t31 t6) s5 fun t33 s6 =>
 (optK (sliceSl 1 t6 (some (V.int .i64 64)) none none) s6 fun t35 s6 => ((st 8 t5 t33) s6 fun _ s7 =>
 (K .nrm (t0 :: (t1 :: (jk 3 (t5 :: (t35 :: (jk 49 [])))))) s7)))))
 (K (.exit 0) (t0 :: (t1 :: (jk 3 (t5 :: (t6 :: (jk 49 [])))))) s))))
noncomputable def fn153_q (f179 : M1) (f180 : M2) (f107 : M1) (t0 t1 : V) : M := fun s K =>
 (optK (binV .eql (some (Kd.ptr 205)) true t0 (V.ptr none)) s fun t8 s => (condV t8
 (K (V.ptr none) s)
 ((f179 t0) s fun t10 s =>
 ((newC [(V.int .u32 0), (V.int .u32 0), (V.int .u32 0), (V.int .u32 0), (V.int .u32 0), (V.int .u32 0), (V.int .u32 0), (V.int .u32 0)]) s fun t5 s =>
 ((st 8 t5 t10) s fun _ s =>
 (optK (nilV t0) s fun t12 s => (optK (fp 8 t12) s fun t13 s => ((ld1 t13) s fun t14 s1 =>
 (optK (nilV t0) s1 fun t16 s1 => (optK (fp 8 t16) s1 fun t17 s1 => ((ld1 t17) s1 fun t18 s2 =>
 (optK (lenV (some (Kd.slice 5)) t18) s2 fun t19 s2 => (optK (nilV t0) s2 fun t21 s2 => (optK (fp 8 t21) s2 fun t22 s2 => ((ld1 t22) s2 fun t23 s3 =>
 (optK (lenV (some (Kd.slice 5)) t23) s3 fun t24 s3 => (optK (sliceSl 1 t14 none (some t19) (some t24)) s3 fun t25 s3 => ((app 1 1 t25 t1) s3 fun t27 s4 =>
 (loopN LOOPS (fun tm s K => fn153_L1 f179 f180 f107 (tm.getD 0 .junk) (tm.getD 1 .junk) (tm.getD 5 .junk) (tm.getD 6 .junk) s K) (t0 :: (t1 :: (jk 3 (t5 :: (t27 :: (jk 49 [])))))) s4 (fun e tm s => exX e (fun j1 => (exB (j1 == 0)
 ((ldA 8 (tm.getD 5 .junk)) s fun t39 s8 =>
 ((f107 (tm.getD 6 .junk)) s8 fun t41 s9 =>
 (chkB (holds ti146 (tm.getD 5 .junk) s9 t39) (optK (nilV (tm.getD 0 .junk)) s9 fun t43 s9 => (optK (fp 9 t43) s9 fun t44 s9 => ((ld1 t44) s9 fun t45 s10 =>
 (chkB (holds ti3 t44 s8 t45) (optK (lenV (some (Kd.slice 5)) (tm.getD 1 .junk)) s10 fun t47 s10 => (optK (binV .add (some (Kd.int .i64)) false t45 t47) s10 fun t48 s10 => (optK (nilV (tm.getD 0 .junk)) s10 fun t49 s10 => (optK (fp 0 t49) s10 fun t50 s10 => ((st 8 t50 t39) s10 fun _ s11 =>
 (optK (nilV (tm.getD 0 .junk)) s11 fun t51 s11 => (optK (fp 8 t51) s11 fun t52 s11 => ((st 1 t52 t41) s11 fun _ s12 =>
 (optK (nilV (tm.getD 0 .junk)) s12 fun t53 s12 => (optK (fp 9 t53) s12 fun t54 s12 => ((st 1 t54 t48) s12 fun _ s13 =>
 (K (tm.getD 0 .junk) s13)))))))))))))))))))
 False)) (K V.junk s)))))))))))))))))))))
noncomputable def fn153 : V → V → M := fn153_q fn179 fn180 fn107
theorem fn153_qe (f179 : M1) (f180 : M2) (f107 : M1) (t0 t1 : V) : fn153_q f179 f180 f107 t0 t1 = evF (E153 f179 f180 f107) Tryz.f153 [t0, t1] := by kernel_rfl
theorem fn153_s : SP Tryz.prog 153 (F2 fn153) := mk2 (mkEnv tab (L := L153 fn179 fn180 fn107) ⟨fn179_s, fn180_s, fn107_s, trivial⟩) Tryz.func153 (by kernel_rfl) (fn153_qe fn179 fn180 fn107)

/-! 181: (*sealchain/sha.Hash).Copy -/
def L181 (f107 : M1) : List (Nat × (List V → M)) := [(107, F1 f107)]
def E181 (f107 : M1) : Env := ⟨ty, tabC (L181 f107), meth, tabL [], tabL []⟩
noncomputable def fn181_q (f107 : M1) (t0 : V) : M := fun s K =>
 (optK (binV .eql (some (Kd.ptr 205)) true t0 (V.ptr none)) s fun t5 s => (condV t5
 (K (V.ptr none) s)
 (optK (nilV t0) s fun t7 s => ((ldA 10 t7) s fun t8 s =>
 ((newC [(V.int .u32 0), (V.int .u32 0), (V.int .u32 0), (V.int .u32 0), (V.int .u32 0), (V.int .u32 0), (V.int .u32 0), (V.int .u32 0), (V.slice none 0 0 true), (V.int .i64 0)]) s fun t3 s =>
 ((st 10 t3 t8) s fun _ s =>
 (optK (nilV t0) s fun t10 s => (optK (fp 8 t10) s fun t11 s => ((ld1 t11) s fun t12 s =>
 ((f107 t12) s fun t13 s =>
 (optK (fp 8 t3) s fun t14 s => ((st 1 t14 t13) s fun _ s =>
 (K t3 s)))))))))))))
noncomputable def fn181 : V → M := fn181_q fn107
theorem fn181_qe (f107 : M1) (t0 : V) : fn181_q f107 t0 = evF (E181 f107) Tryz.f181 [t0] := by kernel_rfl
theorem fn181_s : SP Tryz.prog 181 (F1 fn181) := mk1 (mkEnv tab (L := L181 fn107) ⟨fn107_s, trivial⟩) Tryz.func181 (by kernel_rfl) (fn181_qe fn107)

/-! 154: (*sealchain/sha.Hash).Sum -/
def L154 (f181 : M1) (f152 : M) (f153 : M2) : List (Nat × (List V → M)) := [(181, F1 f181), (152, F0 f152), (153, F2 f153)]
def E154 (f181 : M1) (f152 : M) (f153 : M2) : Env := ⟨ty, tabC (L154 f181 f152 f153), meth, tabL [(5, [2, 3, 4]), (8, [2, 3, 4, 25]), (14, [2, 3, 45])], tabL [(5, [2, 3, 4]), (8, [2, 3, 4]), (14, [2])]⟩
noncomputable def fn154_L1 (f181 : M1) (f152 : M) (f153 : M2) (t2 t3 t4 : V) : AS → KX → Prop := fun s K =>
 (optK (nilV t3) s fun t14 s => (optK (fp 9 t14) s fun t15 s => ((ld1 t15) s fun t16 s =>
 (optK (lenV (some (Kd.slice 5)) t4) s fun t18 s => (optK (binV .add (some (Kd.int .i64)) false t16 t18) s fun t19 s => (optK (binV .rem (some (Kd.int .i64)) true t19 (V.int .i64 64)) s fun t20 s => (optK (binV .neq (some (Kd.int .i64)) true t20 (V.int .i64 56)) s fun t21 s => (condV t21
 ((bsl 1 [(V.int .u8 0)] 1 [(0, (V.int .u8 0))]) s fun t23 s =>
 ((app 1 1 t4 t23) s fun t24 s =>
 (K .nrm (V.junk :: (V.junk :: (t2 :: (t3 :: (t24 :: (jk 60 [])))))) s)))
 (K (.exit 0) (V.junk :: (V.junk :: (t2 :: (t3 :: (t4 :: (jk 60 [])))))) s)))))))))
noncomputable def fn154_L2 (f181 : M1) (f152 : M) (f153 : M2) (t2 t3 t4 t25 : V) : AS → KX → Prop := fun s K =>
 (optK (binV .lss (some (Kd.int .i64)) true t25 (V.int .i64 8)) s fun t26 s => (condV t26
 (optK (nilV t3) s fun t30 s => (optK (fp 9 t30) s fun t31 s => ((ld1 t31) s fun t32 s =>
 (optK (binV .mul (some (Kd.int .i64)) true t32 (V.int .i64 8)) s fun t33 s => (optK (binV .mul (some (Kd.int .i64)) true (V.int .i64 8) t25) s fun t35 s => (optK (binV .sub (some (Kd.int .i64)) true (V.int .i64 56) t35) s fun t36 s => (optK (binV .shr (some (Kd.int .i64)) false t33 t36) s fun t37 s => ((cvt (Kd.int .i64) (Kd.int .u8) t37) s fun t38 s =>
 ((bsl 1 [(V.int .u8 0)] 1 [(0, t38)]) s fun t39 s =>
 ((app 1 1 t4 t39) s fun t40 s =>
 (optK (binV .add (some (Kd.int .i64)) true t25 (V.int .i64 1)) s fun t41 s => (K .nrm (V.junk :: (V.junk :: (t2 :: (t3 :: (t40 :: (jk 20 (t41 :: (jk 39 [])))))))) s))))))))))))
 (K (.exit 2) (V.junk :: (V.junk :: (t2 :: (t3 :: (t4 :: (jk 60 [])))))) s)))
noncomputable def fn154_L3 (f181 : M1) (f152 : M) (f153 : M2) (t2 t3 t45 : V) : AS → KX → Prop := fun s K =>
 (optK (binV .lss (some (Kd.int .i64)) true t45 (V.int .i64 32)) s fun t46 s => (condV t46
 (optK (binV .quo (some (Kd.int .i64)) true t45 (V.int .i64 4)) s fun t51 s => (optK (nilV t3) s fun t52 s => (optK (fp 0 t52) s fun t53 s => (optK (elemPtr (some 8) 1 t53 t51) s fun t54 s => ((ld1 t54) s fun t55 s =>
 (optK (binV .rem (some (Kd.int .i64)) true t45 (V.int .i64 4)) s fun t57 s => (optK (binV .mul (some (Kd.int .i64)) true (V.int .i64 8) t57) s fun t58 s => (optK (binV .sub (some (Kd.int .i64)) true (V.int .i64 24) t58) s fun t59 s => (optK (binV .shr (some (Kd.int .u32)) false t55 t59) s fun t60 s => ((cvt (Kd.int .u32) (Kd.int .u8) t60) s fun t61 s =>
 (optK (elemPtr (some 32) 1 t2 t45) s fun t62 s => ((st 1 t62 t61) s fun _ s =>
 (optK (binV .add (some (Kd.int .i64)) true t45 (V.int .i64 1)) s fun t63 s => (K .nrm (V.junk :: (V.junk :: (t2 :: (t3 :: (jk 41 (t63 :: (jk 19 []))))))) s))))))))))))))
 (K (.exit 4) (V.junk :: (V.junk :: (t2 :: (jk 62 [])))) s)))
noncomputable def fn154_q (f181 : M1) (f152 : M) (f153 : M2) (t0 : V) : M := fun s K =>
 ((newC [(V.int .u8 0), (V.int .u8 0), (V.int .u8 0), (V.int .u8 0), (V.int .u8 0), (V.int .u8 0), (V.int .u8 0), (V.int .u8 0), (V.int .u8 0), (V.int .u8 0), (V.int .u8 0), (V.int .u8 0), (V.int .u8 0), (V.int .u8 0), (V.int .u8 0), (V.int .u8 0), (V.int .u8 0), (V.int .u8 0), (V.int .u8 0), (V.int .u8 0), (V.int .u8 0), (V.int .u8 0), (V.int .u8 0), (V.int .u8 0), (V.int .u8 0), (V.int .u8 0), (V.int .u8 0), (V.int .u8 0), (V.int .u8 0), (V.int .u8 0), (V.int .u8 0), (V.int .u8 0)]) s fun t2 s =>
 ((f181 t0) s fun t8 s =>
 (optK (binV .eql (some (Kd.ptr 205)) true t8 (V.ptr none)) s fun t10 s => (condV t10
 ((f152) s fun t11 s =>
 ((bsl 1 [(V.int .u8 0)] 1 [(0, (V.int .u8 128))]) s fun t12 s =>
 (loopN LOOPS (fun tm s K => fn154_L1 f181 f152 f153 (tm.getD 2 .junk) (tm.getD 3 .junk) (tm.getD 4 .junk) s K) (V.junk :: (V.junk :: (t2 :: (t11 :: (t12 :: (jk 60 [])))))) s (fun e tm s => exX e (fun j1 => (exB (j1 == 0)
 (loopN LOOPS (fun tm s K => fn154_L2 f181 f152 f153 (tm.getD 2 .junk) (tm.getD 3 .junk) (tm.getD 4 .junk) (tm.getD 25 .junk) s K) (V.junk :: (V.junk :: ((tm.getD 2 .junk) :: ((tm.getD 3 .junk) :: ((tm.getD 4 .junk) :: (jk 20 ((V.int .i64 0) :: (jk 39 [])))))))) s (fun e tm s => exX e (fun j2 => (exB (j2 == 2)
 ((f153 (tm.getD 3 .junk) (tm.getD 4 .junk)) s fun t44 s =>
 (loopN LOOPS (fun tm s K => fn154_L3 f181 f152 f153 (tm.getD 2 .junk) (tm.getD 3 .junk) (tm.getD 45 .junk) s K) (V.junk :: (V.junk :: ((tm.getD 2 .junk) :: ((tm.getD 3 .junk) :: (jk 41 ((V.int .i64 0) :: (jk 19 []))))))) s (fun e tm s => exX e (fun j3 => (exB (j3 == 4)
 ((ldA 32 (tm.getD 2 .junk)) s fun t64 s =>
 ((st 32 (tm.getD 2 .junk) t64) s fun _ s =>
 (rfin (rcons (peek ti100 (tm.getD 2 .junk) s) (some [])) s K)))
 False)) (rfin (rcons (peek ti100 (tm.getD 2 .junk) s) (some [])) s K))))
 False)) (rfin (rcons (peek ti100 (tm.getD 2 .junk) s) (some [])) s K)))
 False)) (rfin (rcons (peek ti100 (tm.getD 2 .junk) s) (some [])) s K)))))
 ((bsl 1 [(V.int .u8 0)] 1 [(0, (V.int .u8 128))]) s fun t12 s =>
 (loopN LOOPS (fun tm s K => fn154_L1 f181 f152 f153 (tm.getD 2 .junk) (tm.getD 3 .junk) (tm.getD 4 .junk) s K) (V.junk :: (V.junk :: (t2 :: (t8 :: (t12 :: (jk 60 [])))))) s (fun e tm s => exX e (fun j1 => (exB (j1 == 0)
 (loopN LOOPS (fun tm s K => fn154_L2 f181 f152 f153 (tm.getD 2 .junk) (tm.getD 3 .junk) (tm.getD 4 .junk) (tm.getD 25 .junk) s K) (V.junk :: (V.junk :: ((tm.getD 2 .junk) :: ((tm.getD 3 .junk) :: ((tm.getD 4 .junk) :: (jk 20 ((V.int .i64 0) :: (jk 39 [])))))))) s (fun e tm s => exX e (fun j2 => (exB (j2 == 2)
 ((f153 (tm.getD 3 .junk) (tm.getD 4 .junk)) s fun t44 s =>
 (loopN LOOPS (fun tm s K => fn154_L3 f181 f152 f153 (tm.getD 2 .junk) (tm.getD 3 .junk) (tm.getD 45 .junk) s K) (V.junk :: (V.junk :: ((tm.getD 2 .junk) :: ((tm.getD 3 .junk) :: (jk 41 ((V.int .i64 0) :: (jk 19 []))))))) s (fun e tm s => exX e (fun j3 => (exB (j3 == 4)
 ((ldA 32 (tm.getD 2 .junk)) s fun t64 s =>
 ((st 32 (tm.getD 2 .junk) t64) s fun _ s =>
 (rfin (rcons (peek ti100 (tm.getD 2 .junk) s) (some [])) s K)))
 False)) (rfin (rcons (peek ti100 (tm.getD 2 .junk) s) (some [])) s K))))
 False)) (rfin (rcons (peek ti100 (tm.getD 2 .junk) s) (some [])) s K)))
 False)) (rfin (rcons (peek ti100 (tm.getD 2 .junk) s) (some [])) s K))))))))
noncomputable def fn154 : V → M := fn154_q fn181 fn152 fn153
theorem fn154_qe (f181 : M1) (f152 : M) (f153 : M2) (t0 : V) : fn154_q f181 f152 f153 t0 = evF (E154 f181 f152 f153) Tryz.f154 [t0] := by kernel_rfl
theorem fn154_s : SP Tryz.prog 154 (F1 fn154) := mk1 (mkEnv tab (L := L154 fn181 fn152 fn153) ⟨fn181_s, fn152_s, fn153_s, trivial⟩) Tryz.func154 (by kernel_rfl) (fn154_qe fn181 fn152 fn153)

/-! 139: sealchain/sha.Sum -/
def L139 (f152 : M) (f153 : M2) (f154 : M1) : List (Nat × (List V → M)) := [(152, F0 f152), (153, F2 f153), (154, F1 f154)]
def E139 (f152 : M) (f153 : M2) (f154 : M1) : Env := ⟨ty, tabC (L139 f152 f153 f154), meth, tabL [], tabL []⟩
noncomputable def fn139_q (f152 : M) (f153 : M2) (f154 : M1) (t0 : V) : M := fun s K =>
 ((newC [(V.int .u8 0), (V.int .u8 0), (V.int .u8 0), (V.int .u8 0), (V.int .u8 0), (V.int .u8 0), (V.int .u8 0), (V.int .u8 0), (V.int .u8 0), (V.int .u8 0), (V.int .u8 0), (V.int .u8 0), (V.int .u8 0), (V.int .u8 0), (V.int .u8 0), (V.int .u8 0), (V.int .u8 0), (V.int .u8 0), (V.int .u8 0), (V.int .u8 0), (V.int .u8 0), (V.int .u8 0), (V.int .u8 0), (V.int .u8 0), (V.int .u8 0), (V.int .u8 0), (V.int .u8 0), (V.int .u8 0), (V.int .u8 0), (V.int .u8 0), (V.int .u8 0), (V.int .u8 0)]) s fun t2 s =>
 ((f152) s fun t3 s =>
 ((f153 t3 t0) s fun t5 s =>
 ((f154 t5) s fun t6 s =>
 ((st 32 t2 t6) s fun _ s =>
 (rfin (rcons (peek ti100 t2 s) (some [])) s K))))))
noncomputable def fn139 : V → M := fn139_q fn152 fn153 fn154
theorem fn139_qe (f152 : M) (f153 : M2) (f154 : M1) (t0 : V) : fn139_q f152 f153 f154 t0 = evF (E139 f152 f153 f154) Tryz.f139 [t0] := by kernel_rfl
theorem fn139_s : SP Tryz.prog 139 (F1 fn139) := mk1 (mkEnv tab (L := L139 fn152 fn153 fn154) ⟨fn152_s, fn153_s, fn154_s, trivial⟩) Tryz.func139 (by kernel_rfl) (fn139_qe fn152 fn153 fn154)

/-! 106: sealchain/wal.sums -/
def L106 (f139 : M1) : List (Nat × (List V → M)) := [(139, F1 f139)]
def E106 (f139 : M1) : Env := ⟨ty, tabC (L106 f139), meth, tabL [], tabL []⟩
noncomputable def fn106_q (f139 : M1) (t0 : V) : M := fun s K =>
 ((f139 t0) s fun t5 s =>
 ((newC [(V.int .u8 0), (V.int .u8 0), (V.int .u8 0), (V.int .u8 0), (V.int .u8 0), (V.int .u8 0), (V.int .u8 0), (V.int .u8 0), (V.int .u8 0), (V.int .u8 0), (V.int .u8 0), (V.int .u8 0), (V.int .u8 0), (V.int .u8 0), (V.int .u8 0), (V.int .u8 0), (V.int .u8 0), (V.int .u8 0), (V.int .u8 0), (V.int .u8 0), (V.int .u8 0), (V.int .u8 0), (V.int .u8 0), (V.int .u8 0), (V.int .u8 0), (V.int .u8 0), (V.int .u8 0), (V.int .u8 0), (V.int .u8 0), (V.int .u8 0), (V.int .u8 0), (V.int .u8 0)]) s fun t3 s =>
 ((st 32 t3 t5) s fun _ s =>
 (optK (sliceArr 32 1 t3 none (some (V.int .i64 4)) none) s fun t6 s => (K t6 s)))))
noncomputable def fn106 : V → M := fn106_q fn139
theorem fn106_qe (f139 : M1) (t0 : V) : fn106_q f139 t0 = evF (E106 f139) Tryz.f106 [t0] := by kernel_rfl
theorem fn106_s : SP Tryz.prog 106 (F1 fn106) := mk1 (mkEnv tab (L := L106 fn139) ⟨fn139_s, trivial⟩) Tryz.func106 (by kernel_rfl) (fn106_qe fn139)

/-! 105: bytes.Equal -/
def L105 : List (Nat × (List V → M)) := []
def E105 : Env := ⟨ty, tabC (L105), meth, tabL [], tabL []⟩
noncomputable def fn105_q (t0 t1 : V) : M := fun s K =>
 ((cvtS (Kd.slice 5) t0) s fun t6 s =>
 ((cvtS (Kd.slice 5) t1) s fun t8 s =>
 (optK (binV .eql (some Kd.str) false t6 t8) s fun t9 s => (K t9 s))))
noncomputable def fn105 : V → V → M := fn105_q
theorem fn105_qe (t0 t1 : V) : fn105_q t0 t1 = evF (E105) Tryz.f105 [t0, t1] := by kernel_rfl
theorem fn105_s : SP Tryz.prog 105 (F2 fn105) := mk2 (mkEnv tab (L := L105) trivial) Tryz.func105 (by kernel_rfl) (fn105_qe)

/-! 66: sealchain/wal.Scan -/
def L66 (f71 : M1) (f72 : M2) (f106 : M1) (f105 : M2) (f107 : M1) : List (Nat × (List V → M)) := [(71, F1 f71), (72, F2 f72), (106, F1 f106), (105, F2 f105), (107, F1 f107)]
def E66 (f71 : M1) (f72 : M2) (f106 : M1) (f105 : M2) (f107 : M1) : Env := ⟨ty, tabC (L66 f71 f72 f106 f105 f107), meth, tabL [(1, [0, 2, 3])], tabL [(1, [2, 3, 4])]⟩
noncomputable def fn66_L1 (f71 : M1) (f72 : M2) (f106 : M1) (f105 : M2) (f107 : M1) (t0 t2 t3 : V) : AS → KX → Prop := fun s K =>
 (optK (lenV (some (Kd.slice 5)) t0) s fun t9 s => (optK (binV .sub (some (Kd.int .i64)) false t9 t3) s fun t11 s => (optK (binV .geq (some (Kd.int .i64)) true t11 (V.int .i64 4)) s fun t12 s => (condV t12
 (optK (binV .add (some (Kd.int .i64)) true t3 (V.int .i64 4)) s fun t16 s => (optK (sliceSl 1 t0 (some t3) (some t16) none) s fun t17 s => ((f71 t17) s fun t18 s =>
 ((f72 t18 (V.int .i64 2)) s fun t20 s =>
 ((f72 t18 (V.int .i64 2)) s fun t22 s =>
 (optK (binV .sub (some (Kd.int .i64)) true (V.int .i64 65535) t20) s fun t24 s => (optK (binV .neq (some (Kd.int .i64)) false t22 t24) s fun t25 s => (condV t25
 (K .ret (V.junk :: (V.junk :: (t2 :: (t3 :: ((V.int .i64 140) :: (jk 63 [])))))) s)
 (optK (binV .add (some (Kd.int .i64)) true t3 (V.int .i64 4)) s fun t29 s => (optK (binV .add (some (Kd.int .i64)) false t29 t20) s fun t31 s => (optK (binV .add (some (Kd.int .i64)) true t31 (V.int .i64 4)) s fun t33 s => (optK (lenV (some (Kd.slice 5)) t0) s fun t35 s => (optK (binV .gtr (some (Kd.int .i64)) false t33 t35) s fun t36 s => (condV t36
 (K (.exit 0) (V.junk :: (V.junk :: (t2 :: (t3 :: (jk 64 []))))) s)
 (optK (binV .gtr (some (Kd.int .i64)) true t20 (V.int .i64 40000)) s fun t38 s => (grd t38
 (K .ret (V.junk :: (V.junk :: (t2 :: (t3 :: ((V.int .i64 140) :: (jk 63 [])))))) s)
 (optK (sliceSl 1 t0 (some t3) (some t31) none) s fun t43 s => ((f106 t43) s fun t44 s1 =>
 (optK (binV .add (some (Kd.int .i64)) true t31 (V.int .i64 4)) s1 fun t48 s1 => (optK (sliceSl 1 t0 (some t31) (some t48) none) s1 fun t49 s1 => ((f105 t44 t49) s1 fun t50 s2 =>
 (optK (unV .not t50) s2 fun t51 s2 => (condV t51
 (K .ret (V.junk :: (V.junk :: (t2 :: (t3 :: ((V.int .i64 140) :: (jk 63 [])))))) s2)
 (optK (binV .add (some (Kd.int .i64)) true t3 (V.int .i64 4)) s2 fun t58 s2 => (optK (sliceSl 1 t0 (some t58) (some t31) none) s2 fun t60 s2 => ((f107 t60) s2 fun t61 s2 =>
 ((bsl 1 [(V.slice none 0 0 true)] 1 [(0, t61)]) s2 fun t62 s2 =>
 ((app 1 24 t2 t62) s2 fun t63 s2 =>
 (optK (binV .add (some (Kd.int .i64)) true t31 (V.int .i64 4)) s2 fun t65 s2 => (K .nrm (t0 :: (V.junk :: (t63 :: (t65 :: (jk 64 []))))) s2))))))))))))))
 False))))))))))))))))
 (K (.exit 0) (V.junk :: (V.junk :: (t2 :: (t3 :: (jk 64 []))))) s)))))
noncomputable def fn66_q (f71 : M1) (f72 : M2) (f106 : M1) (f105 : M2) (f107 : M1) (t0 : V) : M := fun s K =>
 (loopN LOOPS (fun tm s K => fn66_L1 f71 f72 f106 f105 f107 (tm.getD 0 .junk) (tm.getD 2 .junk) (tm.getD 3 .junk) s K) (t0 :: (V.junk :: ((V.slice none 0 0 true) :: ((V.int .i64 0) :: (jk 64 []))))) s (fun e tm s => exX e (fun j1 => (exB (j1 == 0)
 (K (V.tuple [(tm.getD 2 .junk), (tm.getD 3 .junk), (V.int .i64 0)]) s)
 False)) (K (V.tuple [(tm.getD 2 .junk), (tm.getD 3 .junk), (tm.getD 4 .junk)]) s)))
noncomputable def fn66 : V → M := fn66_q fn71 fn72 fn106 fn105 fn107
theorem fn66_qe (f71 : M1) (f72 : M2) (f106 : M1) (f105 : M2) (f107 : M1) (t0 : V) : fn66_q f71 f72 f106 f105 f107 t0 = evF (E66 f71 f72 f106 f105 f107) Tryz.f66 [t0] := by kernel_rfl
theorem fn66_s : SP Tryz.prog 66 (F1 fn66) := mk1 (mkEnv tab (L := L66 fn71 fn72 fn106 fn105 fn107) ⟨fn71_s, fn72_s, fn106_s, fn105_s, fn107_s, trivial⟩) Tryz.func66 (by kernel_rfl) (fn66_qe fn71 fn72 fn106 fn105 fn107)

/-! 34: sealchain/wal.Open -/
def L34 (f65 : M2) (f60 : M1) (f66 : M1) : List (Nat × (List V → M)) := [(65, F2 f65), (60, F1 f60), (66, F1 f66)]
def E34 (f65 : M2) (f60 : M1) (f66 : M1) : Env := ⟨ty, tabC (L34 f65 f60 f66), meth, tabL [], tabL []⟩
noncomputable def fn34_q (f65 : M2) (f60 : M1) (f66 : M1) (t0 : V) : M := fun s K =>
 ((f65 t0 (V.int .i64 (-1))) s fun t10 s =>
 (optK (binV .neq (some (Kd.int .i64)) true t10 (V.int .i64 9)) s fun t12 s => (condV t12
 (K (V.tuple [(V.ptr none), t10]) s)
 ((f60 t0) s fun t16 s =>
 ((f66 t16) s fun t17 s =>
 (optK (extractV t17 0) s fun t18 s => (optK (extractV t17 1) s fun t19 s => (optK (extractV t17 2) s fun t20 s => (optK (binV .neq (some (Kd.int .i64)) true t20 (V.int .i64 0)) s fun t22 s => (condV t22
 (K (V.tuple [(V.ptr none), t20]) s)
 ((f65 t0 t19) s fun t26 s =>
 (optK (binV .neq (some (Kd.int .i64)) true t26 (V.int .i64 0)) s fun t28 s => (condV t28
 (K (V.tuple [(V.ptr none), t26]) s)
 (optK (aggO (fillV (placeS [(0, 27), (1, 52), (2, 4)] ty) [(V.ptr none), (V.slice none 0 0 true), (V.bool false)] [(0, t0), (1, t18)])) s fun t32 s => ((boxV t32) s fun t33 s =>
 (K (V.tuple [t33, (V.int .i64 0)]) s))))))))))))))))
noncomputable def fn34 : V → M := fn34_q fn65 fn60 fn66
theorem fn34_qe (f65 : M2) (f60 : M1) (f66 : M1) (t0 : V) : fn34_q f65 f60 f66 t0 = evF (E34 f65 f60 f66) Tryz.f34 [t0] := by kernel_rfl
theorem fn34_s : SP Tryz.prog 34 (F1 fn34) := mk1 (mkEnv tab (L := L34 fn65 fn60 fn66) ⟨fn65_s, fn60_s, fn66_s, trivial⟩) Tryz.func34 (by kernel_rfl) (fn34_qe fn65 fn60 fn66)

/-! 67: (*sealchain/wal.Log).none -/
def L67 : List (Nat × (List V → M)) := []
def E67 : Env := ⟨ty, tabC (L67), meth, tabL [], tabL []⟩
noncomputable def fn67_q (t0 : V) : M := fun s K =>
 (optK (binV .eql (some (Kd.ptr 116)) true t0 (V.ptr none)) s fun t4 s => (grd t4
 (K (V.bool true) s)
 (optK (nilV t0) s fun t7 s => (optK (fp 0 t7) s fun t8 s => ((ld1 t8) s fun t9 s =>
 (optK (binV .eql (some (Kd.ptr 87)) true t9 (V.ptr none)) s fun t10 s => (K t10 s)))))
 False))
noncomputable def fn67 : V → M := fn67_q
theorem fn67_qe (t0 : V) : fn67_q t0 = evF (E67) Tryz.f67 [t0] := by kernel_rfl
theorem fn67_s : SP Tryz.prog 67 (F1 fn67) := mk1 (mkEnv tab (L := L67) trivial) Tryz.func67 (by kernel_rfl) (fn67_qe)

/-! 68: sealchain/wal.copied -/
def L68 (f107 : M1) : List (Nat × (List V → M)) := [(107, F1 f107)]
def E68 (f107 : M1) : Env := ⟨ty, tabC (L68 f107), meth, tabL [(2, [2, 5, 6, 7])], tabL [(2, [2])]⟩
noncomputable def fn68_L1 (f107 : M1) (t2 t5 t6 t7 : V) : AS → KX → Prop := fun s K =>
 (optK (binV .lss (some (Kd.int .i64)) false t7 t6) s fun t8 s => (condV t8
 (optK (elemPtr none 1 t5 t7) s fun t9 s => ((ld1 t9) s fun t10 s =>
 ((f107 t10) s fun t13 s =>
 ((bsl 1 [(V.slice none 0 0 true)] 1 [(0, t13)]) s fun t14 s =>
 ((app 1 24 t2 t14) s fun t15 s =>
 (optK (binV .add (some (Kd.int .i64)) true t7 (V.int .i64 1)) s fun t16 s => (K .nrm (V.junk :: (V.junk :: (t15 :: (V.junk :: (V.junk :: (t5 :: (t6 :: (t16 :: (jk 10 []))))))))) s)))))))
 (K (.exit 0) (V.junk :: (V.junk :: (t2 :: (jk 15 [])))) s)))
noncomputable def fn68_q (f107 : M1) (t0 : V) : M := fun s K =>
 (optK (lenV (some (Kd.slice 59)) t0) s fun t6 s => (loopN LOOPS (fun tm s K => fn68_L1 f107 (tm.getD 2 .junk) (tm.getD 5 .junk) (tm.getD 6 .junk) (tm.getD 7 .junk) s K) (V.junk :: (V.junk :: ((V.slice none 0 0 true) :: (V.junk :: (V.junk :: (t0 :: (t6 :: ((V.int .i64 0) :: (jk 10 []))))))))) s (fun e tm s => exX e (fun j1 => (exB (j1 == 0)
 (K (tm.getD 2 .junk) s)
 False)) (K (tm.getD 2 .junk) s))))
noncomputable def fn68 : V → M := fn68_q fn107
theorem fn68_qe (f107 : M1) (t0 : V) : fn68_q f107 t0 = evF (E68 f107) Tryz.f68 [t0] := by kernel_rfl
theorem fn68_s : SP Tryz.prog 68 (F1 fn68) := mk1 (mkEnv tab (L := L68 fn107) ⟨fn107_s, trivial⟩) Tryz.func68 (by kernel_rfl) (fn68_qe fn107)

/-! 35: (*sealchain/wal.Log).Rows -/
def L35 (f67 : M1) (f68 : M1) : List (Nat × (List V → M)) := [(67, F1 f67), (68, F1 f68)]
def E35 (f67 : M1) (f68 : M1) : Env := ⟨ty, tabC (L35 f67 f68), meth, tabL [], tabL []⟩
noncomputable def fn35_q (f67 : M1) (f68 : M1) (t0 : V) : M := fun s K =>
 ((f67 t0) s fun t4 s =>
 (condV t4
 (K (V.slice none 0 0 true) s)
 (optK (nilV t0) s fun t6 s => (optK (fp 1 t6) s fun t7 s => ((ld1 t7) s fun t8 s =>
 ((f68 t8) s fun t9 s =>
 (K t9 s)))))))
noncomputable def fn35 : V → M := fn35_q fn67 fn68
theorem fn35_qe (f67 : M1) (f68 : M1) (t0 : V) : fn35_q f67 f68 t0 = evF (E35 f67 f68) Tryz.f35 [t0] := by kernel_rfl
theorem fn35_s : SP Tryz.prog 35 (F1 fn35) := mk1 (mkEnv tab (L := L35 fn67 fn68) ⟨fn67_s, fn68_s, trivial⟩) Tryz.func35 (by kernel_rfl) (fn35_qe fn67 fn68)

/-! 73: (*sealchain/num.Reader).Count -/
def L73 (f111 : M2) (f110 : M2) : List (Nat × (List V → M)) := [(111, F2 f111), (110, F2 f110)]
def E73 (f111 : M2) (f110 : M2) : Env := ⟨ty, tabC (L73 f111 f110), meth, tabL [(2, [0, 1, 4, 8])], tabL [(2, [0, 4])]⟩
noncomputable def fn73_L1 (f111 : M2) (f110 : M2) (t0 t1 t4 t8 : V) : AS → KX → Prop := fun s K =>
 (optK (binV .lss (some (Kd.int .i64)) true t8 (V.int .i64 8)) s fun t9 s => (condV t9
 ((f111 t0 (V.int .i64 1)) s fun t12 s =>
 (optK (lenV (some (Kd.slice 5)) t12) s fun t14 s => (optK (binV .eql (some (Kd.int .i64)) true t14 (V.int .i64 0)) s fun t15 s => (condV t15
 (K .ret (t0 :: (jk 3 ((V.int .i64 0) :: (jk 45 [])))) s)
 (optK (elemPtr none 1 t12 (V.int .i64 0)) s fun t17 s => ((ld1 t17) s fun t18 s =>
 ((cvt (Kd.int .u8) (Kd.int .i64) t18) s fun t19 s =>
 (optK (binV .shl (some (Kd.int .i64)) true t4 (V.int .u64 7)) s fun t21 s => (optK (binV .rem (some (Kd.int .i64)) true t19 (V.int .i64 128)) s fun t23 s => (optK (binV .or (some (Kd.int .i64)) false t21 t23) s fun t24 s => (optK (binV .eql (some (Kd.int .i64)) true t8 (V.int .i64 0)) s fun t27 s => (grd t27
 (optK (binV .eql (some (Kd.int .i64)) true t19 (V.int .i64 128)) s fun t30 s => (condV t30
 (K (.exit 0) (t0 :: (jk 3 (t24 :: (jk 45 [])))) s)
 (optK (binV .geq (some (Kd.int .i64)) true t19 (V.int .i64 128)) s fun t34 s => (condV t34
 (optK (binV .add (some (Kd.int .i64)) true t8 (V.int .i64 1)) s fun t47 s => (K .nrm (t0 :: (t1 :: (V.junk :: (V.junk :: (t24 :: (jk 3 (t47 :: (jk 41 [])))))))) s))
 (optK (binV .gtr (some (Kd.int .i64)) true t24 (V.int .i64 9007199254740991)) s fun t37 s => (condV t37
 ((f110 t0 (V.int .i64 9)) s fun t39 s =>
 (K .ret (t0 :: (jk 3 (t39 :: (jk 45 [])))) s))
 (optK (binV .gtr (some (Kd.int .i64)) false t24 t1) s fun t43 s => (condV t43
 ((f110 t0 (V.int .i64 5)) s fun t45 s =>
 (K .ret (t0 :: (jk 3 (t45 :: (jk 45 [])))) s))
 (K .ret (t0 :: (jk 3 (t24 :: (jk 45 [])))) s)))))))))
 (optK (binV .geq (some (Kd.int .i64)) true t19 (V.int .i64 128)) s fun t34 s => (condV t34
 (optK (binV .add (some (Kd.int .i64)) true t8 (V.int .i64 1)) s fun t47 s => (K .nrm (t0 :: (t1 :: (V.junk :: (V.junk :: (t24 :: (jk 3 (t47 :: (jk 41 [])))))))) s))
 (optK (binV .gtr (some (Kd.int .i64)) true t24 (V.int .i64 9007199254740991)) s fun t37 s => (condV t37
 ((f110 t0 (V.int .i64 9)) s fun t39 s =>
 (K .ret (t0 :: (jk 3 (t39 :: (jk 45 [])))) s))
 (optK (binV .gtr (some (Kd.int .i64)) false t24 t1) s fun t43 s => (condV t43
 ((f110 t0 (V.int .i64 5)) s fun t45 s =>
 (K .ret (t0 :: (jk 3 (t45 :: (jk 45 [])))) s))
 (K .ret (t0 :: (jk 3 (t24 :: (jk 45 [])))) s)))))))
 False))))))))))))
 (K (.exit 0) (t0 :: (jk 3 (t4 :: (jk 45 [])))) s)))
noncomputable def fn73_q (f111 : M2) (f110 : M2) (t0 t1 : V) : M := fun s K =>
 (loopN LOOPS (fun tm s K => fn73_L1 f111 f110 (tm.getD 0 .junk) (tm.getD 1 .junk) (tm.getD 4 .junk) (tm.getD 8 .junk) s K) (t0 :: (t1 :: (V.junk :: (V.junk :: ((V.int .i64 0) :: (jk 3 ((V.int .i64 0) :: (jk 41 [])))))))) s (fun e tm s => exX e (fun j1 => (exB (j1 == 0)
 ((f110 (tm.getD 0 .junk) (V.int .i64 4)) s fun t49 s =>
 (K t49 s))
 False)) (K (tm.getD 4 .junk) s)))
noncomputable def fn73 : V → V → M := fn73_q fn111 fn110
theorem fn73_qe (f111 : M2) (f110 : M2) (t0 t1 : V) : fn73_q f111 f110 t0 t1 = evF (E73 f111 f110) Tryz.f73 [t0, t1] := by kernel_rfl
theorem fn73_s : SP Tryz.prog 73 (F2 fn73) := mk2 (mkEnv tab (L := L73 fn111 fn110) ⟨fn111_s, fn110_s, trivial⟩) Tryz.func73 (by kernel_rfl) (fn73_qe fn111 fn110)

/-! 75: (*sealchain/num.Reader).Text -/
def L75 (f73 : M2) (f108 : M1) (f111 : M2) : List (Nat × (List V → M)) := [(73, F2 f73), (108, F1 f108), (111, F2 f111)]
def E75 (f73 : M2) (f108 : M1) (f111 : M2) : Env := ⟨ty, tabC (L75 f73 f108 f111), meth, tabL [], tabL []⟩
noncomputable def fn75_q (f73 : M2) (f108 : M1) (f111 : M2) (t0 t1 : V) : M := fun s K =>
 ((f73 t0 t1) s fun t8 s =>
 ((f108 t0) s fun t10 s =>
 (optK (binV .eql (some (Kd.int .i64)) true t10 (V.int .i64 0)) s fun t11 s => (condV t11
 ((f111 t0 t8) s fun t14 s =>
 (K t14 s))
 (K (V.slice none 0 0 true) s)))))
noncomputable def fn75 : V → V → M := fn75_q fn73 fn108 fn111
theorem fn75_qe (f73 : M2) (f108 : M1) (f111 : M2) (t0 t1 : V) : fn75_q f73 f108 f111 t0 t1 = evF (E75 f73 f108 f111) Tryz.f75 [t0, t1] := by kernel_rfl
theorem fn75_s : SP Tryz.prog 75 (F2 fn75) := mk2 (mkEnv tab (L := L75 fn73 fn108 fn111) ⟨fn73_s, fn108_s, fn111_s, trivial⟩) Tryz.func75 (by kernel_rfl) (fn75_qe fn73 fn108 fn111)

/-! 76: (*sealchain/num.Reader).End -/
def L76 (f108 : M1) (f113 : M1) : List (Nat × (List V → M)) := [(108, F1 f108), (113, F1 f113)]
def E76 (f108 : M1) (f113 : M1) : Env := ⟨ty, tabC (L76 f108 f113), meth, tabL [], tabL []⟩
noncomputable def fn76_q (f108 : M1) (f113 : M1) (t0 : V) : M := fun s K =>
 ((f108 t0) s fun t4 s =>
 (optK (binV .eql (some (Kd.int .i64)) true t4 (V.int .i64 0)) s fun t5 s => (grd t5
 ((f113 t0) s fun t8 s =>
 (optK (binV .gtr (some (Kd.int .i64)) true t8 (V.int .i64 0)) s fun t9 s => (condV t9
 (K (V.int .i64 4) s)
 ((f108 t0) s fun t12 s =>
 (K t12 s)))))
 ((f108 t0) s fun t12 s =>
 (K t12 s))
 False)))
noncomputable def fn76 : V → M := fn76_q fn108 fn113
theorem fn76_qe (f108 : M1) (f113 : M1) (t0 : V) : fn76_q f108 f113 t0 = evF (E76 f108 f113) Tryz.f76 [t0] := by kernel_rfl
theorem fn76_s : SP Tryz.prog 76 (F1 fn76) := mk1 (mkEnv tab (L := L76 fn108 fn113) ⟨fn108_s, fn113_s, trivial⟩) Tryz.func76 (by kernel_rfl) (fn76_qe fn108 fn113)

/-! 84: sealchain/pack.within -/
def L84 : List (Nat × (List V → M)) := []
def E84 : Env := ⟨ty, tabC (L84), meth, tabL [], tabL []⟩
noncomputable def fn84_q (t0 t1 t2 : V) : M := fun s K =>
 (optK (binV .leq (some (Kd.int .i64)) false t1 t0) s fun t9 s => (grd t9
 (optK (binV .leq (some (Kd.int .i64)) false t0 t2) s fun t13 s => (K t13 s))
 (K (V.bool false) s)
 False))
noncomputable def fn84 : V → V → V → M := fn84_q
theorem fn84_qe (t0 t1 t2 : V) : fn84_q t0 t1 t2 = evF (E84) Tryz.f84 [t0, t1, t2] := by kernel_rfl
theorem fn84_s : SP Tryz.prog 84 (F3 fn84) := mk3 (mkEnv tab (L := L84) trivial) Tryz.func84 (by kernel_rfl) (fn84_qe)

/-! 79: sealchain/pack.replica -/
def L79 (f84 : M3) : List (Nat × (List V → M)) := [(84, F3 f84)]
def E79 (f84 : M3) : Env := ⟨ty, tabC (L79 f84), meth, tabL [], tabL []⟩
noncomputable def fn79_q (f84 : M3) (t0 : V) : M := fun s K =>
 ((f84 t0 (V.int .i64 10) (V.int .i64 13)) s fun t4 s =>
 (K t4 s))
noncomputable def fn79 : V → M := fn79_q fn84
theorem fn79_qe (f84 : M3) (t0 : V) : fn79_q f84 t0 = evF (E79 f84) Tryz.f79 [t0] := by kernel_rfl
theorem fn79_s : SP Tryz.prog 79 (F1 fn79) := mk1 (mkEnv tab (L := L79 fn84) ⟨fn84_s, trivial⟩) Tryz.func79 (by kernel_rfl) (fn79_qe fn84)

/-! 78: sealchain/pack.CheckConf$1 -/
def L78 (f79 : M1) : List (Nat × (List V → M)) := [(79, F1 f79)]
def E78 (f79 : M1) : Env := ⟨ty, tabC (L78 f79), meth, tabL [], tabL []⟩
noncomputable def fn78_q (f79 : M1) (t0 : V) : M := fun s K =>
 ((f79 t0) s fun t4 s =>
 (optK (unV .not t4) s fun t5 s => (K t5 s)))
noncomputable def fn78 : V → M := fn78_q fn79
theorem fn78_qe (f79 : M1) (t0 : V) : fn78_q f79 t0 = evF (E78 f79) Tryz.f78 [t0] := by kernel_rfl
theorem fn78_s : SP Tryz.prog 78 (F1 fn78) := mk1 (mkEnv tab (L := L78 fn79) ⟨fn79_s, trivial⟩) Tryz.func78 (by kernel_rfl) (fn78_qe fn79)

/-! 114: slices.IndexFunc[[]int,int] -/
def L114 (f78 : M1) : List (Nat × (List V → M)) := [(78, F1 f78)]
def E114 (f78 : M1) : Env := ⟨ty, tabC (L114 f78), meth, tabL [(2, [0, 1, 7, 8])], tabL [(2, [4])]⟩
noncomputable def fn114_L1 (f78 : M1) (t0 t1 t7 t8 : V) : AS → KX → Prop := fun s K =>
 (optK (binV .lss (some (Kd.int .i64)) false t8 t7) s fun t9 s => (condV t9
 (optK (elemPtr none 1 t0 t8) s fun t14 s => ((ld1 t14) s fun t15 s =>
 ((callV (E114 f78) t1 [t15]) s fun t16 s =>
 (condV t16
 (K .ret (jk 4 (t8 :: (jk 14 []))) s)
 (optK (binV .add (some (Kd.int .i64)) true t8 (V.int .i64 1)) s fun t18 s => (K .nrm (t0 :: (t1 :: (jk 5 (t7 :: (t18 :: (jk 10 [])))))) s))))))
 (K (.exit 0) (jk 19 []) s)))
noncomputable def fn114_q (f78 : M1) (t0 t1 : V) : M := fun s K =>
 (optK (lenV (some (Kd.slice 3)) t0) s fun t7 s => (loopN LOOPS (fun tm s K => fn114_L1 f78 (tm.getD 0 .junk) (tm.getD 1 .junk) (tm.getD 7 .junk) (tm.getD 8 .junk) s K) (t0 :: (t1 :: (jk 5 (t7 :: ((V.int .i64 0) :: (jk 10 [])))))) s (fun e tm s => exX e (fun j1 => (exB (j1 == 0)
 (K (V.int .i64 (-1)) s)
 False)) (K (tm.getD 4 .junk) s))))
noncomputable def fn114 : V → V → M := fn114_q fn78
theorem fn114_qe (f78 : M1) (t0 t1 : V) : fn114_q f78 t0 t1 = evF (E114 f78) Tryz.f114 [t0, t1] := by kernel_rfl
theorem fn114_s : SP Tryz.prog 114 (F2 fn114) := mk2 (mkEnv tab (L := L114 fn78) ⟨fn78_s, trivial⟩) Tryz.func114 (by kernel_rfl) (fn114_qe fn78)

/-! 77: slices.ContainsFunc[[]int,int] -/
def L77 (f114 : M2) : List (Nat × (List V → M)) := [(114, F2 f114)]
def E77 (f114 : M2) : Env := ⟨ty, tabC (L77 f114), meth, tabL [], tabL []⟩
noncomputable def fn77_q (f114 : M2) (t0 t1 : V) : M := fun s K =>
 ((f114 t0 t1) s fun t7 s =>
 (optK (binV .geq (some (Kd.int .i64)) true t7 (V.int .i64 0)) s fun t8 s => (K t8 s)))
noncomputable def fn77 : V → V → M := fn77_q fn114
theorem fn77_qe (f114 : M2) (t0 t1 : V) : fn77_q f114 t0 t1 = evF (E77 f114) Tryz.f77 [t0, t1] := by kernel_rfl
theorem fn77_s : SP Tryz.prog 77 (F2 fn77) := mk2 (mkEnv tab (L := L77 fn114) ⟨fn114_s, trivial⟩) Tryz.func77 (by kernel_rfl) (fn77_qe fn114)

/-! 117: slices.Values[[]int,int]$1 -/
def L117 : List (Nat × (List V → M)) := []
def E117 : Env := ⟨ty, tabC (L117), meth, tabL [(1, [0, 5, 6, 7])], tabL [(1, [])]⟩
noncomputable def fn117_L1 (t0 t5 t6 t7 : V) : AS → KX → Prop := fun s K =>
 (optK (binV .lss (some (Kd.int .i64)) false t7 t6) s fun t8 s => (condV t8
 (optK (elemPtr none 1 t5 t7) s fun t9 s => ((ld1 t9) s fun t10 s =>
 ((callV (E117) t0 [t10]) s fun t13 s =>
 (optK (unV .not t13) s fun t14 s => (condV t14
 (K .ret (jk 16 []) s)
 (optK (binV .add (some (Kd.int .i64)) true t7 (V.int .i64 1)) s fun t15 s => (K .nrm (t0 :: (jk 4 (t5 :: (t6 :: (t15 :: (jk 8 [])))))) s)))))))
 (K (.exit 0) (jk 16 []) s)))
noncomputable def fn117_q (t0 t1 : V) : M := fun s K =>
 ((ld1 t1) s fun t5 s =>
 (optK (lenV (some (Kd.slice 3)) t5) s fun t6 s => (loopN LOOPS (fun tm s K => fn117_L1 (tm.getD 0 .junk) (tm.getD 5 .junk) (tm.getD 6 .junk) (tm.getD 7 .junk) s K) (t0 :: (jk 4 (t5 :: (t6 :: ((V.int .i64 0) :: (jk 8 [])))))) s (fun e tm s => exX e (fun j1 => (exB (j1 == 0)
 (K (V.tuple []) s)
 False)) (K (V.tuple []) s)))))
noncomputable def fn117 : V → V → M := fn117_q
theorem fn117_qe (t0 t1 : V) : fn117_q t0 t1 = evF (E117) Tryz.f117 [t0, t1] := by kernel_rfl
theorem fn117_s : SP Tryz.prog 117 (F2 fn117) := mk2 (mkEnv tab (L := L117) trivial) Tryz.func117 (by kernel_rfl) (fn117_qe)

/-! 81: slices.Values[[]int,int] -/
def L81 (f117 : M2) : List (Nat × (List V → M)) := [(117, F2 f117)]
def E81 (f117 : M2) : Env := ⟨ty, tabC (L81 f117), meth, tabL [], tabL []⟩
noncomputable def fn81_q (f117 : M2) (t0 : V) : M := fun s K =>
 ((boxV t0) s fun t1 s =>
 (K (V.func (.func 117) [] [t1]) s))
noncomputable def fn81 : V → M := fn81_q fn117
theorem fn81_qe (f117 : M2) (t0 : V) : fn81_q f117 t0 = evF (E81 f117) Tryz.f81 [t0] := by kernel_rfl
theorem fn81_s : SP Tryz.prog 81 (F1 fn81) := mk1 (mkEnv tab (L := L81 fn117) ⟨fn117_s, trivial⟩) Tryz.func81 (by kernel_rfl) (fn81_qe fn117)
end Go.Proofs.Vt
