/- A part of the proofs of the Vote laws: functions of the program in the evaluator's form, printed by a program of the prover's, each equation checked by the kernel. -/
import Derived.Test.YtlmjmjpohjdogaaGreatDoorF3
set_option linter.unusedVariables false
set_option linter.unusedSimpArgs false
/- PRINTED by gen.py. -/
set_option maxRecDepth 100000
namespace Go.Proofs.Vt
open Go Go.Rx Go.Proofs
/-! 134: (*sealchain/sealchainref01.Reader).Text -/
def L134 (f133 : M2) (f147 : M2) : List (Nat × (List V → M)) := [(133, F2 f133), (147, F2 f147)]
def E134 (f133 : M2) (f147 : M2) : Env := ⟨ty, tabC (L134 f133 f147), meth, tabL [], tabL []⟩
noncomputable def fn134_q (f133 : M2) (f147 : M2) (t0 t1 : V) : M := fun s K =>
 ((f133 t0 t1) s fun t8 s =>
 (optK (nilV t0) s fun t10 s => (optK (fp 1 t10) s fun t11 s => ((ld1 t11) s fun t12 s =>
 (optK (binV .neq (some (Kd.int .i64)) true t12 (V.int .i64 0)) s fun t13 s => (condV t13
 (K (V.slice none 0 0 true) s)
 ((f147 t0 t8) s fun t16 s =>
 (K t16 s))))))))
noncomputable def fn134 : V → V → M := fn134_q fn133 fn147
theorem fn134_qe (f133 : M2) (f147 : M2) (t0 t1 : V) : fn134_q f133 f147 t0 t1 = evF (E134 f133 f147) Tryz.f134 [t0, t1] := by kernel_rfl
theorem fn134_s : SP Tryz.prog 134 (F2 fn134) := mk2 (mkEnv tab (L := L134 fn133 fn147) ⟨fn133_s, fn147_s, trivial⟩) Tryz.func134 (by kernel_rfl) (fn134_qe fn133 fn147)

/-! 148: (*sealchain/sealchainref01.Reader).Err -/
def L148 : List (Nat × (List V → M)) := []
def E148 : Env := ⟨ty, tabC (L148), meth, tabL [], tabL []⟩
noncomputable def fn148_q (t0 : V) : M := fun s K =>
 (optK (nilV t0) s fun t4 s => (optK (fp 1 t4) s fun t5 s => ((ld1 t5) s fun t6 s =>
 (K t6 s))))
noncomputable def fn148 : V → M := fn148_q
theorem fn148_qe (t0 : V) : fn148_q t0 = evF (E148) Tryz.f148 [t0] := by kernel_rfl
theorem fn148_s : SP Tryz.prog 148 (F1 fn148) := mk1 (mkEnv tab (L := L148) trivial) Tryz.func148 (by kernel_rfl) (fn148_qe)

/-! 136: (*sealchain/sealchainref01.Reader).End -/
def L136 : List (Nat × (List V → M)) := []
def E136 : Env := ⟨ty, tabC (L136), meth, tabL [], tabL []⟩
noncomputable def fn136_q (t0 : V) : M := fun s K =>
 (optK (nilV t0) s fun t4 s => (optK (fp 1 t4) s fun t5 s => ((ld1 t5) s fun t6 s =>
 (optK (binV .eql (some (Kd.int .i64)) true t6 (V.int .i64 0)) s fun t7 s => (grd t7
 (optK (nilV t0) s fun t10 s => (optK (fp 0 t10) s fun t11 s => ((ld1 t11) s fun t12 s =>
 (optK (lenV (some (Kd.slice 5)) t12) s fun t13 s => (optK (binV .gtr (some (Kd.int .i64)) true t13 (V.int .i64 0)) s fun t14 s => (condV t14
 (K (V.int .i64 4) s)
 (optK (nilV t0) s fun t17 s => (optK (fp 1 t17) s fun t18 s => ((ld1 t18) s fun t19 s =>
 (K t19 s))))))))))
 (optK (nilV t0) s fun t17 s => (optK (fp 1 t17) s fun t18 s => ((ld1 t18) s fun t19 s =>
 (K t19 s))))
 False)))))
noncomputable def fn136 : V → M := fn136_q
theorem fn136_qe (t0 : V) : fn136_q t0 = evF (E136) Tryz.f136 [t0] := by kernel_rfl
theorem fn136_s : SP Tryz.prog 136 (F1 fn136) := mk1 (mkEnv tab (L := L136) trivial) Tryz.func136 (by kernel_rfl) (fn136_qe)

/-! 175: sealchain/sealchainref11.within -/
def L175 : List (Nat × (List V → M)) := []
def E175 : Env := ⟨ty, tabC (L175), meth, tabL [], tabL []⟩
noncomputable def fn175_q (t0 t1 t2 : V) : M := fun s K =>
 (optK (binV .geq (some (Kd.int .i64)) false t0 t1) s fun t9 s => (grd t9
 (optK (binV .leq (some (Kd.int .i64)) false t0 t2) s fun t13 s => (K t13 s))
 (K (V.bool false) s)
 False))
noncomputable def fn175 : V → V → V → M := fn175_q
theorem fn175_qe (t0 t1 t2 : V) : fn175_q t0 t1 t2 = evF (E175) Tryz.f175 [t0, t1, t2] := by kernel_rfl
theorem fn175_s : SP Tryz.prog 175 (F3 fn175) := mk3 (mkEnv tab (L := L175) trivial) Tryz.func175 (by kernel_rfl) (fn175_qe)

/-! 174: sealchain/sealchainref11.number -/
def L174 (f175 : M3) : List (Nat × (List V → M)) := [(175, F3 f175)]
def E174 (f175 : M3) : Env := ⟨ty, tabC (L174 f175), meth, tabL [], tabL []⟩
noncomputable def fn174_q (f175 : M3) (t0 : V) : M := fun s K =>
 ((f175 t0 (V.int .i64 0) (V.int .i64 9007199254740991)) s fun t4 s =>
 (K t4 s))
noncomputable def fn174 : V → M := fn174_q fn175
theorem fn174_qe (f175 : M3) (t0 : V) : fn174_q f175 t0 = evF (E174 f175) Tryz.f174 [t0] := by kernel_rfl
theorem fn174_s : SP Tryz.prog 174 (F1 fn174) := mk1 (mkEnv tab (L := L174 fn175) ⟨fn175_s, trivial⟩) Tryz.func174 (by kernel_rfl) (fn174_qe fn175)

/-! 176: sealchain/sealchainref11.replica -/
def L176 (f175 : M3) : List (Nat × (List V → M)) := [(175, F3 f175)]
def E176 (f175 : M3) : Env := ⟨ty, tabC (L176 f175), meth, tabL [], tabL []⟩
noncomputable def fn176_q (f175 : M3) (t0 : V) : M := fun s K =>
 ((f175 t0 (V.int .i64 10) (V.int .i64 13)) s fun t4 s =>
 (K t4 s))
noncomputable def fn176 : V → M := fn176_q fn175
theorem fn176_qe (f175 : M3) (t0 : V) : fn176_q f175 t0 = evF (E176 f175) Tryz.f176 [t0] := by kernel_rfl
theorem fn176_s : SP Tryz.prog 176 (F1 fn176) := mk1 (mkEnv tab (L := L176 fn175) ⟨fn175_s, trivial⟩) Tryz.func176 (by kernel_rfl) (fn176_qe fn175)

/-! 177: sealchain/sealchainref11.arg -/
def L177 : List (Nat × (List V → M)) := []
def E177 : Env := ⟨ty, tabC (L177), meth, tabL [], tabL []⟩
noncomputable def fn177_q (t0 : V) : M := fun s K =>
 (optK (unV .not t0) s fun t4 s => (condV t4
 (K (V.int .i64 2) s)
 (K (V.int .i64 0) s)))
noncomputable def fn177 : V → M := fn177_q
theorem fn177_qe (t0 : V) : fn177_q t0 = evF (E177) Tryz.f177 [t0] := by kernel_rfl
theorem fn177_s : SP Tryz.prog 177 (F1 fn177) := mk1 (mkEnv tab (L := L177) trivial) Tryz.func177 (by kernel_rfl) (fn177_qe)

/-! 149: sealchain/sealchainref11.CheckConf -/
def L149 (f174 : M1) (f175 : M3) (f176 : M1) (f177 : M1) : List (Nat × (List V → M)) := [(174, F1 f174), (175, F3 f175), (176, F1 f176), (177, F1 f177)]
def E149 (f174 : M1) (f175 : M3) (f176 : M1) (f177 : M1) : Env := ⟨ty, tabC (L149 f174 f175 f176 f177), meth, tabL [(3, [1, 3, 4]), (7, [1, 3, 4, 5])], tabL [(3, [3]), (7, [1, 3, 4])]⟩
noncomputable def fn149_L2 (f174 : M1) (f175 : M3) (f176 : M1) (f177 : M1) (t1 t3 t4 t5 : V) : AS → KX → Prop := fun s K =>
 (optK (binV .lss (some (Kd.int .i64)) false t5 t4) s fun t41 s => (condV t41
 (grd t3
 (optK (fp 2 t1) s fun t46 s => ((ld1 t46) s fun t47 s1 =>
 (optK (elemPtr none 1 t47 t5) s1 fun t49 s1 => ((ld1 t49) s1 fun t50 s2 =>
 (optK (fp 2 t1) s2 fun t51 s2 => ((ld1 t51) s2 fun t52 s3 =>
 (optK (elemPtr none 1 t52 t4) s3 fun t54 s3 => ((ld1 t54) s3 fun t55 s4 =>
 (optK (binV .neq (some (Kd.int .i64)) false t50 t55) s4 fun t56 s4 => (optK (binV .add (some (Kd.int .i64)) true t5 (V.int .i64 1)) s4 fun t43 s4 => (K .nrm (V.junk :: (t1 :: (V.junk :: (t56 :: (t4 :: (t43 :: (jk 54 []))))))) s4)))))))))))
 (optK (binV .add (some (Kd.int .i64)) true t5 (V.int .i64 1)) s fun t43 s => (K .nrm (V.junk :: (t1 :: (V.junk :: ((V.bool false) :: (t4 :: (t43 :: (jk 54 []))))))) s))
 False)
 (K (.exit 2) (V.junk :: (t1 :: (V.junk :: (t3 :: (t4 :: (jk 55 [])))))) s)))
noncomputable def fn149_L1 (f174 : M1) (f175 : M3) (f176 : M1) (f177 : M1) (t1 t3 t4 : V) : AS → KX → Prop := fun s K =>
 (optK (fp 2 t1) s fun t24 s => ((ld1 t24) s fun t25 s =>
 (optK (lenV (some (Kd.slice 3)) t25) s fun t26 s => (optK (binV .lss (some (Kd.int .i64)) false t4 t26) s fun t27 s => (condV t27
 (grd t3
 (optK (fp 2 t1) s fun t32 s => ((ld1 t32) s fun t33 s =>
 (optK (elemPtr none 1 t33 t4) s fun t35 s => ((ld1 t35) s fun t36 s =>
 ((f176 t36) s fun t37 s =>
 (loopN LOOPS (fun tm s K => fn149_L2 f174 f175 f176 f177 (tm.getD 1 .junk) (tm.getD 3 .junk) (tm.getD 4 .junk) (tm.getD 5 .junk) s K) (V.junk :: (t1 :: (V.junk :: (t37 :: (t4 :: ((V.int .i64 0) :: (jk 54 []))))))) s (fun e tm s => exX e (fun j1 => (exB (j1 == 2)
 (optK (binV .add (some (Kd.int .i64)) true (tm.getD 4 .junk) (V.int .i64 1)) s fun t29 s => (K .nrm (V.junk :: ((tm.getD 1 .junk) :: (V.junk :: ((tm.getD 3 .junk) :: (t29 :: (jk 55 [])))))) s))
 (exB (j1 == 1)
 (optK (binV .add (some (Kd.int .i64)) true (tm.getD 4 .junk) (V.int .i64 1)) s fun t29 s => (K .nrm (V.junk :: ((tm.getD 1 .junk) :: (V.junk :: ((tm.getD 3 .junk) :: (t29 :: (jk 55 [])))))) s))
 (K (.exit j1) (jk 3 ((tm.getD 3 .junk) :: (jk 56 []))) s)))) (K .ret (jk 3 ((tm.getD 3 .junk) :: (jk 56 []))) s))))))))
 (loopN LOOPS (fun tm s K => fn149_L2 f174 f175 f176 f177 (tm.getD 1 .junk) (tm.getD 3 .junk) (tm.getD 4 .junk) (tm.getD 5 .junk) s K) (V.junk :: (t1 :: (V.junk :: ((V.bool false) :: (t4 :: ((V.int .i64 0) :: (jk 54 []))))))) s (fun e tm s => exX e (fun j1 => (exB (j1 == 2)
 (optK (binV .add (some (Kd.int .i64)) true (tm.getD 4 .junk) (V.int .i64 1)) s fun t29 s => (K .nrm (V.junk :: ((tm.getD 1 .junk) :: (V.junk :: ((tm.getD 3 .junk) :: (t29 :: (jk 55 [])))))) s))
 (exB (j1 == 1)
 (optK (binV .add (some (Kd.int .i64)) true (tm.getD 4 .junk) (V.int .i64 1)) s fun t29 s => (K .nrm (V.junk :: ((tm.getD 1 .junk) :: (V.junk :: ((tm.getD 3 .junk) :: (t29 :: (jk 55 [])))))) s))
 (K (.exit j1) (jk 3 ((tm.getD 3 .junk) :: (jk 56 []))) s)))) (K .ret (jk 3 ((tm.getD 3 .junk) :: (jk 56 []))) s)))
 False)
 (K (.exit 0) (jk 3 (t3 :: (jk 56 []))) s))))))
noncomputable def fn149_q (f174 : M1) (f175 : M3) (f176 : M1) (f177 : M1) (t0 : V) : M := fun s K =>
 ((boxV t0) s fun t1 s =>
 (optK (fp 0 t1) s fun t6 s => ((ld1 t6) s fun t7 s =>
 ((f174 t7) s fun t8 s =>
 (grd t8
 (optK (fp 2 t1) s fun t10 s => ((ld1 t10) s fun t11 s =>
 (optK (lenV (some (Kd.slice 3)) t11) s fun t12 s => ((f175 t12 (V.int .i64 1) (V.int .i64 4)) s fun t13 s =>
 (grd t13
 (optK (fp 1 t1) s fun t16 s => ((ld1 t16) s fun t17 s =>
 (optK (fp 2 t1) s fun t18 s => ((ld1 t18) s fun t19 s =>
 (optK (lenV (some (Kd.slice 3)) t19) s fun t20 s => ((f175 t17 (V.int .i64 1) t20) s fun t21 s =>
 (loopN LOOPS (fun tm s K => fn149_L1 f174 f175 f176 f177 (tm.getD 1 .junk) (tm.getD 3 .junk) (tm.getD 4 .junk) s K) (V.junk :: (t1 :: (V.junk :: (t21 :: ((V.int .i64 0) :: (jk 55 [])))))) s (fun e tm s => exX e (fun j1 => (exB (j1 == 0)
 ((f177 (tm.getD 3 .junk)) s fun t59 s =>
 (K t59 s))
 False)) (K V.junk s)))))))))
 (loopN LOOPS (fun tm s K => fn149_L1 f174 f175 f176 f177 (tm.getD 1 .junk) (tm.getD 3 .junk) (tm.getD 4 .junk) s K) (V.junk :: (t1 :: (V.junk :: ((V.bool false) :: ((V.int .i64 0) :: (jk 55 [])))))) s (fun e tm s => exX e (fun j1 => (exB (j1 == 0)
 ((f177 (tm.getD 3 .junk)) s fun t59 s =>
 (K t59 s))
 False)) (K V.junk s)))
 False)))))
 (loopN LOOPS (fun tm s K => fn149_L1 f174 f175 f176 f177 (tm.getD 1 .junk) (tm.getD 3 .junk) (tm.getD 4 .junk) s K) (V.junk :: (t1 :: (V.junk :: ((V.bool false) :: ((V.int .i64 0) :: (jk 55 [])))))) s (fun e tm s => exX e (fun j1 => (exB (j1 == 0)
 ((f177 (tm.getD 3 .junk)) s fun t59 s =>
 (K t59 s))
 False)) (K V.junk s)))
 False)))))
noncomputable def fn149 : V → M := fn149_q fn174 fn175 fn176 fn177
theorem fn149_qe (f174 : M1) (f175 : M3) (f176 : M1) (f177 : M1) (t0 : V) : fn149_q f174 f175 f176 f177 t0 = evF (E149 f174 f175 f176 f177) Tryz.f149 [t0] := by kernel_rfl
theorem fn149_s : SP Tryz.prog 149 (F1 fn149) := mk1 (mkEnv tab (L := L149 fn174 fn175 fn176 fn177) ⟨fn174_s, fn175_s, fn176_s, fn177_s, trivial⟩) Tryz.func149 (by kernel_rfl) (fn149_qe fn174 fn175 fn176 fn177)

/-! 135: sealchain/sealchainref11.ParseConf -/
def L135 (f131 : M1) (f133 : M2) (f132 : M2) (f148 : M1) (f136 : M1) (f149 : M1) : List (Nat × (List V → M)) := [(131, F1 f131), (133, F2 f133), (132, F2 f132), (148, F1 f148), (136, F1 f136), (149, F1 f149)]
def E135 (f131 : M1) (f133 : M2) (f132 : M2) (f148 : M1) (f136 : M1) (f149 : M1) : Env := ⟨ty, tabC (L135 f131 f133 f132 f148 f136 f149), meth, tabL [(5, [2, 4, 5, 6, 7])], tabL [(5, [2, 4, 5])]⟩
noncomputable def fn135_L1 (f131 : M1) (f133 : M2) (f132 : M2) (f148 : M1) (f136 : M1) (f149 : M1) (t2 t4 t5 t6 t7 : V) : AS → KX → Prop := fun s K =>
 (optK (binV .lss (some (Kd.int .i64)) false t7 t6) s fun t19 s => (grd t19
 (optK (binV .lss (some (Kd.int .i64)) true t7 (V.int .i64 5)) s fun t22 s => (condV t22
 (optK (fp 2 t5) s fun t26 s => ((ld1 t26) s fun t27 s1 =>
 ((f132 t4 (V.int .i64 1)) s1 fun t29 s2 =>
 (chkB (holds ti35 t26 s2 t27) ((bsl 1 [(V.int .i64 0)] 1 [(0, t29)]) s2 fun t30 s3 =>
 (chkB (holds ti35 t26 s3 t27) ((app 1 8 t27 t30) s3 fun t31 s4 =>
 (optK (fp 2 t5) s4 fun t32 s4 => ((st 1 t32 t31) s4 fun _ s5 =>
 (optK (binV .add (some (Kd.int .i64)) true t7 (V.int .i64 1)) s5 fun t25 s5 => (K .nrm (V.junk :: (V.junk :: (t2 :: (V.junk :: (t4 :: (t5 :: (t6 :: (t25 :: (jk 41 []))))))))) s5)))))))))))
 (K (.exit 0) (V.junk :: (V.junk :: (t2 :: (V.junk :: (t4 :: (t5 :: (jk 43 []))))))) s)))
 (K (.exit 0) (V.junk :: (V.junk :: (t2 :: (V.junk :: (t4 :: (t5 :: (jk 43 []))))))) s)
 False))
noncomputable def fn135_q (f131 : M1) (f133 : M2) (f132 : M2) (f148 : M1) (f136 : M1) (f149 : M1) (t0 : V) : M := fun s K =>
 ((newC [(V.int .i64 0), (V.int .i64 0), (V.slice none 0 0 true)]) s fun t2 s =>
 ((f131 t0) s fun t9 s =>
 ((f133 t9 (V.int .i64 9007199254740991)) s fun t11 s =>
 ((f132 t9 (V.int .i64 1)) s fun t13 s =>
 (optK (aggO (fillV (placeS [(0, 3), (1, 3), (2, 35)] ty) [(V.int .i64 0), (V.int .i64 0), (V.slice none 0 0 true)] [(0, t11), (1, t13)])) s fun t14 s => ((newC [(V.int .i64 0), (V.int .i64 0), (V.slice none 0 0 true)]) s fun t5 s =>
 ((st 3 t5 t14) s fun _ s =>
 ((f132 t9 (V.int .i64 1)) s fun t16 s =>
 (loopN LOOPS (fun tm s K => fn135_L1 f131 f133 f132 f148 f136 f149 (tm.getD 2 .junk) (tm.getD 4 .junk) (tm.getD 5 .junk) (tm.getD 6 .junk) (tm.getD 7 .junk) s K) (V.junk :: (V.junk :: (t2 :: (V.junk :: (t9 :: (t5 :: (t16 :: ((V.int .i64 0) :: (jk 41 []))))))))) s (fun e tm s => exX e (fun j1 => (exB (j1 == 0)
 ((f148 (tm.getD 4 .junk)) s fun t34 s =>
 (optK (binV .neq (some (Kd.int .i64)) true t34 (V.int .i64 0)) s fun t35 s => (condV t35
 (optK (aggO (fillV (placeS [(0, 3), (1, 3), (2, 35)] ty) [(V.int .i64 0), (V.int .i64 0), (V.slice none 0 0 true)] [])) s fun t36 s => ((f148 (tm.getD 4 .junk)) s fun t38 s =>
 ((st 3 (tm.getD 2 .junk) t36) s fun _ s =>
 (rfin (rcons (peek ti37 (tm.getD 2 .junk) s) (rcons (some t38) (some []))) s K))))
 ((f136 (tm.getD 4 .junk)) s fun t40 s =>
 (optK (binV .neq (some (Kd.int .i64)) true t40 (V.int .i64 0)) s fun t41 s => (grd t41
 (optK (aggO (fillV (placeS [(0, 3), (1, 3), (2, 35)] ty) [(V.int .i64 0), (V.int .i64 0), (V.slice none 0 0 true)] [])) s fun t47 s => ((st 3 (tm.getD 2 .junk) t47) s fun _ s =>
 (rfin (rcons (peek ti37 (tm.getD 2 .junk) s) (rcons (some (V.int .i64 4)) (some []))) s K)))
 ((ldA 3 (tm.getD 5 .junk)) s fun t43 s =>
 ((f149 t43) s fun t44 s =>
 (optK (binV .neq (some (Kd.int .i64)) true t44 (V.int .i64 0)) s fun t45 s => (condV t45
 (optK (aggO (fillV (placeS [(0, 3), (1, 3), (2, 35)] ty) [(V.int .i64 0), (V.int .i64 0), (V.slice none 0 0 true)] [])) s fun t47 s => ((st 3 (tm.getD 2 .junk) t47) s fun _ s =>
 (rfin (rcons (peek ti37 (tm.getD 2 .junk) s) (rcons (some (V.int .i64 4)) (some []))) s K)))
 ((ldA 3 (tm.getD 5 .junk)) s fun t48 s =>
 ((st 3 (tm.getD 2 .junk) t48) s fun _ s =>
 (rfin (rcons (peek ti37 (tm.getD 2 .junk) s) (rcons (some (V.int .i64 0)) (some []))) s K)))))))
 False))))))
 False)) (rfin (rcons (peek ti37 (tm.getD 2 .junk) s) (rcons (some V.junk) (some []))) s K)))))))))))
noncomputable def fn135 : V → M := fn135_q fn131 fn133 fn132 fn148 fn136 fn149
theorem fn135_qe (f131 : M1) (f133 : M2) (f132 : M2) (f148 : M1) (f136 : M1) (f149 : M1) (t0 : V) : fn135_q f131 f133 f132 f148 f136 f149 t0 = evF (E135 f131 f133 f132 f148 f136 f149) Tryz.f135 [t0] := by kernel_rfl
theorem fn135_s : SP Tryz.prog 135 (F1 fn135) := mk1 (mkEnv tab (L := L135 fn131 fn133 fn132 fn148 fn136 fn149) ⟨fn131_s, fn133_s, fn132_s, fn148_s, fn136_s, fn149_s, trivial⟩) Tryz.func135 (by kernel_rfl) (fn135_qe fn131 fn133 fn132 fn148 fn136 fn149)

/-! 178: sealchain/sealchainref00.CopyInts -/
def L178 : List (Nat × (List V → M)) := []
def E178 : Env := ⟨ty, tabC (L178), meth, tabL [], tabL []⟩
noncomputable def fn178_q (t0 : V) : M := fun s K =>
 ((app 1 8 (V.slice none 0 0 true) t0) s fun t6 s =>
 (K t6 s))
noncomputable def fn178 : V → M := fn178_q
theorem fn178_qe (t0 : V) : fn178_q t0 = evF (E178) Tryz.f178 [t0] := by kernel_rfl
theorem fn178_s : SP Tryz.prog 178 (F1 fn178) := mk1 (mkEnv tab (L := L178) trivial) Tryz.func178 (by kernel_rfl) (fn178_qe)

/-! 150: sealchain/sealchainref11.CopyConf -/
def L150 (f178 : M1) : List (Nat × (List V → M)) := [(178, F1 f178)]
def E150 (f178 : M1) : Env := ⟨ty, tabC (L150 f178), meth, tabL [], tabL []⟩
noncomputable def fn150_q (f178 : M1) (t0 : V) : M := fun s K =>
 ((boxV t0) s fun t1 s =>
 ((newC [(V.int .i64 0), (V.int .i64 0), (V.slice none 0 0 true)]) s fun t2 s =>
 (optK (fp 2 t1) s fun t3 s => ((ld1 t3) s fun t4 s =>
 ((f178 t4) s fun t5 s =>
 (optK (fp 2 t1) s fun t6 s => ((st 1 t6 t5) s fun _ s =>
 ((ldA 3 t1) s fun t7 s =>
 ((st 3 t2 t7) s fun _ s =>
 (rfin (rcons (peek ti37 t2 s) (some [])) s K))))))))))
noncomputable def fn150 : V → M := fn150_q fn178
theorem fn150_qe (f178 : M1) (t0 : V) : fn150_q f178 t0 = evF (E150 f178) Tryz.f150 [t0] := by kernel_rfl
theorem fn150_s : SP Tryz.prog 150 (F1 fn150) := mk1 (mkEnv tab (L := L150 fn178) ⟨fn178_s, trivial⟩) Tryz.func150 (by kernel_rfl) (fn150_qe fn178)

/-! 137: (*sealchain/sealchainref15.Voter).lay -/
def L137 (f150 : M1) : List (Nat × (List V → M)) := [(150, F1 f150)]
def E137 (f150 : M1) : Env := ⟨ty, tabC (L137 f150), meth, tabL [(3, [0, 3, 5, 6])], tabL [(3, [0, 3, 5, 6])]⟩
noncomputable def fn137_L1 (f150 : M1) (t0 t3 t5 t6 : V) : AS → KX → Prop := fun s K =>
 (optK (nilV t0) s fun t9 s => (optK (fp 3 t9) s fun t10 s => ((ld1 t10) s fun t11 s1 =>
 (optK (lenV (some (Kd.slice 43)) t11) s1 fun t12 s1 => (optK (binV .lss (some (Kd.int .i64)) false t6 t12) s1 fun t13 s1 => (grd t13
 (optK (nilV t0) s1 fun t16 s1 => (optK (fp 3 t16) s1 fun t17 s1 => ((ld1 t17) s1 fun t18 s2 =>
 (optK (elemPtr none 4 t18 t6) s2 fun t20 s2 => (optK (fp 1 t20) s2 fun t21 s2 => (optK (fp 0 t21) s2 fun t22 s2 => ((ld1 t22) s2 fun t23 s3 =>
 (optK (fp 1 t3) s3 fun t24 s3 => (optK (fp 0 t24) s3 fun t25 s3 => ((ld1 t25) s3 fun t26 s4 =>
 (optK (binV .lss (some (Kd.int .i64)) false t23 t26) s4 fun t27 s4 => (condV t27
 (optK (nilV t0) s4 fun t31 s4 => (optK (fp 3 t31) s4 fun t32 s4 => ((ld1 t32) s4 fun t33 s4 =>
 (optK (elemPtr none 4 t33 t6) s4 fun t35 s4 => ((ldA 4 t35) s4 fun t36 s4 =>
 ((bsl 4 [(V.int .i64 0), (V.int .i64 0), (V.int .i64 0), (V.slice none 0 0 true)] 1 [(0, t36)]) s4 fun t37 s4 =>
 ((app 4 48 t5 t37) s4 fun t38 s4 =>
 (optK (binV .add (some (Kd.int .i64)) true t6 (V.int .i64 1)) s4 fun t40 s4 => (K .nrm (t0 :: (V.junk :: (V.junk :: (t3 :: (V.junk :: (t38 :: (t40 :: (jk 82 [])))))))) s4)))))))))
 (K (.exit 0) (t0 :: (V.junk :: (V.junk :: (t3 :: (V.junk :: (t5 :: (t6 :: (jk 82 [])))))))) s4)))))))))))))
 (K (.exit 0) (t0 :: (V.junk :: (V.junk :: (t3 :: (V.junk :: (t5 :: (t6 :: (jk 82 [])))))))) s1)
 False))))))
noncomputable def fn137_q (f150 : M1) (t0 t1 : V) : M := fun s K =>
 ((boxV t1) s fun t3 s =>
 (loopN LOOPS (fun tm s K => fn137_L1 f150 (tm.getD 0 .junk) (tm.getD 3 .junk) (tm.getD 5 .junk) (tm.getD 6 .junk) s K) (t0 :: (V.junk :: (V.junk :: (t3 :: (V.junk :: ((V.slice none 0 0 true) :: ((V.int .i64 0) :: (jk 82 [])))))))) s (fun e tm s => exX e (fun j1 => (exB (j1 == 0)
 (optK (fp 0 (tm.getD 3 .junk)) s fun t42 s => ((ld1 t42) s fun t43 s5 =>
 (optK (fp 1 (tm.getD 3 .junk)) s5 fun t44 s5 => ((ldA 3 t44) s5 fun t45 s6 =>
 ((f150 t45) s6 fun t46 s7 =>
 (chkB (holds ti3 t42 s7 t43) (optK (aggO (fillV (placeS [(0, 3), (1, 37)] ty) [(V.int .i64 0), (V.int .i64 0), (V.int .i64 0), (V.slice none 0 0 true)] [(0, t43), (1, t46)])) s7 fun t47 s7 => ((bsl 4 [(V.int .i64 0), (V.int .i64 0), (V.int .i64 0), (V.slice none 0 0 true)] 1 [(0, t47)]) s7 fun t48 s8 =>
 ((app 4 48 (tm.getD 5 .junk) t48) s8 fun t49 s9 =>
 (optK (nilV (tm.getD 0 .junk)) s9 fun t52 s9 => (optK (fp 3 t52) s9 fun t53 s9 => ((ld1 t53) s9 fun t54 s10 =>
 (optK (lenV (some (Kd.slice 43)) t54) s10 fun t55 s10 => (optK (binV .lss (some (Kd.int .i64)) false (tm.getD 6 .junk) t55) s10 fun t56 s10 => (grd t56
 (optK (nilV (tm.getD 0 .junk)) s10 fun t59 s10 => (optK (fp 3 t59) s10 fun t60 s10 => ((ld1 t60) s10 fun t61 s11 =>
 (optK (elemPtr none 4 t61 (tm.getD 6 .junk)) s11 fun t63 s11 => (optK (fp 1 t63) s11 fun t64 s11 => (optK (fp 0 t64) s11 fun t65 s11 => ((ld1 t65) s11 fun t66 s12 =>
 (optK (fp 1 (tm.getD 3 .junk)) s12 fun t67 s12 => (optK (fp 0 t67) s12 fun t68 s12 => ((ld1 t68) s12 fun t69 s13 =>
 (optK (binV .eql (some (Kd.int .i64)) false t66 t69) s13 fun t70 s13 => (condV t70
 (optK (binV .add (some (Kd.int .i64)) true (tm.getD 6 .junk) (V.int .i64 1)) s13 fun t73 s13 => (optK (nilV (tm.getD 0 .junk)) s13 fun t76 s13 => (optK (fp 3 t76) s13 fun t77 s13 => ((ld1 t77) s13 fun t78 s13 =>
 (optK (sliceSl 4 t78 (some t73) none none) s13 fun t80 s13 => ((app 4 48 t49 t80) s13 fun t81 s13 =>
 (optK (lenV (some (Kd.slice 43)) t81) s13 fun t83 s13 => (optK (binV .gtr (some (Kd.int .i64)) true t83 (V.int .i64 8)) s13 fun t84 s13 => (condV t84
 (K (V.bool false) s13)
 (optK (nilV (tm.getD 0 .junk)) s13 fun t87 s13 => (optK (fp 3 t87) s13 fun t88 s13 => ((st 1 t88 t81) s13 fun _ s13 =>
 (K (V.bool true) s13)))))))))))))
 (optK (nilV (tm.getD 0 .junk)) s13 fun t76 s13 => (optK (fp 3 t76) s13 fun t77 s13 => ((ld1 t77) s13 fun t78 s13 =>
 (optK (sliceSl 4 t78 (some (tm.getD 6 .junk)) none none) s13 fun t80 s13 => ((app 4 48 t49 t80) s13 fun t81 s13 =>
 (optK (lenV (some (Kd.slice 43)) t81) s13 fun t83 s13 => (optK (binV .gtr (some (Kd.int .i64)) true t83 (V.int .i64 8)) s13 fun t84 s13 => (condV t84
 (K (V.bool false) s13)
 (optK (nilV (tm.getD 0 .junk)) s13 fun t87 s13 => (optK (fp 3 t87) s13 fun t88 s13 => ((st 1 t88 t81) s13 fun _ s13 =>
 (K (V.bool true) s13))))))))))))))))))))))))
 (optK (nilV (tm.getD 0 .junk)) s10 fun t76 s10 => (optK (fp 3 t76) s10 fun t77 s10 => ((ld1 t77) s10 fun t78 s10 =>
 (optK (sliceSl 4 t78 (some (tm.getD 6 .junk)) none none) s10 fun t80 s10 => ((app 4 48 t49 t80) s10 fun t81 s10 =>
 (optK (lenV (some (Kd.slice 43)) t81) s10 fun t83 s10 => (optK (binV .gtr (some (Kd.int .i64)) true t83 (V.int .i64 8)) s10 fun t84 s10 => (condV t84
 (K (V.bool false) s10)
 (optK (nilV (tm.getD 0 .junk)) s10 fun t87 s10 => (optK (fp 3 t87) s10 fun t88 s10 => ((st 1 t88 t81) s10 fun _ s10 =>
 (K (V.bool true) s10))))))))))))
 False)))))))))))))))
 False)) (K V.junk s))))
noncomputable def fn137 : V → V → M := fn137_q fn150
theorem fn137_qe (f150 : M1) (t0 t1 : V) : fn137_q f150 t0 t1 = evF (E137 f150) Tryz.f137 [t0, t1] := by kernel_rfl
theorem fn137_s : SP Tryz.prog 137 (F2 fn137) := mk2 (mkEnv tab (L := L137 fn150) ⟨fn150_s, trivial⟩) Tryz.func137 (by kernel_rfl) (fn137_qe fn150)

/-! 151: sealchain/sealchainref11.CopyVotes -/
def L151 (f150 : M1) : List (Nat × (List V → M)) := [(150, F1 f150)]
def E151 (f150 : M1) : Env := ⟨ty, tabC (L151 f150), meth, tabL [(3, [0, 3, 4])], tabL [(3, [3])]⟩
noncomputable def fn151_L1 (f150 : M1) (t0 t3 t4 : V) : AS → KX → Prop := fun s K =>
 (optK (lenV (some (Kd.slice 43)) t0) s fun t7 s => (optK (binV .lss (some (Kd.int .i64)) false t4 t7) s fun t8 s => (condV t8
 (optK (elemPtr none 4 t0 t4) s fun t14 s => (optK (fp 0 t14) s fun t15 s => ((ld1 t15) s fun t16 s1 =>
 (optK (elemPtr none 4 t0 t4) s1 fun t19 s1 => (optK (fp 1 t19) s1 fun t20 s1 => ((ldA 3 t20) s1 fun t21 s2 =>
 ((f150 t21) s2 fun t22 s3 =>
 (chkB (holds ti3 t15 s3 t16) (optK (aggO (fillV (placeS [(0, 3), (1, 37)] ty) [(V.int .i64 0), (V.int .i64 0), (V.int .i64 0), (V.slice none 0 0 true)] [(0, t16), (1, t22)])) s3 fun t23 s3 => ((bsl 4 [(V.int .i64 0), (V.int .i64 0), (V.int .i64 0), (V.slice none 0 0 true)] 1 [(0, t23)]) s3 fun t24 s4 =>
 ((app 4 48 t3 t24) s4 fun t25 s5 =>
 (optK (binV .add (some (Kd.int .i64)) true t4 (V.int .i64 1)) s5 fun t10 s5 => (K .nrm (t0 :: (V.junk :: (V.junk :: (t25 :: (t10 :: (jk 22 [])))))) s5)))))))))))))
 (K (.exit 0) (jk 3 (t3 :: (jk 23 []))) s))))
noncomputable def fn151_q (f150 : M1) (t0 : V) : M := fun s K =>
 (loopN LOOPS (fun tm s K => fn151_L1 f150 (tm.getD 0 .junk) (tm.getD 3 .junk) (tm.getD 4 .junk) s K) (t0 :: (V.junk :: (V.junk :: ((V.slice none 0 0 true) :: ((V.int .i64 0) :: (jk 22 [])))))) s (fun e tm s => exX e (fun j1 => (exB (j1 == 0)
 (K (tm.getD 3 .junk) s)
 False)) (K V.junk s)))
noncomputable def fn151 : V → M := fn151_q fn150
theorem fn151_qe (f150 : M1) (t0 : V) : fn151_q f150 t0 = evF (E151 f150) Tryz.f151 [t0] := by kernel_rfl
theorem fn151_s : SP Tryz.prog 151 (F1 fn151) := mk1 (mkEnv tab (L := L151 fn150) ⟨fn150_s, trivial⟩) Tryz.func151 (by kernel_rfl) (fn151_qe fn150)

/-! 138: (*sealchain/sealchainref15.Voter).above -/
def L138 (f151 : M1) : List (Nat × (List V → M)) := [(151, F1 f151)]
def E138 (f151 : M1) : Env := ⟨ty, tabC (L138 f151), meth, tabL [(3, [0, 1, 5, 6])], tabL [(3, [5])]⟩
noncomputable def fn138_L1 (f151 : M1) (t0 t1 t5 t6 : V) : AS → KX → Prop := fun s K =>
 (optK (nilV t0) s fun t9 s => (optK (fp 3 t9) s fun t10 s => ((ld1 t10) s fun t11 s =>
 (optK (lenV (some (Kd.slice 43)) t11) s fun t12 s => (optK (binV .lss (some (Kd.int .i64)) false t6 t12) s fun t13 s => (condV t13
 (optK (nilV t0) s fun t17 s => (optK (fp 3 t17) s fun t18 s => ((ld1 t18) s fun t19 s =>
 (optK (elemPtr none 4 t19 t6) s fun t21 s => (optK (fp 1 t21) s fun t22 s => (optK (fp 0 t22) s fun t23 s => ((ld1 t23) s fun t24 s =>
 (optK (binV .geq (some (Kd.int .i64)) false t24 t1) s fun t26 s => (condV t26
 (optK (nilV t0) s fun t29 s => (optK (fp 3 t29) s fun t30 s => ((ld1 t30) s fun t31 s =>
 (optK (elemPtr none 4 t31 t6) s fun t33 s => ((ldA 4 t33) s fun t34 s =>
 ((bsl 4 [(V.int .i64 0), (V.int .i64 0), (V.int .i64 0), (V.slice none 0 0 true)] 1 [(0, t34)]) s fun t35 s =>
 ((app 4 48 t5 t35) s fun t36 s =>
 (optK (binV .add (some (Kd.int .i64)) true t6 (V.int .i64 1)) s fun t15 s => (K .nrm (t0 :: (t1 :: (jk 3 (t36 :: (t15 :: (jk 32 [])))))) s)))))))))
 (optK (binV .add (some (Kd.int .i64)) true t6 (V.int .i64 1)) s fun t15 s => (K .nrm (t0 :: (t1 :: (jk 3 (t5 :: (t15 :: (jk 32 [])))))) s)))))))))))
 (K (.exit 0) (jk 5 (t5 :: (jk 33 []))) s)))))))
noncomputable def fn138_q (f151 : M1) (t0 t1 : V) : M := fun s K =>
 (loopN LOOPS (fun tm s K => fn138_L1 f151 (tm.getD 0 .junk) (tm.getD 1 .junk) (tm.getD 5 .junk) (tm.getD 6 .junk) s K) (t0 :: (t1 :: (jk 3 ((V.slice none 0 0 true) :: ((V.int .i64 0) :: (jk 32 [])))))) s (fun e tm s => exX e (fun j1 => (exB (j1 == 0)
 ((f151 (tm.getD 5 .junk)) s fun t38 s =>
 (K t38 s))
 False)) (K V.junk s)))
noncomputable def fn138 : V → V → M := fn138_q fn151
theorem fn138_qe (f151 : M1) (t0 t1 : V) : fn138_q f151 t0 t1 = evF (E138 f151) Tryz.f138 [t0, t1] := by kernel_rfl
theorem fn138_s : SP Tryz.prog 138 (F2 fn138) := mk2 (mkEnv tab (L := L138 fn151) ⟨fn151_s, trivial⟩) Tryz.func138 (by kernel_rfl) (fn138_qe fn151)

/-! 103: (*sealchain/sealchainref15.Voter).done -/
def L103 (f131 : M1) (f132 : M2) (f133 : M2) (f134 : M2) (f135 : M1) (f136 : M1) (f137 : M2) (f138 : M2) : List (Nat × (List V → M)) := [(131, F1 f131), (132, F2 f132), (133, F2 f133), (134, F2 f134), (135, F1 f135), (136, F1 f136), (137, F2 f137), (138, F2 f138)]
def E103 (f131 : M1) (f132 : M2) (f133 : M2) (f134 : M2) (f135 : M1) (f136 : M1) (f137 : M2) (f138 : M2) : Env := ⟨ty, tabC (L103 f131 f132 f133 f134 f135 f136 f137 f138), meth, tabL [], tabL []⟩
noncomputable def fn103_q (f131 : M1) (f132 : M2) (f133 : M2) (f134 : M2) (f135 : M1) (f136 : M1) (f137 : M2) (f138 : M2) (t0 t1 : V) : M := fun s K =>
 ((f131 t1) s fun t12 s =>
 ((f132 t12 (V.int .i64 1)) s fun t14 s =>
 ((f133 t12 (V.int .i64 9007199254740991)) s fun t16 s =>
 (optK (binV .eql (some (Kd.int .i64)) true t14 (V.int .i64 2)) s fun t18 s => (condV t18
 ((f134 t12 (V.int .i64 2048)) s fun t20 s =>
 ((f135 t20) s fun t23 s =>
 (optK (extractV t23 0) s fun t24 s => (optK (extractV t23 1) s fun t25 s => ((newC [(V.int .i64 0), (V.int .i64 0), (V.slice none 0 0 true)]) s fun t9 s =>
 ((st 3 t9 t24) s fun _ s =>
 ((f136 t12) s fun t27 s1 =>
 (optK (binV .neq (some (Kd.int .i64)) true t27 (V.int .i64 0)) s1 fun t28 s1 => (grd t28
 (K (V.bool false) s1)
 (optK (binV .neq (some (Kd.int .i64)) true t25 (V.int .i64 0)) s1 fun t31 s1 => (grd t31
 (K (V.bool false) s1)
 (optK (binV .lss (some (Kd.int .i64)) true t16 (V.int .i64 1)) s1 fun t35 s1 => (grd t35
 (K (V.bool false) s1)
 (optK (fp 0 t9) s1 fun t38 s1 => ((ld1 t38) s1 fun t39 s2 =>
 (optK (nilV t0) s2 fun t41 s2 => (optK (fp 2 t41) s2 fun t42 s2 => ((ld1 t42) s2 fun t43 s3 =>
 (optK (binV .lss (some (Kd.int .i64)) false t39 t43) s3 fun t44 s3 => (grd t44
 (K (V.bool false) s3)
 ((ldA 3 t9) s3 fun t49 s4 =>
 (optK (aggO (fillV (placeS [(0, 3), (1, 37)] ty) [(V.int .i64 0), (V.int .i64 0), (V.int .i64 0), (V.slice none 0 0 true)] [(0, t16), (1, t49)])) s4 fun t50 s4 => ((f137 t0 t50) s4 fun t51 s5 =>
 (optK (unV .not t51) s5 fun t52 s5 => (condV t52
 (K (V.bool false) s5)
 (optK (nilV t0) s5 fun t56 s5 => (optK (fp 1 t56) s5 fun t57 s5 => ((ld1 t57) s5 fun t58 s5 =>
 (optK (foldV max2V t58 [t16]) s5 fun t60 s5 => (optK (nilV t0) s5 fun t61 s5 => (optK (fp 1 t61) s5 fun t62 s5 => ((st 1 t62 t60) s5 fun _ s5 =>
 (K (V.bool true) s5)))))))))))))
 False)))))))
 False))
 False))
 False)))))))))
 ((f136 t12) s fun t64 s =>
 (optK (binV .neq (some (Kd.int .i64)) true t64 (V.int .i64 0)) s fun t65 s => (grd t65
 (K (V.bool false) s)
 (optK (binV .lss (some (Kd.int .i64)) true t16 (V.int .i64 1)) s fun t68 s => (condV t68
 (K (V.bool false) s)
 (optK (binV .eql (some (Kd.int .i64)) true t14 (V.int .i64 1)) s fun t72 s => (condV t72
 (optK (nilV t0) s fun t75 s => (optK (fp 1 t75) s fun t76 s => ((ld1 t76) s fun t77 s =>
 (optK (foldV max2V t77 [t16]) s fun t79 s => (optK (nilV t0) s fun t80 s => (optK (fp 1 t80) s fun t81 s => ((st 1 t81 t79) s fun _ s =>
 (K (V.bool true) s))))))))
 (optK (binV .eql (some (Kd.int .i64)) true t14 (V.int .i64 3)) s fun t83 s => (condV t83
 (optK (nilV t0) s fun t86 s => (optK (fp 2 t86) s fun t87 s => ((ld1 t87) s fun t88 s =>
 (optK (foldV max2V t88 [t16]) s fun t90 s => (optK (nilV t0) s fun t91 s => (optK (fp 2 t91) s fun t92 s => ((st 1 t92 t90) s fun _ s =>
 (optK (nilV t0) s fun t96 s => (optK (fp 2 t96) s fun t97 s => ((ld1 t97) s fun t98 s =>
 ((f138 t0 t98) s fun t99 s =>
 (optK (nilV t0) s fun t100 s => (optK (fp 3 t100) s fun t101 s => ((st 1 t101 t99) s fun _ s =>
 (K (V.bool true) s)))))))))))))))
 (K (V.bool false) s)))))))
 False))))))))
noncomputable def fn103 : V → V → M := fn103_q fn131 fn132 fn133 fn134 fn135 fn136 fn137 fn138
theorem fn103_qe (f131 : M1) (f132 : M2) (f133 : M2) (f134 : M2) (f135 : M1) (f136 : M1) (f137 : M2) (f138 : M2) (t0 t1 : V) : fn103_q f131 f132 f133 f134 f135 f136 f137 f138 t0 t1 = evF (E103 f131 f132 f133 f134 f135 f136 f137 f138) Tryz.f103 [t0, t1] := by kernel_rfl
theorem fn103_s : SP Tryz.prog 103 (F2 fn103) := mk2 (mkEnv tab (L := L103 fn131 fn132 fn133 fn134 fn135 fn136 fn137 fn138) ⟨fn131_s, fn132_s, fn133_s, fn134_s, fn135_s, fn136_s, fn137_s, fn138_s, trivial⟩) Tryz.func103 (by kernel_rfl) (fn103_qe fn131 fn132 fn133 fn134 fn135 fn136 fn137 fn138)

/-! 57: sealchain/sealchainref15.Open -/
def L57 (f102 : M1) (f103 : M2) : List (Nat × (List V → M)) := [(102, F1 f102), (103, F2 f103)]
def E57 (f102 : M1) (f103 : M2) : Env := ⟨ty, tabC (L57 f102 f103), meth, tabL [(6, [4, 6, 7])], tabL [(6, [2, 3, 6])]⟩
noncomputable def fn57_L1 (f102 : M1) (f103 : M2) (t4 t6 t7 : V) : AS → KX → Prop := fun s K =>
 (optK (nilV t4) s fun t21 s => (optK (fp 1 t21) s fun t22 s => ((ld1 t22) s fun t23 s =>
 (optK (lenV (some (Kd.slice 59)) t23) s fun t24 s => (optK (binV .lss (some (Kd.int .i64)) false t7 t24) s fun t25 s => (condV t25
 (optK (nilV t4) s fun t30 s => (optK (fp 1 t30) s fun t31 s => ((ld1 t31) s fun t32 s =>
 (optK (elemPtr none 1 t32 t7) s fun t34 s => ((ld1 t34) s fun t35 s =>
 ((f103 t6 t35) s fun t36 s =>
 (optK (unV .not t36) s fun t37 s => (condV t37
 (K .ret (V.junk :: (V.junk :: ((V.ptr none) :: ((V.int .i64 140) :: (V.junk :: (V.junk :: (t6 :: (jk 32 [])))))))) s)
 (optK (binV .add (some (Kd.int .i64)) true t7 (V.int .i64 1)) s fun t27 s => (K .nrm (jk 4 (t4 :: (V.junk :: (t6 :: (t27 :: (jk 31 [])))))) s))))))))))
 (K (.exit 0) (jk 6 (t6 :: (jk 32 []))) s)))))))
noncomputable def fn57_q (f102 : M1) (f103 : M2) (t0 : V) : M := fun s K =>
 ((f102 t0) s fun t10 s =>
 (optK (extractV t10 0) s fun t11 s => (optK (extractV t10 1) s fun t12 s => (optK (binV .neq (some (Kd.int .i64)) true t12 (V.int .i64 0)) s fun t14 s => (condV t14
 (K (V.tuple [(V.ptr none), t12]) s)
 (optK (aggO (fillV (placeS [(0, 106), (1, 3), (2, 3), (3, 39)] ty) [(V.ptr none), (V.int .i64 0), (V.int .i64 0), (V.slice none 0 0 true)] [(0, t11)])) s fun t17 s => ((boxV t17) s fun t18 s =>
 (loopN LOOPS (fun tm s K => fn57_L1 f102 f103 (tm.getD 4 .junk) (tm.getD 6 .junk) (tm.getD 7 .junk) s K) (jk 4 (t11 :: (V.junk :: (t18 :: ((V.int .i64 0) :: (jk 31 [])))))) s (fun e tm s => exX e (fun j1 => (exB (j1 == 0)
 (K (V.tuple [(tm.getD 6 .junk), (V.int .i64 0)]) s)
 False)) (K (V.tuple [(tm.getD 2 .junk), (tm.getD 3 .junk)]) s))))))))))
noncomputable def fn57 : V → M := fn57_q fn102 fn103
theorem fn57_qe (f102 : M1) (f103 : M2) (t0 : V) : fn57_q f102 f103 t0 = evF (E57 f102 f103) Tryz.f57 [t0] := by kernel_rfl
theorem fn57_s : SP Tryz.prog 57 (F1 fn57) := mk1 (mkEnv tab (L := L57 fn102 fn103) ⟨fn102_s, fn103_s, trivial⟩) Tryz.func57 (by kernel_rfl) (fn57_qe fn102 fn103)

/-! 26: (*sealchain/sealchainlaw15.both).open -/
def L26 (f32 : M1) (f56 : M1) (f8 : M1) (f57 : M1) : List (Nat × (List V → M)) := [(32, F1 f32), (56, F1 f56), (8, F1 f8), (57, F1 f57)]
def E26 (f32 : M1) (f56 : M1) (f8 : M1) (f57 : M1) : Env := ⟨ty, tabC (L26 f32 f56 f8 f57), meth, tabL [], tabL []⟩
noncomputable def fn26_q (f32 : M1) (f56 : M1) (f8 : M1) (f57 : M1) (t0 : V) : M := fun s K =>
 (optK (nilV t0) s fun t8 s => (optK (fp 0 t8) s fun t9 s => ((ld1 t9) s fun t10 s =>
 ((f32 t10) s fun t11 s =>
 (optK (nilV t0) s fun t13 s => (optK (fp 2 t13) s fun t14 s => ((ld1 t14) s fun t15 s =>
 ((f56 t15) s fun t16 s =>
 (optK (nilV t0) s fun t19 s => (optK (fp 0 t19) s fun t20 s => ((ld1 t20) s fun t21 s =>
 ((f8 t21) s fun t22 s =>
 (optK (extractV t22 0) s fun t23 s => (optK (extractV t22 1) s fun t24 s => (optK (nilV t0) s fun t27 s => (optK (fp 2 t27) s fun t28 s => ((ld1 t28) s fun t29 s =>
 ((f57 t29) s fun t30 s =>
 (optK (extractV t30 0) s fun t31 s => (optK (extractV t30 1) s fun t32 s => (optK (nilV t0) s fun t35 s => (optK (fp 1 t35) s fun t36 s => ((st 1 t36 t23) s fun _ s =>
 (optK (nilV t0) s fun t39 s => (optK (fp 3 t39) s fun t40 s => ((st 1 t40 t31) s fun _ s =>
 (optK (binV .eql (some (Kd.int .i64)) false t24 t32) s fun t43 s => (grd t43
 (optK (binV .eql (some (Kd.ptr 69)) true t23 (V.ptr none)) s fun t46 s => (optK (binV .neq (some (Kd.int .i64)) true t24 (V.int .i64 0)) s fun t48 s => (optK (binV .eql (some Kd.bool) false t46 t48) s fun t49 s => (K t49 s))))
 (K (V.bool false) s)
 False))))))))))))))))))))))))))))
noncomputable def fn26 : V → M := fn26_q fn32 fn56 fn8 fn57
theorem fn26_qe (f32 : M1) (f56 : M1) (f8 : M1) (f57 : M1) (t0 : V) : fn26_q f32 f56 f8 f57 t0 = evF (E26 f32 f56 f8 f57) Tryz.f26 [t0] := by kernel_rfl
theorem fn26_s : SP Tryz.prog 26 (F1 fn26) := mk1 (mkEnv tab (L := L26 fn32 fn56 fn8 fn57) ⟨fn32_s, fn56_s, fn8_s, fn57_s, trivial⟩) Tryz.func26 (by kernel_rfl) (fn26_qe fn32 fn56 fn8 fn57)

/-! 19: sealchain/sealchainref00.EqInts -/
def L19 : List (Nat × (List V → M)) := []
def E19 : Env := ⟨ty, tabC (L19), meth, tabL [(4, [0, 1, 5])], tabL [(4, [4])]⟩
noncomputable def fn19_L1 (t0 t1 t5 : V) : AS → KX → Prop := fun s K =>
 (optK (lenV (some (Kd.slice 3)) t0) s fun t13 s => (optK (binV .lss (some (Kd.int .i64)) false t5 t13) s fun t14 s => (condV t14
 (optK (elemPtr none 1 t0 t5) s fun t19 s => ((ld1 t19) s fun t20 s1 =>
 (optK (elemPtr none 1 t1 t5) s1 fun t23 s1 => ((ld1 t23) s1 fun t24 s2 =>
 (optK (binV .neq (some (Kd.int .i64)) false t20 t24) s2 fun t25 s2 => (condV t25
 (K .ret (jk 4 ((V.bool false) :: (jk 21 []))) s2)
 (optK (binV .add (some (Kd.int .i64)) true t5 (V.int .i64 1)) s2 fun t16 s2 => (K .nrm (t0 :: (t1 :: (jk 3 (t16 :: (jk 20 []))))) s2))))))))
 (K (.exit 0) (jk 26 []) s))))
noncomputable def fn19_q (t0 t1 : V) : M := fun s K =>
 (optK (lenV (some (Kd.slice 3)) t0) s fun t7 s => (optK (lenV (some (Kd.slice 3)) t1) s fun t9 s => (optK (binV .neq (some (Kd.int .i64)) false t7 t9) s fun t10 s => (condV t10
 (K (V.bool false) s)
 (loopN LOOPS (fun tm s K => fn19_L1 (tm.getD 0 .junk) (tm.getD 1 .junk) (tm.getD 5 .junk) s K) (t0 :: (t1 :: (jk 3 ((V.int .i64 0) :: (jk 20 []))))) s (fun e tm s => exX e (fun j1 => (exB (j1 == 0)
 (K (V.bool true) s)
 False)) (K (tm.getD 4 .junk) s)))))))
noncomputable def fn19 : V → V → M := fn19_q
theorem fn19_qe (t0 t1 : V) : fn19_q t0 t1 = evF (E19) Tryz.f19 [t0, t1] := by kernel_rfl
theorem fn19_s : SP Tryz.prog 19 (F2 fn19) := mk2 (mkEnv tab (L := L19) trivial) Tryz.func19 (by kernel_rfl) (fn19_qe)

/-! 104: sealchain/sealchainref11.SameConf -/
def L104 (f19 : M2) : List (Nat × (List V → M)) := [(19, F2 f19)]
def E104 (f19 : M2) : Env := ⟨ty, tabC (L104 f19), meth, tabL [], tabL []⟩
noncomputable def fn104_q (f19 : M2) (t0 t1 : V) : M := fun s K =>
 ((boxV t0) s fun t2 s =>
 ((boxV t1) s fun t3 s =>
 (optK (fp 0 t2) s fun t5 s => ((ld1 t5) s fun t6 s =>
 (optK (fp 0 t3) s fun t7 s => ((ld1 t7) s fun t8 s =>
 (optK (binV .eql (some (Kd.int .i64)) false t6 t8) s fun t9 s => (grd t9
 (optK (fp 1 t2) s fun t11 s => ((ld1 t11) s fun t12 s =>
 (optK (fp 1 t3) s fun t13 s => ((ld1 t13) s fun t14 s =>
 (optK (binV .eql (some (Kd.int .i64)) false t12 t14) s fun t15 s => (grd t15
 (optK (fp 2 t2) s fun t18 s => ((ld1 t18) s fun t19 s =>
 (optK (fp 2 t3) s fun t20 s => ((ld1 t20) s fun t21 s =>
 ((f19 t19 t21) s fun t22 s =>
 (K t22 s))))))
 (K (V.bool false) s)
 False))))))
 (K (V.bool false) s)
 False))))))))
noncomputable def fn104 : V → V → M := fn104_q fn19
theorem fn104_qe (f19 : M2) (t0 t1 : V) : fn104_q f19 t0 t1 = evF (E104 f19) Tryz.f104 [t0, t1] := by kernel_rfl
theorem fn104_s : SP Tryz.prog 104 (F2 fn104) := mk2 (mkEnv tab (L := L104 fn19) ⟨fn19_s, trivial⟩) Tryz.func104 (by kernel_rfl) (fn104_qe fn19)

/-! 58: sealchain/sealchainlaw15.sameVotes -/
def L58 (f104 : M2) : List (Nat × (List V → M)) := [(104, F2 f104)]
def E58 (f104 : M2) : Env := ⟨ty, tabC (L58 f104), meth, tabL [(4, [0, 1, 5])], tabL [(4, [4])]⟩
noncomputable def fn58_L1 (f104 : M2) (t0 t1 t5 : V) : AS → KX → Prop := fun s K =>
 (optK (lenV (some (Kd.slice 43)) t0) s fun t13 s => (optK (binV .lss (some (Kd.int .i64)) false t5 t13) s fun t14 s => (condV t14
 (optK (elemPtr none 4 t0 t5) s fun t19 s => (optK (fp 0 t19) s fun t20 s => ((ld1 t20) s fun t21 s1 =>
 (optK (elemPtr none 4 t1 t5) s1 fun t24 s1 => (optK (fp 0 t24) s1 fun t25 s1 => ((ld1 t25) s1 fun t26 s2 =>
 (optK (binV .neq (some (Kd.int .i64)) false t21 t26) s2 fun t27 s2 => (grd t27
 (K .ret (jk 4 ((V.bool false) :: (jk 37 []))) s2)
 (optK (elemPtr none 4 t0 t5) s2 fun t31 s2 => (optK (fp 1 t31) s2 fun t32 s2 => ((ldA 3 t32) s2 fun t33 s3 =>
 (optK (elemPtr none 4 t1 t5) s3 fun t36 s3 => (optK (fp 1 t36) s3 fun t37 s3 => ((ldA 3 t37) s3 fun t38 s4 =>
 ((f104 t33 t38) s4 fun t39 s5 =>
 (optK (unV .not t39) s5 fun t40 s5 => (condV t40
 (K .ret (jk 4 ((V.bool false) :: (jk 37 []))) s5)
 (optK (binV .add (some (Kd.int .i64)) true t5 (V.int .i64 1)) s5 fun t16 s5 => (K .nrm (t0 :: (t1 :: (jk 3 (t16 :: (jk 36 []))))) s5)))))))))))
 False))))))))
 (K (.exit 0) (jk 42 []) s))))
noncomputable def fn58_q (f104 : M2) (t0 t1 : V) : M := fun s K =>
 (optK (lenV (some (Kd.slice 43)) t0) s fun t7 s => (optK (lenV (some (Kd.slice 43)) t1) s fun t9 s => (optK (binV .neq (some (Kd.int .i64)) false t7 t9) s fun t10 s => (condV t10
 (K (V.bool false) s)
 (loopN LOOPS (fun tm s K => fn58_L1 f104 (tm.getD 0 .junk) (tm.getD 1 .junk) (tm.getD 5 .junk) s K) (t0 :: (t1 :: (jk 3 ((V.int .i64 0) :: (jk 36 []))))) s (fun e tm s => exX e (fun j1 => (exB (j1 == 0)
 (K (V.bool true) s)
 False)) (K (tm.getD 4 .junk) s)))))))
noncomputable def fn58 : V → V → M := fn58_q fn104
theorem fn58_qe (f104 : M2) (t0 t1 : V) : fn58_q f104 t0 t1 = evF (E58 f104) Tryz.f58 [t0, t1] := by kernel_rfl
theorem fn58_s : SP Tryz.prog 58 (F2 fn58) := mk2 (mkEnv tab (L := L58 fn104) ⟨fn104_s, trivial⟩) Tryz.func58 (by kernel_rfl) (fn58_qe fn104)

/-! 11: (*sealchain/vote.Voter).Promised -/
def L11 (f39 : M1) : List (Nat × (List V → M)) := [(39, F1 f39)]
def E11 (f39 : M1) : Env := ⟨ty, tabC (L11 f39), meth, tabL [], tabL []⟩
noncomputable def fn11_q (f39 : M1) (t0 : V) : M := fun s K =>
 ((f39 t0) s fun t4 s =>
 (condV t4
 (K (V.int .i64 0) s)
 (optK (nilV t0) s fun t6 s => (optK (fp 1 t6) s fun t7 s => ((ld1 t7) s fun t8 s =>
 (K t8 s))))))
noncomputable def fn11 : V → M := fn11_q fn39
theorem fn11_qe (f39 : M1) (t0 : V) : fn11_q f39 t0 = evF (E11 f39) Tryz.f11 [t0] := by kernel_rfl
theorem fn11_s : SP Tryz.prog 11 (F1 fn11) := mk1 (mkEnv tab (L := L11 fn39) ⟨fn39_s, trivial⟩) Tryz.func11 (by kernel_rfl) (fn11_qe fn39)

/-! 29: (*sealchain/vote.Voter).Dead -/
def L29 (f39 : M1) (f63 : M1) : List (Nat × (List V → M)) := [(39, F1 f39), (63, F1 f63)]
def E29 (f39 : M1) (f63 : M1) : Env := ⟨ty, tabC (L29 f39 f63), meth, tabL [], tabL []⟩
noncomputable def fn29_q (f39 : M1) (f63 : M1) (t0 : V) : M := fun s K =>
 ((f39 t0) s fun t4 s =>
 (optK (unV .not t4) s fun t5 s => (grd t5
 (optK (nilV t0) s fun t8 s => (optK (fp 0 t8) s fun t9 s => ((ld1 t9) s fun t10 s =>
 ((f63 t10) s fun t11 s =>
 (K t11 s)))))
 (K (V.bool false) s)
 False)))
noncomputable def fn29 : V → M := fn29_q fn39 fn63
theorem fn29_qe (f39 : M1) (f63 : M1) (t0 : V) : fn29_q f39 f63 t0 = evF (E29 f39 f63) Tryz.f29 [t0] := by kernel_rfl
theorem fn29_s : SP Tryz.prog 29 (F1 fn29) := mk1 (mkEnv tab (L := L29 fn39 fn63) ⟨fn39_s, fn63_s, trivial⟩) Tryz.func29 (by kernel_rfl) (fn29_qe fn39 fn63)

/-! 27: (*sealchain/sealchainlaw15.both).same -/
def L27 (f16 : M1) (f58 : M2) (f11 : M1) (f18 : M1) (f29 : M1) (f60 : M1) (f59 : M2) : List (Nat × (List V → M)) := [(16, F1 f16), (58, F2 f58), (11, F1 f11), (18, F1 f18), (29, F1 f29), (60, F1 f60), (59, F2 f59)]
def E27 (f16 : M1) (f58 : M2) (f11 : M1) (f18 : M1) (f29 : M1) (f60 : M1) (f59 : M2) : Env := ⟨ty, tabC (L27 f16 f58 f11 f18 f29 f60 f59), meth, tabL [(5, [3, 4]), (8, [3, 4, 5])], tabL [(5, []), (8, [3, 4])]⟩
noncomputable def fn27_L2 (f16 : M1) (f58 : M2) (f11 : M1) (f18 : M1) (f29 : M1) (f60 : M1) (f59 : M2) (t3 t4 t5 : V) : AS → KX → Prop := fun s K =>
 (optK (elemPtr none 4 t3 t4) s fun t94 s => (optK (fp 1 t94) s fun t95 s => (optK (fp 2 t95) s fun t96 s => ((ld1 t96) s fun t97 s =>
 (optK (lenV (some (Kd.slice 3)) t97) s fun t98 s => (optK (binV .lss (some (Kd.int .i64)) false t5 t98) s fun t99 s => (condV t99
 (optK (elemPtr none 4 t3 t4) s fun t104 s => (optK (fp 1 t104) s fun t105 s => (optK (fp 2 t105) s fun t106 s => ((ld1 t106) s fun t107 s =>
 (optK (elemPtr none 1 t107 t5) s fun t109 s => ((st 1 t109 (V.int .i64 (-9))) s fun _ s =>
 (optK (binV .add (some (Kd.int .i64)) true t5 (V.int .i64 1)) s fun t101 s => (K .nrm (jk 3 (t3 :: (t4 :: (t101 :: (jk 104 []))))) s))))))))
 (K (.exit 2) (jk 3 (t3 :: (t4 :: (jk 105 [])))) s))))))))
noncomputable def fn27_L1 (f16 : M1) (f58 : M2) (f11 : M1) (f18 : M1) (f29 : M1) (f60 : M1) (f59 : M2) (t3 t4 : V) : AS → KX → Prop := fun s K =>
 (optK (lenV (some (Kd.slice 43)) t3) s fun t87 s => (optK (binV .lss (some (Kd.int .i64)) false t4 t87) s fun t88 s => (condV t88
 (loopN LOOPS (fun tm s K => fn27_L2 f16 f58 f11 f18 f29 f60 f59 (tm.getD 3 .junk) (tm.getD 4 .junk) (tm.getD 5 .junk) s K) (jk 3 (t3 :: (t4 :: ((V.int .i64 0) :: (jk 104 []))))) s (fun e tm s => exX e (fun j1 => (exB (j1 == 2)
 (optK (binV .add (some (Kd.int .i64)) true (tm.getD 4 .junk) (V.int .i64 1)) s fun t90 s => (K .nrm (jk 3 ((tm.getD 3 .junk) :: (t90 :: (jk 105 [])))) s))
 (exB (j1 == 1)
 (optK (binV .add (some (Kd.int .i64)) true (tm.getD 4 .junk) (V.int .i64 1)) s fun t90 s => (K .nrm (jk 3 ((tm.getD 3 .junk) :: (t90 :: (jk 105 [])))) s))
 (K (.exit j1) (jk 110 []) s)))) (K .ret (jk 110 []) s)))
 (K (.exit 0) (jk 110 []) s))))
noncomputable def fn27_q (f16 : M1) (f58 : M2) (f11 : M1) (f18 : M1) (f29 : M1) (f60 : M1) (f59 : M2) (t0 : V) : M := fun s K =>
 (optK (nilV t0) s fun t7 s => (optK (fp 1 t7) s fun t8 s => ((ld1 t8) s fun t9 s =>
 ((f16 t9) s fun t10 s =>
 (optK (nilV t0) s fun t13 s => (optK (fp 3 t13) s fun t14 s => ((ld1 t14) s fun t15 s1 =>
 (optK (nilV t15) s1 fun t16 s1 => (optK (fp 3 t16) s1 fun t17 s1 => ((ld1 t17) s1 fun t18 s2 =>
 ((f58 t10 t18) s2 fun t19 s3 =>
 (optK (unV .not t19) s3 fun t20 s3 => (grd t20
 (K (V.bool false) s3)
 (optK (nilV t0) s3 fun t23 s3 => (optK (fp 1 t23) s3 fun t24 s3 => ((ld1 t24) s3 fun t25 s4 =>
 ((f11 t25) s4 fun t26 s5 =>
 (optK (nilV t0) s5 fun t28 s5 => (optK (fp 3 t28) s5 fun t29 s5 => ((ld1 t29) s5 fun t30 s6 =>
 (chkB (holds ti56 t29 s4 t30) (optK (nilV t30) s6 fun t31 s6 => (optK (fp 1 t31) s6 fun t32 s6 => ((ld1 t32) s6 fun t33 s7 =>
 (chkB (holds ti3 t32 s4 t33) (optK (binV .neq (some (Kd.int .i64)) false t26 t33) s7 fun t34 s7 => (grd t34
 (K (V.bool false) s7)
 (optK (nilV t0) s7 fun t38 s7 => (optK (fp 1 t38) s7 fun t39 s7 => ((ld1 t39) s7 fun t40 s8 =>
 ((f18 t40) s8 fun t41 s9 =>
 (optK (nilV t0) s9 fun t43 s9 => (optK (fp 3 t43) s9 fun t44 s9 => ((ld1 t44) s9 fun t45 s10 =>
 (chkB (holds ti56 t44 s8 t45) (optK (nilV t45) s10 fun t46 s10 => (optK (fp 2 t46) s10 fun t47 s10 => ((ld1 t47) s10 fun t48 s11 =>
 (chkB (holds ti3 t47 s8 t48) (optK (binV .neq (some (Kd.int .i64)) false t41 t48) s11 fun t49 s11 => (grd t49
 (K (V.bool false) s11)
 (optK (nilV t0) s11 fun t53 s11 => (optK (fp 1 t53) s11 fun t54 s11 => ((ld1 t54) s11 fun t55 s12 =>
 ((f29 t55) s12 fun t56 s13 =>
 (optK (nilV t0) s13 fun t58 s13 => (optK (fp 3 t58) s13 fun t59 s13 => ((ld1 t59) s13 fun t60 s14 =>
 (chkB (holds ti56 t59 s12 t60) (optK (nilV t60) s14 fun t61 s14 => (optK (fp 0 t61) s14 fun t62 s14 => ((ld1 t62) s14 fun t63 s15 =>
 (chkB (holds ti106 t62 s12 t63) (optK (nilV t63) s15 fun t64 s15 => (optK (fp 2 t64) s15 fun t65 s15 => ((ld1 t65) s15 fun t66 s16 =>
 (chkB (holds ti4 t65 s12 t66) (optK (binV .neq (some Kd.bool) false t56 t66) s16 fun t67 s16 => (grd t67
 (K (V.bool false) s16)
 (optK (nilV t0) s16 fun t71 s16 => (optK (fp 0 t71) s16 fun t72 s16 => ((ld1 t72) s16 fun t73 s17 =>
 ((f60 t73) s17 fun t74 s18 =>
 (optK (nilV t0) s18 fun t76 s18 => (optK (fp 2 t76) s18 fun t77 s18 => ((ld1 t77) s18 fun t78 s19 =>
 (chkB (holds ti54 t77 s17 t78) (optK (nilV t78) s19 fun t79 s19 => (optK (fp 0 t79) s19 fun t80 s19 => ((ld1 t80) s19 fun t81 s20 =>
 (chkB (holds ti59 t80 s17 t81) ((f59 t74 t81) s20 fun t82 s21 =>
 (optK (unV .not t82) s21 fun t83 s21 => (condV t83
 (K (V.bool false) s21)
 (loopN LOOPS (fun tm s K => fn27_L1 f16 f58 f11 f18 f29 f60 f59 (tm.getD 3 .junk) (tm.getD 4 .junk) s K) (jk 3 (t10 :: ((V.int .i64 0) :: (jk 105 [])))) s21 (fun e tm s => exX e (fun j1 => (exB (j1 == 0)
 (K (V.bool true) s)
 False)) (K V.junk s))))))))))))))))))
 False))))))))))))))))))
 False))))))))))))))
 False))))))))))))))
 False)))))))))))))
noncomputable def fn27 : V → M := fn27_q fn16 fn58 fn11 fn18 fn29 fn60 fn59
theorem fn27_qe (f16 : M1) (f58 : M2) (f11 : M1) (f18 : M1) (f29 : M1) (f60 : M1) (f59 : M2) (t0 : V) : fn27_q f16 f58 f11 f18 f29 f60 f59 t0 = evF (E27 f16 f58 f11 f18 f29 f60 f59) Tryz.f27 [t0] := by kernel_rfl
theorem fn27_s : SP Tryz.prog 27 (F1 fn27) := mk1 (mkEnv tab (L := L27 fn16 fn58 fn11 fn18 fn29 fn60 fn59) ⟨fn16_s, fn58_s, fn11_s, fn18_s, fn29_s, fn60_s, fn59_s, trivial⟩) Tryz.func27 (by kernel_rfl) (fn27_qe fn16 fn58 fn11 fn18 fn29 fn60 fn59)

/-! 5: sealchain/sealchainlaw15.VoteOpens -/
def L5 (f9 : M) (f20 : M) (f21 : M1) (f22 : M2) (f23 : M2) (f24 : M1) (f25 : M1) (f26 : M1) (f27 : M1) (f15 : M) : List (Nat × (List V → M)) := [(9, F0 f9), (20, F0 f20), (21, F1 f21), (22, F2 f22), (23, F2 f23), (24, F1 f24), (25, F1 f25), (26, F1 f26), (27, F1 f27), (15, F0 f15)]
def E5 (f9 : M) (f20 : M) (f21 : M1) (f22 : M2) (f23 : M2) (f24 : M1) (f25 : M1) (f26 : M1) (f27 : M1) (f15 : M) : Env := ⟨ty, tabC (L5 f9 f20 f21 f22 f23 f24 f25 f26 f27 f15), meth, tabL [(3, [0, 3, 4])], tabL [(3, [3])]⟩
noncomputable def fn5_L1 (f9 : M) (f20 : M) (f21 : M1) (f22 : M2) (f23 : M2) (f24 : M1) (f25 : M1) (f26 : M1) (f27 : M1) (f15 : M) (t0 t3 t4 : V) : AS → KX → Prop := fun s K =>
 (optK (lenV (some (Kd.slice 59)) t0) s fun t13 s => (optK (binV .lss (some (Kd.int .i64)) false t4 t13) s fun t14 s => (grd t14
 (optK (binV .lss (some (Kd.int .i64)) true t4 (V.int .i64 20)) s fun t17 s => (condV t17
 (optK (elemPtr none 1 t0 t4) s fun t24 s => ((ld1 t24) s fun t25 s1 =>
 (optK (elemPtr none 1 t0 t4) s1 fun t28 s1 => ((ld1 t28) s1 fun t29 s2 =>
 (optK (lenV (some (Kd.slice 5)) t29) s2 fun t30 s2 => (optK (foldV min2V t30 [(V.int .i64 100)]) s2 fun t31 s2 => (optK (sliceSl 1 t25 none (some t31) none) s2 fun t32 s2 => ((f21 t32) s2 fun t33 s3 =>
 (optK (extractV t33 0) s3 fun t34 s3 => (optK (extractV t33 1) s3 fun t35 s3 => (optK (nilV t3) s3 fun t37 s3 => (optK (fp 0 t37) s3 fun t38 s3 => ((ld1 t38) s3 fun t39 s3 =>
 ((f22 t39 t34) s3 fun t41 s3 =>
 (optK (nilV t3) s3 fun t43 s3 => (optK (fp 2 t43) s3 fun t44 s3 => ((ld1 t44) s3 fun t45 s3 =>
 ((f23 t45 t34) s3 fun t47 s3 =>
 (optK (binV .add (some (Kd.int .i64)) true t4 (V.int .i64 1)) s3 fun t20 s3 => (K .nrm (t0 :: (V.junk :: (V.junk :: (t3 :: (t20 :: (jk 69 [])))))) s3))))))))))))))))))))
 (K (.exit 0) (jk 3 (t3 :: (jk 70 []))) s)))
 (K (.exit 0) (jk 3 (t3 :: (jk 70 []))) s)
 False)))
noncomputable def fn5_q (f9 : M) (f20 : M) (f21 : M1) (f22 : M2) (f23 : M2) (f24 : M1) (f25 : M1) (f26 : M1) (f27 : M1) (f15 : M) (t0 : V) : M := fun s K =>
 ((f9) s fun t7 s =>
 ((f20) s fun t8 s =>
 (optK (aggO (fillV (placeS [(0, 27), (1, 23), (2, 54), (3, 56)] ty) [(V.ptr none), (V.ptr none), (V.ptr none), (V.ptr none)] [(0, t7), (2, t8)])) s fun t9 s => ((boxV t9) s fun t10 s =>
 (loopN LOOPS (fun tm s K => fn5_L1 f9 f20 f21 f22 f23 f24 f25 f26 f27 f15 (tm.getD 0 .junk) (tm.getD 3 .junk) (tm.getD 4 .junk) s K) (t0 :: (V.junk :: (V.junk :: (t10 :: ((V.int .i64 0) :: (jk 69 [])))))) s (fun e tm s => exX e (fun j1 => (exB (j1 == 0)
 (optK (nilV (tm.getD 3 .junk)) s fun t49 s => (optK (fp 0 t49) s fun t50 s => ((ld1 t50) s fun t51 s =>
 ((f24 t51) s fun t52 s =>
 (optK (nilV (tm.getD 3 .junk)) s fun t54 s => (optK (fp 2 t54) s fun t55 s => ((ld1 t55) s fun t56 s =>
 ((f25 t56) s fun t57 s =>
 ((f26 (tm.getD 3 .junk)) s fun t59 s =>
 (grd t59
 (optK (nilV (tm.getD 3 .junk)) s fun t62 s => (optK (fp 3 t62) s fun t63 s => ((ld1 t63) s fun t64 s =>
 (optK (binV .eql (some (Kd.ptr 108)) true t64 (V.ptr none)) s fun t65 s => (grd t65
 ((f15) s fun t72 s =>
 (K t72 s))
 ((f27 (tm.getD 3 .junk)) s fun t68 s =>
 (grd t68
 ((f15) s fun t72 s =>
 (K t72 s))
 (K (V.bool false) s)
 False))
 False)))))
 (K (V.bool false) s)
 False))))))))))
 False)) (K V.junk s)))))))
noncomputable def fn5 : V → M := fn5_q fn9 fn20 fn21 fn22 fn23 fn24 fn25 fn26 fn27 fn15
theorem fn5_qe (f9 : M) (f20 : M) (f21 : M1) (f22 : M2) (f23 : M2) (f24 : M1) (f25 : M1) (f26 : M1) (f27 : M1) (f15 : M) (t0 : V) : fn5_q f9 f20 f21 f22 f23 f24 f25 f26 f27 f15 t0 = evF (E5 f9 f20 f21 f22 f23 f24 f25 f26 f27 f15) Tryz.f5 [t0] := by kernel_rfl
theorem fn5_s : SP Tryz.prog 5 (F1 fn5) := mk1 (mkEnv tab (L := L5 fn9 fn20 fn21 fn22 fn23 fn24 fn25 fn26 fn27 fn15) ⟨fn9_s, fn20_s, fn21_s, fn22_s, fn23_s, fn24_s, fn25_s, fn26_s, fn27_s, fn15_s, trivial⟩) Tryz.func5 (by kernel_rfl) (fn5_qe fn9 fn20 fn21 fn22 fn23 fn24 fn25 fn26 fn27 fn15)
end Go.Proofs.Vt
