/- A part of the proofs of the Vote laws: functions of the program in the evaluator's form, printed by a program of the prover's, each equation checked by the kernel. -/
import Derived.Test.YtlmjmjpohjdogaaGreatDoorF1
set_option linter.unusedVariables false
set_option linter.unusedSimpArgs false
/- PRINTED by gen.py. -/
set_option maxRecDepth 100000
namespace Go.Proofs.Vt
open Go Go.Rx Go.Proofs
/-! 112: sealchain/pack.whole[sealchain/api.Config] -/
abbrev N_pack_whole_api_Config : FuncId := 112
def L112 (f108 : V → M) (f76 : V → M) (f42 : V → M) : List (Nat × (List V → M)) := [(108, F1 f108), (76, F1 f76), (42, F1 f42)]
def E112 (f108 : V → M) (f76 : V → M) (f42 : V → M) : Env := ⟨ty, tabC (L112 f108 f76 f42), meth, tabL [], tabL []⟩
noncomputable def pack_whole_api_Config_q (f108 : V → M) (f76 : V → M) (f42 : V → M) (t0 t1 t2 : V) : M := fun s K =>
 ((boxV t1) s fun t4 s =>
 ((newC [(V.int .i64 0), (V.int .i64 0), (V.slice none 0 0 true)]) s fun t6 s =>
 ((newC [(V.int .i64 0), (V.int .i64 0), (V.slice none 0 0 true)]) s fun t8 s =>
 ((f108 t0) s fun t11 s =>
 (optK (binV .neq (some (Kd.int .i64)) true t11 (V.int .i64 0)) s fun t12 s => (condV t12
 ((ldA 3 t8) s fun t13 s1 =>
 ((f108 t0) s1 fun t15 s2 =>
 (chkB (holds ti37 t8 s2 t13) ((st 3 t6 t13) s2 fun _ s3 =>
 (rfin (rcons (peek ti37 t6 s3) (rcons (some t15) (some []))) s3 K)))))
 ((f76 t0) s fun t18 s =>
 (optK (binV .neq (some (Kd.int .i64)) true t18 (V.int .i64 0)) s fun t19 s => (condV t19
 (condV t19
 ((ldA 3 t8) s fun t24 s =>
 ((st 3 t6 t24) s fun _ s =>
 (rfin (rcons (peek ti37 t6 s) (rcons (some (V.int .i64 4)) (some []))) s K)))
 ((ldA 3 t4) s fun t25 s =>
 ((st 3 t6 t25) s fun _ s =>
 (rfin (rcons (peek ti37 t6 s) (rcons (some (V.int .i64 0)) (some []))) s K))))
 ((ldA 3 t4) s fun t21 s =>
 ((callV (E112 f108 f76 f42) t2 [t21]) s fun t22 s =>
 (optK (binV .neq (some (Kd.int .i64)) true t22 (V.int .i64 0)) s fun t23 s => (condV t23
 ((ldA 3 t8) s fun t24 s =>
 ((st 3 t6 t24) s fun _ s =>
 (rfin (rcons (peek ti37 t6 s) (rcons (some (V.int .i64 4)) (some []))) s K)))
 ((ldA 3 t4) s fun t25 s =>
 ((st 3 t6 t25) s fun _ s =>
 (rfin (rcons (peek ti37 t6 s) (rcons (some (V.int .i64 0)) (some []))) s K))))))))))))))))
noncomputable def pack_whole_api_Config : V → V → V → M := pack_whole_api_Config_q num_Reader_Err num_Reader_End pack_CheckConf
theorem pack_whole_api_Config_qe (f108 : V → M) (f76 : V → M) (f42 : V → M) (t0 t1 t2 : V) : pack_whole_api_Config_q f108 f76 f42 t0 t1 t2 = evF (E112 f108 f76 f42) Tryz.f112 [t0, t1, t2] := by kernel_rfl
theorem pack_whole_api_Config_s : SP Tryz.prog 112 (F3 pack_whole_api_Config) := mk3 (mkEnv tab (L := L112 num_Reader_Err num_Reader_End pack_CheckConf) ⟨num_Reader_Err_s, num_Reader_End_s, pack_CheckConf_s, trivial⟩) Tryz.func112 (by kernel_rfl) (pack_whole_api_Config_qe num_Reader_Err num_Reader_End pack_CheckConf)

/-! 74: sealchain/pack.ParseConf -/
abbrev N_pack_ParseConf : FuncId := 74
def L74 (f71 : V → M) (f73 : V → V → M) (f72 : V → V → M) (f112 : V → V → V → M) (f42 : V → M) : List (Nat × (List V → M)) := [(71, F1 f71), (73, F2 f73), (72, F2 f72), (112, F3 f112), (42, F1 f42)]
def E74 (f71 : V → M) (f73 : V → V → M) (f72 : V → V → M) (f112 : V → V → V → M) (f42 : V → M) : Env := ⟨ty, tabC (L74 f71 f73 f72 f112 f42), meth, tabL [(4, [2, 4, 5, 15, 16])], tabL [(4, [2, 4, 5])]⟩
noncomputable def pack_ParseConf_L1 (f71 : V → M) (f73 : V → V → M) (f72 : V → V → M) (f112 : V → V → V → M) (f42 : V → M) (t2 t4 t5 t15 t16 : V) : AS → KX → Prop := fun s K =>
 (optK (binV .lss (some (Kd.int .i64)) false t16 t15) s fun t17 s => (condV t17
 (optK (fp 2 t5) s fun t18 s => ((ld1 t18) s fun t19 s1 =>
 ((f72 t4 (V.int .i64 1)) s1 fun t21 s2 =>
 (chkB (holds ti35 t18 s2 t19) ((bsl 1 [(V.int .i64 0)] 1 [(0, t21)]) s2 fun t22 s3 =>
 (chkB (holds ti35 t18 s3 t19) ((app 1 8 t19 t22) s3 fun t23 s4 =>
 (optK (fp 2 t5) s4 fun t24 s4 => ((st 1 t24 t23) s4 fun _ s5 =>
 (optK (binV .add (some (Kd.int .i64)) true t16 (V.int .i64 1)) s5 fun t25 s5 => (K .nrm [V.junk, V.junk, t2, V.junk, t4, t5, V.junk, V.junk, V.junk, V.junk, V.junk, V.junk, V.junk, V.junk, V.junk, t15, t25, V.junk, V.junk, V.junk, V.junk, V.junk, V.junk, V.junk, V.junk, V.junk, V.junk, V.junk, V.junk, V.junk, V.junk] s5)))))))))))
 (K (.exit 0) [V.junk, V.junk, t2, V.junk, t4, t5, V.junk, V.junk, V.junk, V.junk, V.junk, V.junk, V.junk, V.junk, V.junk, V.junk, V.junk, V.junk, V.junk, V.junk, V.junk, V.junk, V.junk, V.junk, V.junk, V.junk, V.junk, V.junk, V.junk, V.junk, V.junk] s)))
noncomputable def pack_ParseConf_q (f71 : V → M) (f73 : V → V → M) (f72 : V → V → M) (f112 : V → V → V → M) (f42 : V → M) (t0 : V) : M := fun s K =>
 ((newC [(V.int .i64 0), (V.int .i64 0), (V.slice none 0 0 true)]) s fun t2 s =>
 ((f71 t0) s fun t7 s =>
 ((f73 t7 (V.int .i64 9007199254740991)) s fun t9 s =>
 ((f72 t7 (V.int .i64 1)) s fun t11 s =>
 (optK (aggO (fillV (placeS [(0, 3), (1, 3), (2, 35)] ty) [(V.int .i64 0), (V.int .i64 0), (V.slice none 0 0 true)] [(0, t9), (1, t11)])) s fun t12 s => ((newC [(V.int .i64 0), (V.int .i64 0), (V.slice none 0 0 true)]) s fun t5 s =>
 ((st 3 t5 t12) s fun _ s =>
 ((f72 t7 (V.int .i64 1)) s fun t14 s =>
 (optK (foldV min2V t14 [(V.int .i64 5)]) s fun t15 s => (loopN LOOPS (fun tm s K => pack_ParseConf_L1 f71 f73 f72 f112 f42 (tm.getD 2 .junk) (tm.getD 4 .junk) (tm.getD 5 .junk) (tm.getD 15 .junk) (tm.getD 16 .junk) s K) [V.junk, V.junk, t2, V.junk, t7, t5, V.junk, V.junk, V.junk, V.junk, V.junk, V.junk, V.junk, V.junk, V.junk, t15, (V.int .i64 0), V.junk, V.junk, V.junk, V.junk, V.junk, V.junk, V.junk, V.junk, V.junk, V.junk, V.junk, V.junk, V.junk, V.junk] s (fun e tm s => exX e (fun j1 => (exB (j1 == 0)
 ((ldA 3 (tm.getD 5 .junk)) s fun t27 s =>
 ((f112 (tm.getD 4 .junk) t27 (V.func (.func 42) [] [])) s fun t28 s =>
 (optK (extractV t28 0) s fun t29 s => (optK (extractV t28 1) s fun t30 s => ((st 3 (tm.getD 2 .junk) t29) s fun _ s =>
 (rfin (rcons (peek ti37 (tm.getD 2 .junk) s) (rcons (some t30) (some []))) s K))))))
 False)) (rfin (rcons (peek ti37 (tm.getD 2 .junk) s) (rcons (some V.junk) (some []))) s K))))))))))))
noncomputable def pack_ParseConf : V → M := pack_ParseConf_q num_Read num_Reader_Count num_Reader_Num pack_whole_api_Config pack_CheckConf
theorem pack_ParseConf_qe (f71 : V → M) (f73 : V → V → M) (f72 : V → V → M) (f112 : V → V → V → M) (f42 : V → M) (t0 : V) : pack_ParseConf_q f71 f73 f72 f112 f42 t0 = evF (E74 f71 f73 f72 f112 f42) Tryz.f74 [t0] := by kernel_rfl
theorem pack_ParseConf_s : SP Tryz.prog 74 (F1 pack_ParseConf) := mk1 (mkEnv tab (L := L74 num_Read num_Reader_Count num_Reader_Num pack_whole_api_Config pack_CheckConf) ⟨num_Read_s, num_Reader_Count_s, num_Reader_Num_s, pack_whole_api_Config_s, pack_CheckConf_s, trivial⟩) Tryz.func74 (by kernel_rfl) (pack_ParseConf_qe num_Read num_Reader_Count num_Reader_Num pack_whole_api_Config pack_CheckConf)

/-! 37: sealchain/vote.read -/
abbrev N_vote_read : FuncId := 37
def L37 (f71 : V → M) (f72 : V → V → M) (f73 : V → V → M) (f75 : V → V → M) (f74 : V → M) (f76 : V → M) : List (Nat × (List V → M)) := [(71, F1 f71), (72, F2 f72), (73, F2 f73), (75, F2 f75), (74, F1 f74), (76, F1 f76)]
def E37 (f71 : V → M) (f72 : V → V → M) (f73 : V → V → M) (f75 : V → V → M) (f74 : V → M) (f76 : V → M) : Env := ⟨ty, tabC (L37 f71 f72 f73 f75 f74 f76), meth, tabL [], tabL []⟩
noncomputable def vote_read_q (f71 : V → M) (f72 : V → V → M) (f73 : V → V → M) (f75 : V → V → M) (f74 : V → M) (f76 : V → M) (t0 : V) : M := fun s K =>
 ((f71 t0) s fun t10 s =>
 ((f72 t10 (V.int .i64 1)) s fun t12 s =>
 ((f73 t10 (V.int .i64 9007199254740991)) s fun t14 s =>
 (optK (binV .eql (some (Kd.int .i64)) true t12 (V.int .i64 1)) s fun t17 s => (condV t17
 ((f76 t10) s fun t39 s =>
 (optK (binV .neq (some (Kd.int .i64)) true t39 (V.int .i64 0)) s fun t40 s => (grd t40
 (K V.nilIface s)
 (optK (binV .lss (some (Kd.int .i64)) true t14 (V.int .i64 1)) s fun t43 s => (condV t43
 (K V.nilIface s)
 (K (V.iface 93 t14) s)))
 False)))
 (optK (binV .eql (some (Kd.int .i64)) true t12 (V.int .i64 3)) s fun t21 s => (condV t21
 ((f76 t10) s fun t39 s =>
 (optK (binV .neq (some (Kd.int .i64)) true t39 (V.int .i64 0)) s fun t40 s => (grd t40
 (K V.nilIface s)
 (optK (binV .lss (some (Kd.int .i64)) true t14 (V.int .i64 1)) s fun t43 s => (condV t43
 (K V.nilIface s)
 (K (V.iface 96 t14) s)))
 False)))
 (optK (binV .eql (some (Kd.int .i64)) true t12 (V.int .i64 2)) s fun t25 s => (condV t25
 ((f75 t10 (V.int .i64 2048)) s fun t28 s =>
 ((f74 t28) s fun t29 s =>
 (optK (extractV t29 0) s fun t30 s => (optK (extractV t29 1) s fun t31 s => ((newC [(V.int .i64 0), (V.int .i64 0), (V.slice none 0 0 true)]) s fun t7 s =>
 ((st 3 t7 t30) s fun _ s =>
 (optK (binV .neq (some (Kd.int .i64)) true t31 (V.int .i64 0)) s fun t33 s => (condV t33
 (K V.nilIface s)
 ((ldA 3 t7) s fun t35 s =>
 (optK (aggO (fillV (placeS [(0, 3), (1, 37)] ty) [(V.int .i64 0), (V.int .i64 0), (V.int .i64 0), (V.slice none 0 0 true)] [(0, t14), (1, t35)])) s fun t36 s => ((f76 t10) s fun t39 s =>
 (optK (binV .neq (some (Kd.int .i64)) true t39 (V.int .i64 0)) s fun t40 s => (grd t40
 (K V.nilIface s)
 (optK (binV .lss (some (Kd.int .i64)) true t14 (V.int .i64 1)) s fun t43 s => (condV t43
 (K V.nilIface s)
 (K (V.iface 92 t36) s)))
 False)))))))))))))
 ((f76 t10) s fun t39 s =>
 (optK (binV .neq (some (Kd.int .i64)) true t39 (V.int .i64 0)) s fun t40 s => (grd t40
 (K V.nilIface s)
 (optK (binV .lss (some (Kd.int .i64)) true t14 (V.int .i64 1)) s fun t43 s => (condV t43
 (K V.nilIface s)
 (K V.nilIface s)))
 False))))))))))))
noncomputable def vote_read : V → M := vote_read_q num_Read num_Reader_Num num_Reader_Count num_Reader_Text pack_ParseConf num_Reader_End
theorem vote_read_qe (f71 : V → M) (f72 : V → V → M) (f73 : V → V → M) (f75 : V → V → M) (f74 : V → M) (f76 : V → M) (t0 : V) : vote_read_q f71 f72 f73 f75 f74 f76 t0 = evF (E37 f71 f72 f73 f75 f74 f76) Tryz.f37 [t0] := by kernel_rfl
theorem vote_read_s : SP Tryz.prog 37 (F1 vote_read) := mk1 (mkEnv tab (L := L37 num_Read num_Reader_Num num_Reader_Count num_Reader_Text pack_ParseConf num_Reader_End) ⟨num_Read_s, num_Reader_Num_s, num_Reader_Count_s, num_Reader_Text_s, pack_ParseConf_s, num_Reader_End_s, trivial⟩) Tryz.func37 (by kernel_rfl) (vote_read_qe num_Read num_Reader_Num num_Reader_Count num_Reader_Text pack_ParseConf num_Reader_End)

/-! 70: (*sealchain/vote.Voter).does$1 -/
abbrev N_vote_Voter_does_1 : FuncId := 70
def L70 : List (Nat × (List V → M)) := []
def E70 : Env := ⟨ty, tabC (L70), meth, tabL [], tabL []⟩
noncomputable def vote_Voter_does_1_q (t0 t1 t2 : V) : M := fun s K =>
 ((boxV t1) s fun t4 s =>
 ((ld1 t2) s fun t7 s =>
 (optK (nilV t7) s fun t8 s => (optK (fp 2 t8) s fun t9 s => ((ld1 t9) s fun t10 s =>
 (optK (binV .lss (some (Kd.int .i64)) false t0 t10) s fun t11 s => (K t11 s)))))))
noncomputable def vote_Voter_does_1 : V → V → V → M := vote_Voter_does_1_q
theorem vote_Voter_does_1_qe (t0 t1 t2 : V) : vote_Voter_does_1_q t0 t1 t2 = evF (E70) Tryz.f70 [t0, t1, t2] := by kernel_rfl
theorem vote_Voter_does_1_s : SP Tryz.prog 70 (F3 vote_Voter_does_1) := mk3 (mkEnv tab (L := L70) trivial) Tryz.func70 (by kernel_rfl) (vote_Voter_does_1_qe)

/-! 69: maps.DeleteFunc[map[int]sealchain/api.Vote,int,sealchain/api.Vote] -/
abbrev N_maps_DeleteFunc_mapIapi_Vote_int_api_Vote : FuncId := 69
def L69 (f70 : V → V → V → M) : List (Nat × (List V → M)) := [(70, F3 f70)]
def E69 (f70 : V → V → V → M) : Env := ⟨ty, tabC (L69 f70), meth, tabL [(1, [0, 1, 7])], tabL [(1, [])]⟩
noncomputable def maps_DeleteFunc_mapIapi_Vote_int_api_Vote_L1 (f70 : V → V → V → M) (t0 t1 t7 : V) : AS → KX → Prop := fun s K =>
 ((nextM t7) s fun t8 s =>
 (optK (extractV t8 0) s fun t9 s => (condV t9
 ((entryM t7) s fun t10 s =>
 (optK (extractV t10 0) s fun t11 s => (optK (extractV t10 1) s fun t12 s => ((newC [(V.int .i64 0), (V.int .i64 0), (V.int .i64 0), (V.slice none 0 0 true)]) s fun t5 s =>
 ((st 4 t5 t12) s fun _ s =>
 ((ldA 4 t5) s fun t15 s =>
 ((callV (E69 f70) t1 [t11, t15]) s fun t16 s =>
 (condV t16
 ((mapDel (Kd.int .i64) t0 t11) s fun _ s =>
 (K .nrm [t0, t1, V.junk, V.junk, V.junk, V.junk, V.junk, t7, V.junk, V.junk, V.junk, V.junk, V.junk, V.junk, V.junk, V.junk, V.junk, V.junk, V.junk] s))
 (K .nrm [t0, t1, V.junk, V.junk, V.junk, V.junk, V.junk, t7, V.junk, V.junk, V.junk, V.junk, V.junk, V.junk, V.junk, V.junk, V.junk, V.junk, V.junk] s)))))))))
 (K (.exit 0) [V.junk, V.junk, V.junk, V.junk, V.junk, V.junk, V.junk, V.junk, V.junk, V.junk, V.junk, V.junk, V.junk, V.junk, V.junk, V.junk, V.junk, V.junk, V.junk] s))))
noncomputable def maps_DeleteFunc_mapIapi_Vote_int_api_Vote_q (f70 : V → V → V → M) (t0 t1 : V) : M := fun s K =>
 ((rangeM t0) s fun t7 s =>
 (loopN LOOPS (fun tm s K => maps_DeleteFunc_mapIapi_Vote_int_api_Vote_L1 f70 (tm.getD 0 .junk) (tm.getD 1 .junk) (tm.getD 7 .junk) s K) [t0, t1, V.junk, V.junk, V.junk, V.junk, V.junk, t7, V.junk, V.junk, V.junk, V.junk, V.junk, V.junk, V.junk, V.junk, V.junk, V.junk, V.junk] s (fun e tm s => exX e (fun j1 => (exB (j1 == 0)
 (K (V.tuple []) s)
 False)) (K (V.tuple []) s))))
noncomputable def maps_DeleteFunc_mapIapi_Vote_int_api_Vote : V → V → M := maps_DeleteFunc_mapIapi_Vote_int_api_Vote_q vote_Voter_does_1
theorem maps_DeleteFunc_mapIapi_Vote_int_api_Vote_qe (f70 : V → V → V → M) (t0 t1 : V) : maps_DeleteFunc_mapIapi_Vote_int_api_Vote_q f70 t0 t1 = evF (E69 f70) Tryz.f69 [t0, t1] := by kernel_rfl
theorem maps_DeleteFunc_mapIapi_Vote_int_api_Vote_s : SP Tryz.prog 69 (F2 maps_DeleteFunc_mapIapi_Vote_int_api_Vote) := mk2 (mkEnv tab (L := L69 vote_Voter_does_1) ⟨vote_Voter_does_1_s, trivial⟩) Tryz.func69 (by kernel_rfl) (maps_DeleteFunc_mapIapi_Vote_int_api_Vote_qe vote_Voter_does_1)

/-! 43: (*sealchain/vote.Voter).room -/
abbrev N_vote_Voter_room : FuncId := 43
def L43 : List (Nat × (List V → M)) := []
def E43 : Env := ⟨ty, tabC (L43), meth, tabL [], tabL []⟩
noncomputable def vote_Voter_room_q (t0 t1 : V) : M := fun s K =>
 (optK (nilV t0) s fun t9 s => (optK (fp 3 t9) s fun t10 s => ((ld1 t10) s fun t11 s =>
 ((lookV (Kd.int .i64) (V.agg [(V.int .i64 0), (V.int .i64 0), (V.int .i64 0), (V.slice none 0 0 true)]) true t11 t1) s fun t13 s =>
 (optK (extractV t13 0) s fun t14 s => (optK (extractV t13 1) s fun t15 s => ((newC [(V.int .i64 0), (V.int .i64 0), (V.int .i64 0), (V.slice none 0 0 true)]) s fun t5 s =>
 ((st 4 t5 t14) s fun _ s =>
 (grd t15
 (K (V.bool true) s)
 (optK (nilV t0) s fun t19 s => (optK (fp 3 t19) s fun t20 s => ((ld1 t20) s fun t21 s =>
 ((lenM t21) s fun t22 s =>
 (optK (binV .lss (some (Kd.int .i64)) true t22 (V.int .i64 8)) s fun t23 s => (K t23 s))))))
 False)))))))))
noncomputable def vote_Voter_room : V → V → M := vote_Voter_room_q
theorem vote_Voter_room_qe (t0 t1 : V) : vote_Voter_room_q t0 t1 = evF (E43) Tryz.f43 [t0, t1] := by kernel_rfl
theorem vote_Voter_room_s : SP Tryz.prog 43 (F2 vote_Voter_room) := mk2 (mkEnv tab (L := L43) trivial) Tryz.func43 (by kernel_rfl) (vote_Voter_room_qe)

/-! 36: (*sealchain/vote.Voter).does -/
abbrev N_vote_Voter_does : FuncId := 36
def L36 (f70 : V → V → V → M) (f69 : V → V → M) (f43 : V → V → M) : List (Nat × (List V → M)) := [(70, F3 f70), (69, F2 f69), (43, F2 f43)]
def E36 (f70 : V → V → V → M) (f69 : V → V → M) (f43 : V → V → M) : Env := ⟨ty, tabC (L36 f70 f69 f43), meth, tabL [], tabL []⟩
noncomputable def vote_Voter_does_q (f70 : V → V → V → M) (f69 : V → V → M) (f43 : V → V → M) (t0 t1 : V) : M := fun s K =>
 ((boxV t0) s fun t2 s =>
 (optK (assertV (some (Kd.int .i64)) 93 (V.int .i64 0) true t1) s fun t10 s => (optK (extractV t10 1) s fun t11 s => (optK (extractV t10 0) s fun t12 s => (condV t11
 ((ld1 t2) s fun t13 s1 =>
 ((ld1 t2) s1 fun t14 s2 =>
 (optK (nilV t14) s2 fun t15 s2 => (optK (fp 1 t15) s2 fun t16 s2 => ((ld1 t16) s2 fun t17 s3 =>
 (optK (foldV max2V t17 [t12]) s3 fun t19 s3 => (optK (nilV t13) s3 fun t20 s3 => (optK (fp 1 t20) s3 fun t21 s3 => ((st 1 t21 t19) s3 fun _ s4 =>
 (K (V.bool true) s4))))))))))
 (optK (assertV (some (Kd.int .i64)) 96 (V.int .i64 0) true t1) s fun t22 s => (optK (extractV t22 1) s fun t23 s => (optK (extractV t22 0) s fun t24 s => (condV t23
 ((ld1 t2) s fun t25 s5 =>
 ((ld1 t2) s5 fun t26 s6 =>
 (optK (nilV t26) s6 fun t27 s6 => (optK (fp 2 t27) s6 fun t28 s6 => ((ld1 t28) s6 fun t29 s7 =>
 (optK (foldV max2V t29 [t24]) s7 fun t31 s7 => (optK (nilV t25) s7 fun t32 s7 => (optK (fp 2 t32) s7 fun t33 s7 => ((st 1 t33 t31) s7 fun _ s8 =>
 ((ld1 t2) s8 fun t34 s8 =>
 (optK (nilV t34) s8 fun t35 s8 => (optK (fp 3 t35) s8 fun t36 s8 => ((ld1 t36) s8 fun t37 s8 =>
 ((f69 t37 (V.func (.func 70) [] [t2])) s8 fun t39 s8 =>
 (K (V.bool true) s8)))))))))))))))
 (optK (assertV (some (Kd.struct [(0, 3), (1, 37)])) 92 (V.agg [(V.int .i64 0), (V.int .i64 0), (V.int .i64 0), (V.slice none 0 0 true)]) true t1) s fun t40 s => (optK (extractV t40 1) s fun t41 s => (optK (extractV t40 0) s fun t42 s => (condV t41
 ((newC [(V.int .i64 0), (V.int .i64 0), (V.int .i64 0), (V.slice none 0 0 true)]) s fun t7 s =>
 ((st 4 t7 t42) s fun _ s =>
 (optK (fp 1 t7) s fun t43 s => (optK (fp 0 t43) s fun t44 s => ((ld1 t44) s fun t45 s9 =>
 ((ld1 t2) s9 fun t46 s10 =>
 (optK (nilV t46) s10 fun t47 s10 => (optK (fp 2 t47) s10 fun t48 s10 => ((ld1 t48) s10 fun t49 s11 =>
 (optK (binV .lss (some (Kd.int .i64)) false t45 t49) s11 fun t50 s11 => (grd t50
 (K (V.bool false) s11)
 ((ld1 t2) s11 fun t52 s12 =>
 (optK (fp 1 t7) s12 fun t53 s12 => (optK (fp 0 t53) s12 fun t54 s12 => ((ld1 t54) s12 fun t55 s13 =>
 ((f43 t52 t55) s13 fun t56 s14 =>
 (optK (unV .not t56) s14 fun t57 s14 => (condV t57
 (K (V.bool false) s14)
 ((ld1 t2) s14 fun t59 s15 =>
 ((ld1 t2) s15 fun t60 s16 =>
 (optK (nilV t60) s16 fun t61 s16 => (optK (fp 1 t61) s16 fun t62 s16 => ((ld1 t62) s16 fun t63 s17 =>
 (optK (fp 0 t7) s17 fun t64 s17 => ((ld1 t64) s17 fun t65 s18 =>
 (optK (foldV max2V t63 [t65]) s18 fun t66 s18 => (optK (nilV t59) s18 fun t67 s18 => (optK (fp 1 t67) s18 fun t68 s18 => ((st 1 t68 t66) s18 fun _ s19 =>
 ((ld1 t2) s19 fun t69 s20 =>
 (optK (nilV t69) s20 fun t70 s20 => (optK (fp 3 t70) s20 fun t71 s20 => ((ld1 t71) s20 fun t72 s21 =>
 (optK (fp 1 t7) s21 fun t73 s21 => (optK (fp 0 t73) s21 fun t74 s21 => ((ld1 t74) s21 fun t75 s22 =>
 ((ldA 4 t7) s22 fun t76 s23 =>
 ((mapSet (Kd.int .i64) t72 t75 t76) s23 fun _ s24 =>
 (K (V.bool true) s24))))))))))))))))))))))))))))
 False)))))))))))
 (K (V.bool false) s))))))))))))))
noncomputable def vote_Voter_does : V → V → M := vote_Voter_does_q vote_Voter_does_1 maps_DeleteFunc_mapIapi_Vote_int_api_Vote vote_Voter_room
theorem vote_Voter_does_qe (f70 : V → V → V → M) (f69 : V → V → M) (f43 : V → V → M) (t0 t1 : V) : vote_Voter_does_q f70 f69 f43 t0 t1 = evF (E36 f70 f69 f43) Tryz.f36 [t0, t1] := by kernel_rfl
theorem vote_Voter_does_s : SP Tryz.prog 36 (F2 vote_Voter_does) := mk2 (mkEnv tab (L := L36 vote_Voter_does_1 maps_DeleteFunc_mapIapi_Vote_int_api_Vote vote_Voter_room) ⟨vote_Voter_does_1_s, maps_DeleteFunc_mapIapi_Vote_int_api_Vote_s, vote_Voter_room_s, trivial⟩) Tryz.func36 (by kernel_rfl) (vote_Voter_does_qe vote_Voter_does_1 maps_DeleteFunc_mapIapi_Vote_int_api_Vote vote_Voter_room)

/-! 8: sealchain/vote.Open -/
abbrev N_vote_Open : FuncId := 8
def L8 (f34 : V → M) (f35 : V → M) (f37 : V → M) (f36 : V → V → M) : List (Nat × (List V → M)) := [(34, F1 f34), (35, F1 f35), (37, F1 f37), (36, F2 f36)]
def E8 (f34 : V → M) (f35 : V → M) (f37 : V → M) (f36 : V → V → M) : Env := ⟨ty, tabC (L8 f34 f35 f37 f36), meth, tabL [(6, [6, 22, 23, 24])], tabL [(6, [2, 3, 6])]⟩
noncomputable def vote_Open_L1 (f34 : V → M) (f35 : V → M) (f37 : V → M) (f36 : V → V → M) (t6 t22 t23 t24 : V) : AS → KX → Prop := fun s K =>
 (optK (binV .lss (some (Kd.int .i64)) false t24 t23) s fun t25 s => (condV t25
 (optK (elemPtr none 1 t22 t24) s fun t26 s => ((ld1 t26) s fun t27 s =>
 ((f37 t27) s fun t30 s =>
 ((f36 t6 t30) s fun t31 s =>
 (optK (unV .not t31) s fun t32 s => (condV t32
 (K .ret [V.junk, V.junk, (V.ptr none), (V.int .i64 140), V.junk, V.junk, t6, V.junk, V.junk, V.junk, V.junk, V.junk, V.junk, V.junk, V.junk, V.junk, V.junk, V.junk, V.junk, V.junk, V.junk, V.junk, V.junk, V.junk, V.junk, V.junk, V.junk, V.junk, V.junk, V.junk, V.junk, V.junk, V.junk, V.junk, V.junk] s)
 (optK (binV .add (some (Kd.int .i64)) true t24 (V.int .i64 1)) s fun t33 s => (K .nrm [V.junk, V.junk, V.junk, V.junk, V.junk, V.junk, t6, V.junk, V.junk, V.junk, V.junk, V.junk, V.junk, V.junk, V.junk, V.junk, V.junk, V.junk, V.junk, V.junk, V.junk, V.junk, t22, t23, t33, V.junk, V.junk, V.junk, V.junk, V.junk, V.junk, V.junk, V.junk, V.junk, V.junk] s))))))))
 (K (.exit 0) [V.junk, V.junk, V.junk, V.junk, V.junk, V.junk, t6, V.junk, V.junk, V.junk, V.junk, V.junk, V.junk, V.junk, V.junk, V.junk, V.junk, V.junk, V.junk, V.junk, V.junk, V.junk, V.junk, V.junk, V.junk, V.junk, V.junk, V.junk, V.junk, V.junk, V.junk, V.junk, V.junk, V.junk, V.junk] s)))
noncomputable def vote_Open_q (f34 : V → M) (f35 : V → M) (f37 : V → M) (f36 : V → V → M) (t0 : V) : M := fun s K =>
 ((f34 t0) s fun t11 s =>
 (optK (extractV t11 0) s fun t12 s => (optK (extractV t11 1) s fun t13 s => (optK (binV .neq (some (Kd.int .i64)) true t13 (V.int .i64 0)) s fun t15 s => (condV t15
 (K (V.tuple [(V.ptr none), t13]) s)
 (mkMap s fun t18 s =>
 (optK (aggO (fillV (placeS [(0, 66), (1, 3), (2, 3), (3, 67)] ty) [(V.ptr none), (V.int .i64 0), (V.int .i64 0), (V.map none)] [(0, t12), (3, t18)])) s fun t19 s => ((boxV t19) s fun t20 s =>
 ((f35 t12) s fun t22 s =>
 (optK (lenV (some (Kd.slice 59)) t22) s fun t23 s => (loopN LOOPS (fun tm s K => vote_Open_L1 f34 f35 f37 f36 (tm.getD 6 .junk) (tm.getD 22 .junk) (tm.getD 23 .junk) (tm.getD 24 .junk) s K) [V.junk, V.junk, V.junk, V.junk, V.junk, V.junk, t20, V.junk, V.junk, V.junk, V.junk, V.junk, V.junk, V.junk, V.junk, V.junk, V.junk, V.junk, V.junk, V.junk, V.junk, V.junk, t22, t23, (V.int .i64 0), V.junk, V.junk, V.junk, V.junk, V.junk, V.junk, V.junk, V.junk, V.junk, V.junk] s (fun e tm s => exX e (fun j1 => (exB (j1 == 0)
 (K (V.tuple [(tm.getD 6 .junk), (V.int .i64 0)]) s)
 False)) (K (V.tuple [(tm.getD 2 .junk), (tm.getD 3 .junk)]) s)))))))))))))
noncomputable def vote_Open : V → M := vote_Open_q wal_Open wal_Log_Rows vote_read vote_Voter_does
theorem vote_Open_qe (f34 : V → M) (f35 : V → M) (f37 : V → M) (f36 : V → V → M) (t0 : V) : vote_Open_q f34 f35 f37 f36 t0 = evF (E8 f34 f35 f37 f36) Tryz.f8 [t0] := by kernel_rfl
theorem vote_Open_s : SP Tryz.prog 8 (F1 vote_Open) := mk1 (mkEnv tab (L := L8 wal_Open wal_Log_Rows vote_read vote_Voter_does) ⟨wal_Open_s, wal_Log_Rows_s, vote_read_s, vote_Voter_does_s, trivial⟩) Tryz.func8 (by kernel_rfl) (vote_Open_qe wal_Open wal_Log_Rows vote_read vote_Voter_does)

/-! 39: (*sealchain/vote.Voter).none -/
abbrev N_vote_Voter_none : FuncId := 39
def L39 : List (Nat × (List V → M)) := []
def E39 : Env := ⟨ty, tabC (L39), meth, tabL [], tabL []⟩
noncomputable def vote_Voter_none_q (t0 : V) : M := fun s K =>
 (optK (binV .eql (some (Kd.ptr 69)) true t0 (V.ptr none)) s fun t4 s => (grd t4
 (K (V.bool true) s)
 (optK (nilV t0) s fun t7 s => (optK (fp 0 t7) s fun t8 s => ((ld1 t8) s fun t9 s =>
 (optK (binV .eql (some (Kd.ptr 116)) true t9 (V.ptr none)) s fun t10 s => (K t10 s)))))
 False))
noncomputable def vote_Voter_none : V → M := vote_Voter_none_q
theorem vote_Voter_none_qe (t0 : V) : vote_Voter_none_q t0 = evF (E39) Tryz.f39 [t0] := by kernel_rfl
theorem vote_Voter_none_s : SP Tryz.prog 39 (F1 vote_Voter_none) := mk1 (mkEnv tab (L := L39) trivial) Tryz.func39 (by kernel_rfl) (vote_Voter_none_qe)

/-! 63: (*sealchain/wal.Log).Dead -/
abbrev N_wal_Log_Dead : FuncId := 63
def L63 (f67 : V → M) : List (Nat × (List V → M)) := [(67, F1 f67)]
def E63 (f67 : V → M) : Env := ⟨ty, tabC (L63 f67), meth, tabL [], tabL []⟩
noncomputable def wal_Log_Dead_q (f67 : V → M) (t0 : V) : M := fun s K =>
 ((f67 t0) s fun t4 s =>
 (optK (unV .not t4) s fun t5 s => (grd t5
 (optK (nilV t0) s fun t8 s => (optK (fp 2 t8) s fun t9 s => ((ld1 t9) s fun t10 s =>
 (K t10 s))))
 (K (V.bool false) s)
 False)))
noncomputable def wal_Log_Dead : V → M := wal_Log_Dead_q wal_Log_none
theorem wal_Log_Dead_qe (f67 : V → M) (t0 : V) : wal_Log_Dead_q f67 t0 = evF (E63 f67) Tryz.f63 [t0] := by kernel_rfl
theorem wal_Log_Dead_s : SP Tryz.prog 63 (F1 wal_Log_Dead) := mk1 (mkEnv tab (L := L63 wal_Log_none) ⟨wal_Log_none_s, trivial⟩) Tryz.func63 (by kernel_rfl) (wal_Log_Dead_qe wal_Log_none)

/-! 40: (*sealchain/vote.Voter).live -/
abbrev N_vote_Voter_live : FuncId := 40
def L40 (f39 : V → M) (f63 : V → M) : List (Nat × (List V → M)) := [(39, F1 f39), (63, F1 f63)]
def E40 (f39 : V → M) (f63 : V → M) : Env := ⟨ty, tabC (L40 f39 f63), meth, tabL [], tabL []⟩
noncomputable def vote_Voter_live_q (f39 : V → M) (f63 : V → M) (t0 : V) : M := fun s K =>
 ((f39 t0) s fun t5 s =>
 (condV t5
 (K (V.int .i64 1) s)
 (optK (nilV t0) s fun t8 s => (optK (fp 0 t8) s fun t9 s => ((ld1 t9) s fun t10 s =>
 ((f63 t10) s fun t11 s =>
 (condV t11
 (K (V.int .i64 130) s)
 (K (V.int .i64 0) s))))))))
noncomputable def vote_Voter_live : V → M := vote_Voter_live_q vote_Voter_none wal_Log_Dead
theorem vote_Voter_live_qe (f39 : V → M) (f63 : V → M) (t0 : V) : vote_Voter_live_q f39 f63 t0 = evF (E40 f39 f63) Tryz.f40 [t0] := by kernel_rfl
theorem vote_Voter_live_s : SP Tryz.prog 40 (F1 vote_Voter_live) := mk1 (mkEnv tab (L := L40 vote_Voter_none wal_Log_Dead) ⟨vote_Voter_none_s, wal_Log_Dead_s, trivial⟩) Tryz.func40 (by kernel_rfl) (vote_Voter_live_qe vote_Voter_none wal_Log_Dead)

/-! 41: sealchain/vote.number -/
abbrev N_vote_number : FuncId := 41
def L41 : List (Nat × (List V → M)) := []
def E41 : Env := ⟨ty, tabC (L41), meth, tabL [], tabL []⟩
noncomputable def vote_number_q (t0 : V) : M := fun s K =>
 (optK (binV .geq (some (Kd.int .i64)) true t0 (V.int .i64 1)) s fun t4 s => (grd t4
 (optK (binV .leq (some (Kd.int .i64)) true t0 (V.int .i64 9007199254740991)) s fun t7 s => (K t7 s))
 (K (V.bool false) s)
 False))
noncomputable def vote_number : V → M := vote_number_q
theorem vote_number_qe (t0 : V) : vote_number_q t0 = evF (E41) Tryz.f41 [t0] := by kernel_rfl
theorem vote_number_s : SP Tryz.prog 41 (F1 vote_number) := mk1 (mkEnv tab (L := L41) trivial) Tryz.func41 (by kernel_rfl) (vote_number_qe)

/-! 95: (*sealchain/wal.Log).live -/
abbrev N_wal_Log_live : FuncId := 95
def L95 (f67 : V → M) : List (Nat × (List V → M)) := [(67, F1 f67)]
def E95 (f67 : V → M) : Env := ⟨ty, tabC (L95 f67), meth, tabL [], tabL []⟩
noncomputable def wal_Log_live_q (f67 : V → M) (t0 : V) : M := fun s K =>
 ((f67 t0) s fun t5 s =>
 (condV t5
 (K (V.int .i64 1) s)
 (optK (nilV t0) s fun t8 s => (optK (fp 2 t8) s fun t9 s => ((ld1 t9) s fun t10 s =>
 (condV t10
 (K (V.int .i64 130) s)
 (K (V.int .i64 0) s)))))))
noncomputable def wal_Log_live : V → M := wal_Log_live_q wal_Log_none
theorem wal_Log_live_qe (f67 : V → M) (t0 : V) : wal_Log_live_q f67 t0 = evF (E95 f67) Tryz.f95 [t0] := by kernel_rfl
theorem wal_Log_live_s : SP Tryz.prog 95 (F1 wal_Log_live) := mk1 (mkEnv tab (L := L95 wal_Log_none) ⟨wal_Log_none_s, trivial⟩) Tryz.func95 (by kernel_rfl) (wal_Log_live_qe wal_Log_none)

/-! 90: sealchain/num.Write -/
abbrev N_num_Write : FuncId := 90
def L90 : List (Nat × (List V → M)) := []
def E90 : Env := ⟨ty, tabC (L90), meth, tabL [], tabL []⟩
noncomputable def num_Write_q : M := fun s K =>
 (optK (aggO (fillV (placeS [(0, 59), (1, 24)] ty) [(V.slice none 0 0 true), (V.int .i64 0)] [])) s fun t1 s => ((boxV t1) s fun t2 s =>
 (K t2 s)))
noncomputable def num_Write : M := num_Write_q
theorem num_Write_qe : num_Write_q = evF (E90) Tryz.f90 [] := by kernel_rfl
theorem num_Write_s : SP Tryz.prog 90 (F0 num_Write) := mk0 (mkEnv tab (L := L90) trivial) Tryz.func90 (by kernel_rfl) (num_Write_qe)

/-! 122: (*sealchain/num.Writer).put -/
abbrev N_num_Writer_put : FuncId := 122
def L122 (f140 : V → M) : List (Nat × (List V → M)) := [(140, F1 f140)]
def E122 (f140 : V → M) : Env := ⟨ty, tabC (L122 f140), meth, tabL [], tabL []⟩
noncomputable def num_Writer_put_q (f140 : V → M) (t0 t1 t2 : V) : M := fun s K =>
 (optK (binV .eql (some (Kd.ptr 163)) true t0 (V.ptr none)) s fun t8 s => (condV t8
 (K (V.ptr none) s)
 (optK (nilV t0) s fun t11 s => (optK (fp 1 t11) s fun t12 s => ((ld1 t12) s fun t13 s =>
 ((bsl 1 [(V.int .i64 0)] 2 [(0, t13), (1, t1)]) s fun t15 s =>
 ((f140 t15) s fun t16 s =>
 (optK (nilV t0) s fun t17 s => (optK (fp 1 t17) s fun t18 s => ((st 1 t18 t16) s fun _ s =>
 (optK (nilV t0) s fun t20 s => (optK (fp 1 t20) s fun t21 s => ((ld1 t21) s fun t22 s =>
 (optK (binV .eql (some (Kd.int .i64)) true t22 (V.int .i64 0)) s fun t23 s => (condV t23
 (optK (nilV t0) s fun t26 s => (optK (fp 0 t26) s fun t27 s => ((ld1 t27) s fun t28 s =>
 ((app 1 1 t28 t2) s fun t30 s =>
 (optK (nilV t0) s fun t31 s => (optK (fp 0 t31) s fun t32 s => ((st 1 t32 t30) s fun _ s =>
 (K t0 s))))))))
 (K t0 s))))))))))))))))
noncomputable def num_Writer_put : V → V → V → M := num_Writer_put_q cmp_Or_api_Errno
theorem num_Writer_put_qe (f140 : V → M) (t0 t1 t2 : V) : num_Writer_put_q f140 t0 t1 t2 = evF (E122 f140) Tryz.f122 [t0, t1, t2] := by kernel_rfl
theorem num_Writer_put_s : SP Tryz.prog 122 (F3 num_Writer_put) := mk3 (mkEnv tab (L := L122 cmp_Or_api_Errno) ⟨cmp_Or_api_Errno_s, trivial⟩) Tryz.func122 (by kernel_rfl) (num_Writer_put_qe cmp_Or_api_Errno)

/-! 91: (*sealchain/num.Writer).Num -/
abbrev N_num_Writer_Num : FuncId := 91
def L91 (f109 : V → M) (f122 : V → V → V → M) : List (Nat × (List V → M)) := [(109, F1 f109), (122, F3 f122)]
def E91 (f109 : V → M) (f122 : V → V → V → M) : Env := ⟨ty, tabC (L91 f109 f122), meth, tabL [(9, [0, 1, 2, 7, 27, 28])], tabL [(9, [0, 7])]⟩
noncomputable def num_Writer_Num_L1 (f109 : V → M) (f122 : V → V → V → M) (t0 t1 t2 t7 t27 t28 : V) : AS → KX → Prop := fun s K =>
 (optK (binV .lss (some (Kd.int .i64)) false t28 t27) s fun t29 s => (condV t29
 (optK (binV .sub (some (Kd.int .i64)) true t1 (V.int .i64 1)) s fun t34 s => (optK (binV .sub (some (Kd.int .i64)) false t34 t28) s fun t36 s => (optK (binV .mul (some (Kd.int .i64)) true (V.int .i64 8) t36) s fun t37 s => (optK (binV .shr (some (Kd.int .i64)) false t2 t37) s fun t38 s => ((cvt (Kd.int .i64) (Kd.int .u8) t38) s fun t39 s =>
 ((bsl 1 [(V.int .u8 0)] 1 [(0, t39)]) s fun t40 s =>
 ((app 1 1 t7 t40) s fun t41 s =>
 (optK (binV .add (some (Kd.int .i64)) true t28 (V.int .i64 1)) s fun t42 s => (K .nrm [t0, t1, t2, V.junk, V.junk, V.junk, V.junk, t41, V.junk, V.junk, V.junk, V.junk, V.junk, V.junk, V.junk, V.junk, V.junk, V.junk, V.junk, V.junk, V.junk, V.junk, V.junk, V.junk, V.junk, V.junk, V.junk, t27, t42, V.junk, V.junk, V.junk, V.junk, V.junk, V.junk, V.junk, V.junk, V.junk, V.junk, V.junk, V.junk, V.junk, V.junk, V.junk, V.junk, V.junk] s)))))))))
 (K (.exit 1) [t0, V.junk, V.junk, V.junk, V.junk, V.junk, V.junk, t7, V.junk, V.junk, V.junk, V.junk, V.junk, V.junk, V.junk, V.junk, V.junk, V.junk, V.junk, V.junk, V.junk, V.junk, V.junk, V.junk, V.junk, V.junk, V.junk, V.junk, V.junk, V.junk, V.junk, V.junk, V.junk, V.junk, V.junk, V.junk, V.junk, V.junk, V.junk, V.junk, V.junk, V.junk, V.junk, V.junk, V.junk, V.junk] s)))
noncomputable def num_Writer_Num_q (f109 : V → M) (f122 : V → V → V → M) (t0 t1 t2 : V) : M := fun s K =>
 ((f109 t1) s fun t11 s =>
 (optK (unV .not t11) s fun t12 s => (condV t12
 ((f122 t0 (V.int .i64 2) (V.slice none 0 0 true)) s fun t14 s =>
 (K t14 s))
 (optK (binV .lss (some (Kd.int .i64)) true t2 (V.int .i64 0)) s fun t17 s => (condV t17
 (condV t17
 ((f122 t0 (V.int .i64 9) (V.slice none 0 0 true)) s fun t26 s =>
 (K t26 s))
 (loopN LOOPS (fun tm s K => num_Writer_Num_L1 f109 f122 (tm.getD 0 .junk) (tm.getD 1 .junk) (tm.getD 2 .junk) (tm.getD 7 .junk) (tm.getD 27 .junk) (tm.getD 28 .junk) s K) [t0, t1, t2, V.junk, V.junk, V.junk, V.junk, (V.slice none 0 0 true), V.junk, V.junk, V.junk, V.junk, V.junk, V.junk, V.junk, V.junk, V.junk, V.junk, V.junk, V.junk, V.junk, V.junk, V.junk, V.junk, V.junk, V.junk, V.junk, t1, (V.int .i64 0), V.junk, V.junk, V.junk, V.junk, V.junk, V.junk, V.junk, V.junk, V.junk, V.junk, V.junk, V.junk, V.junk, V.junk, V.junk, V.junk, V.junk] s (fun e tm s => exX e (fun j1 => (exB (j1 == 1)
 ((f122 (tm.getD 0 .junk) (V.int .i64 0) (tm.getD 7 .junk)) s fun t45 s =>
 (K t45 s))
 False)) (K V.junk s))))
 (optK (binV .gtr (some (Kd.int .i64)) true t2 (V.int .i64 9007199254740991)) s fun t19 s => (condV t19
 (condV t19
 ((f122 t0 (V.int .i64 9) (V.slice none 0 0 true)) s fun t26 s =>
 (K t26 s))
 (loopN LOOPS (fun tm s K => num_Writer_Num_L1 f109 f122 (tm.getD 0 .junk) (tm.getD 1 .junk) (tm.getD 2 .junk) (tm.getD 7 .junk) (tm.getD 27 .junk) (tm.getD 28 .junk) s K) [t0, t1, t2, V.junk, V.junk, V.junk, V.junk, (V.slice none 0 0 true), V.junk, V.junk, V.junk, V.junk, V.junk, V.junk, V.junk, V.junk, V.junk, V.junk, V.junk, V.junk, V.junk, V.junk, V.junk, V.junk, V.junk, V.junk, V.junk, t1, (V.int .i64 0), V.junk, V.junk, V.junk, V.junk, V.junk, V.junk, V.junk, V.junk, V.junk, V.junk, V.junk, V.junk, V.junk, V.junk, V.junk, V.junk, V.junk] s (fun e tm s => exX e (fun j1 => (exB (j1 == 1)
 ((f122 (tm.getD 0 .junk) (V.int .i64 0) (tm.getD 7 .junk)) s fun t45 s =>
 (K t45 s))
 False)) (K V.junk s))))
 (optK (binV .mul (some (Kd.int .i64)) true (V.int .i64 8) t1) s fun t22 s => (optK (binV .shr (some (Kd.int .i64)) false t2 t22) s fun t23 s => (optK (binV .neq (some (Kd.int .i64)) true t23 (V.int .i64 0)) s fun t24 s => (condV t24
 ((f122 t0 (V.int .i64 9) (V.slice none 0 0 true)) s fun t26 s =>
 (K t26 s))
 (loopN LOOPS (fun tm s K => num_Writer_Num_L1 f109 f122 (tm.getD 0 .junk) (tm.getD 1 .junk) (tm.getD 2 .junk) (tm.getD 7 .junk) (tm.getD 27 .junk) (tm.getD 28 .junk) s K) [t0, t1, t2, V.junk, V.junk, V.junk, V.junk, (V.slice none 0 0 true), V.junk, V.junk, V.junk, V.junk, V.junk, V.junk, V.junk, V.junk, V.junk, V.junk, V.junk, V.junk, V.junk, V.junk, V.junk, V.junk, V.junk, V.junk, V.junk, t1, (V.int .i64 0), V.junk, V.junk, V.junk, V.junk, V.junk, V.junk, V.junk, V.junk, V.junk, V.junk, V.junk, V.junk, V.junk, V.junk, V.junk, V.junk, V.junk] s (fun e tm s => exX e (fun j1 => (exB (j1 == 1)
 ((f122 (tm.getD 0 .junk) (V.int .i64 0) (tm.getD 7 .junk)) s fun t45 s =>
 (K t45 s))
 False)) (K V.junk s))))))))))))))
noncomputable def num_Writer_Num : V → V → V → M := num_Writer_Num_q num_wide num_Writer_put
theorem num_Writer_Num_qe (f109 : V → M) (f122 : V → V → V → M) (t0 t1 t2 : V) : num_Writer_Num_q f109 f122 t0 t1 t2 = evF (E91 f109 f122) Tryz.f91 [t0, t1, t2] := by kernel_rfl
theorem num_Writer_Num_s : SP Tryz.prog 91 (F3 num_Writer_Num) := mk3 (mkEnv tab (L := L91 num_wide num_Writer_put) ⟨num_wide_s, num_Writer_put_s, trivial⟩) Tryz.func91 (by kernel_rfl) (num_Writer_Num_qe num_wide num_Writer_put)

/-! 124: (*sealchain/num.Writer).Raw -/
abbrev N_num_Writer_Raw : FuncId := 124
def L124 (f122 : V → V → V → M) : List (Nat × (List V → M)) := [(122, F3 f122)]
def E124 (f122 : V → V → V → M) : Env := ⟨ty, tabC (L124 f122), meth, tabL [], tabL []⟩
noncomputable def num_Writer_Raw_q (f122 : V → V → V → M) (t0 t1 : V) : M := fun s K =>
 ((f122 t0 (V.int .i64 0) t1) s fun t7 s =>
 (K t7 s))
noncomputable def num_Writer_Raw : V → V → M := num_Writer_Raw_q num_Writer_put
theorem num_Writer_Raw_qe (f122 : V → V → V → M) (t0 t1 : V) : num_Writer_Raw_q f122 t0 t1 = evF (E124 f122) Tryz.f124 [t0, t1] := by kernel_rfl
theorem num_Writer_Raw_s : SP Tryz.prog 124 (F2 num_Writer_Raw) := mk2 (mkEnv tab (L := L124 num_Writer_put) ⟨num_Writer_put_s, trivial⟩) Tryz.func124 (by kernel_rfl) (num_Writer_Raw_qe num_Writer_put)

/-! 121: (*sealchain/num.Writer).Bytes -/
abbrev N_num_Writer_Bytes : FuncId := 121
def L121 (f107 : V → M) : List (Nat × (List V → M)) := [(107, F1 f107)]
def E121 (f107 : V → M) : Env := ⟨ty, tabC (L121 f107), meth, tabL [], tabL []⟩
noncomputable def num_Writer_Bytes_q (f107 : V → M) (t0 : V) : M := fun s K =>
 (optK (binV .eql (some (Kd.ptr 163)) true t0 (V.ptr none)) s fun t6 s => (condV t6
 (K (V.tuple [(V.slice none 0 0 true), (V.int .i64 1)]) s)
 (optK (nilV t0) s fun t9 s => (optK (fp 1 t9) s fun t10 s => ((ld1 t10) s fun t11 s =>
 (optK (binV .neq (some (Kd.int .i64)) true t11 (V.int .i64 0)) s fun t12 s => (condV t12
 (optK (nilV t0) s fun t14 s => (optK (fp 1 t14) s fun t15 s => ((ld1 t15) s fun t16 s1 =>
 (K (V.tuple [(V.slice none 0 0 true), t16]) s1))))
 (optK (nilV t0) s fun t18 s => (optK (fp 0 t18) s fun t19 s => ((ld1 t19) s fun t20 s =>
 ((f107 t20) s fun t21 s =>
 (K (V.tuple [t21, (V.int .i64 0)]) s))))))))))))
noncomputable def num_Writer_Bytes : V → M := num_Writer_Bytes_q slices_CloneB
theorem num_Writer_Bytes_qe (f107 : V → M) (t0 : V) : num_Writer_Bytes_q f107 t0 = evF (E121 f107) Tryz.f121 [t0] := by kernel_rfl
theorem num_Writer_Bytes_s : SP Tryz.prog 121 (F1 num_Writer_Bytes) := mk1 (mkEnv tab (L := L121 slices_CloneB) ⟨slices_CloneB_s, trivial⟩) Tryz.func121 (by kernel_rfl) (num_Writer_Bytes_qe slices_CloneB)

/-! 125: sealchain/wal.Record -/
abbrev N_wal_Record : FuncId := 125
def L125 (f90 : M) (f91 : V → V → V → M) (f124 : V → V → M) (f121 : V → M) (f106 : V → M) : List (Nat × (List V → M)) := [(90, F0 f90), (91, F3 f91), (124, F2 f124), (121, F1 f121), (106, F1 f106)]
def E125 (f90 : M) (f91 : V → V → V → M) (f124 : V → V → M) (f121 : V → M) (f106 : V → M) : Env := ⟨ty, tabC (L125 f90 f91 f124 f121 f106), meth, tabL [], tabL []⟩
noncomputable def wal_Record_q (f90 : M) (f91 : V → V → V → M) (f124 : V → V → M) (f121 : V → M) (f106 : V → M) (t0 : V) : M := fun s K =>
 (optK (lenV (some (Kd.slice 5)) t0) s fun t7 s => (optK (binV .gtr (some (Kd.int .i64)) true t7 (V.int .i64 40000)) s fun t8 s => (condV t8
 (K (V.tuple [(V.slice none 0 0 true), (V.int .i64 5)]) s)
 ((f90) s fun t10 s =>
 (optK (lenV (some (Kd.slice 5)) t0) s fun t12 s => ((f91 t10 (V.int .i64 2) t12) s fun t13 s =>
 (optK (lenV (some (Kd.slice 5)) t0) s fun t15 s => (optK (binV .sub (some (Kd.int .i64)) true (V.int .i64 65535) t15) s fun t16 s => ((f91 t13 (V.int .i64 2) t16) s fun t17 s =>
 ((f124 t17 t0) s fun t19 s =>
 ((f121 t19) s fun t20 s =>
 (optK (extractV t20 0) s fun t21 s => (optK (extractV t20 1) s fun t22 s => (optK (binV .neq (some (Kd.int .i64)) true t22 (V.int .i64 0)) s fun t24 s => (condV t24
 (K (V.tuple [(V.slice none 0 0 true), t22]) s)
 ((f106 t21) s fun t28 s =>
 ((app 1 1 t21 t28) s fun t29 s =>
 (K (V.tuple [t29, (V.int .i64 0)]) s))))))))))))))))))
noncomputable def wal_Record : V → M := wal_Record_q num_Write num_Writer_Num num_Writer_Raw num_Writer_Bytes wal_sums
theorem wal_Record_qe (f90 : M) (f91 : V → V → V → M) (f124 : V → V → M) (f121 : V → M) (f106 : V → M) (t0 : V) : wal_Record_q f90 f91 f124 f121 f106 t0 = evF (E125 f90 f91 f124 f121 f106) Tryz.f125 [t0] := by kernel_rfl
theorem wal_Record_s : SP Tryz.prog 125 (F1 wal_Record) := mk1 (mkEnv tab (L := L125 num_Write num_Writer_Num num_Writer_Raw num_Writer_Bytes wal_sums) ⟨num_Write_s, num_Writer_Num_s, num_Writer_Raw_s, num_Writer_Bytes_s, wal_sums_s, trivial⟩) Tryz.func125 (by kernel_rfl) (wal_Record_qe num_Write num_Writer_Num num_Writer_Raw num_Writer_Bytes wal_sums)

/-! 96: sealchain/wal.records -/
abbrev N_wal_records : FuncId := 96
def L96 (f125 : V → M) : List (Nat × (List V → M)) := [(125, F1 f125)]
def E96 (f125 : V → M) : Env := ⟨ty, tabC (L96 f125), meth, tabL [(2, [2, 8, 9, 10])], tabL [(2, [2, 3])]⟩
noncomputable def wal_records_L1 (f125 : V → M) (t2 t8 t9 t10 : V) : AS → KX → Prop := fun s K =>
 (optK (binV .lss (some (Kd.int .i64)) false t10 t9) s fun t11 s => (condV t11
 (optK (elemPtr none 1 t8 t10) s fun t12 s => ((ld1 t12) s fun t13 s =>
 ((f125 t13) s fun t16 s =>
 (optK (extractV t16 0) s fun t17 s => (optK (extractV t16 1) s fun t18 s => (optK (binV .neq (some (Kd.int .i64)) true t18 (V.int .i64 0)) s fun t20 s => (condV t20
 (K .ret [V.junk, V.junk, (V.slice none 0 0 true), t18, V.junk, V.junk, V.junk, V.junk, V.junk, V.junk, V.junk, V.junk, V.junk, V.junk, V.junk, V.junk, V.junk, V.junk, V.junk, V.junk, V.junk, V.junk, V.junk, V.junk, V.junk, V.junk, V.junk] s)
 ((app 1 1 t2 t17) s fun t24 s =>
 (optK (binV .add (some (Kd.int .i64)) true t10 (V.int .i64 1)) s fun t25 s => (K .nrm [V.junk, V.junk, t24, V.junk, V.junk, V.junk, V.junk, V.junk, t8, t9, t25, V.junk, V.junk, V.junk, V.junk, V.junk, V.junk, V.junk, V.junk, V.junk, V.junk, V.junk, V.junk, V.junk, V.junk, V.junk, V.junk] s))))))))))
 (K (.exit 0) [V.junk, V.junk, t2, V.junk, V.junk, V.junk, V.junk, V.junk, V.junk, V.junk, V.junk, V.junk, V.junk, V.junk, V.junk, V.junk, V.junk, V.junk, V.junk, V.junk, V.junk, V.junk, V.junk, V.junk, V.junk, V.junk, V.junk] s)))
noncomputable def wal_records_q (f125 : V → M) (t0 : V) : M := fun s K =>
 (optK (lenV (some (Kd.slice 59)) t0) s fun t9 s => (loopN LOOPS (fun tm s K => wal_records_L1 f125 (tm.getD 2 .junk) (tm.getD 8 .junk) (tm.getD 9 .junk) (tm.getD 10 .junk) s K) [V.junk, V.junk, (V.slice none 0 0 true), V.junk, V.junk, V.junk, V.junk, V.junk, t0, t9, (V.int .i64 0), V.junk, V.junk, V.junk, V.junk, V.junk, V.junk, V.junk, V.junk, V.junk, V.junk, V.junk, V.junk, V.junk, V.junk, V.junk, V.junk] s (fun e tm s => exX e (fun j1 => (exB (j1 == 0)
 (K (V.tuple [(tm.getD 2 .junk), (V.int .i64 0)]) s)
 False)) (K (V.tuple [(tm.getD 2 .junk), (tm.getD 3 .junk)]) s))))
noncomputable def wal_records : V → M := wal_records_q wal_Record
theorem wal_records_qe (f125 : V → M) (t0 : V) : wal_records_q f125 t0 = evF (E96 f125) Tryz.f96 [t0] := by kernel_rfl
theorem wal_records_s : SP Tryz.prog 96 (F1 wal_records) := mk1 (mkEnv tab (L := L96 wal_Record) ⟨wal_Record_s, trivial⟩) Tryz.func96 (by kernel_rfl) (wal_records_qe wal_Record)

/-! 22: (*sealchain/disk.Disk).Write -/
abbrev N_disk_Disk_Write : FuncId := 22
def L22 (f52 : V → M) (f53 : V → M) : List (Nat × (List V → M)) := [(52, F1 f52), (53, F1 f53)]
def E22 (f52 : V → M) (f53 : V → M) : Env := ⟨ty, tabC (L22 f52 f53), meth, tabL [], tabL []⟩
noncomputable def disk_Disk_Write_q (f52 : V → M) (f53 : V → M) (t0 t1 : V) : M := fun s K =>
 ((f52 t0) s fun t7 s =>
 (optK (binV .neq (some (Kd.int .i64)) true t7 (V.int .i64 0)) s fun t9 s => (condV t9
 (K t7 s)
 (optK (nilV t0) s fun t12 s => (optK (fp 0 t12) s fun t13 s => ((ld1 t13) s fun t14 s =>
 (optK (lenV (some (Kd.slice 5)) t14) s fun t15 s => (optK (lenV (some (Kd.slice 5)) t1) s fun t17 s => (optK (binV .add (some (Kd.int .i64)) false t15 t17) s fun t18 s => (optK (binV .gtr (some (Kd.int .i64)) true t18 (V.int .i64 1048576)) s fun t19 s => (condV t19
 (K (V.int .i64 5) s)
 (optK (nilV t0) s fun t22 s => (optK (fp 0 t22) s fun t23 s => ((ld1 t23) s fun t24 s =>
 ((app 1 1 t24 t1) s fun t26 s =>
 (optK (nilV t0) s fun t27 s => (optK (fp 0 t27) s fun t28 s => ((st 1 t28 t26) s fun _ s =>
 (optK (nilV t0) s fun t31 s => (optK (fp 4 t31) s fun t32 s => ((ld1 t32) s fun t33 s1 =>
 ((f53 t1) s1 fun t35 s2 =>
 (chkB (holds ti52 t32 s2 t33) ((bsl 1 [(V.slice none 0 0 true)] 1 [(0, t35)]) s2 fun t36 s3 =>
 (chkB (holds ti52 t32 s3 t33) ((app 1 24 t33 t36) s3 fun t37 s4 =>
 (optK (nilV t0) s4 fun t38 s4 => (optK (fp 4 t38) s4 fun t39 s4 => ((st 1 t39 t37) s4 fun _ s5 =>
 (K (V.int .i64 0) s5))))))))))))))))))))))))))))))
noncomputable def disk_Disk_Write : V → V → M := disk_Disk_Write_q disk_Disk_live disk_copied
theorem disk_Disk_Write_qe (f52 : V → M) (f53 : V → M) (t0 t1 : V) : disk_Disk_Write_q f52 f53 t0 t1 = evF (E22 f52 f53) Tryz.f22 [t0, t1] := by kernel_rfl
theorem disk_Disk_Write_s : SP Tryz.prog 22 (F2 disk_Disk_Write) := mk2 (mkEnv tab (L := L22 disk_Disk_live disk_copied) ⟨disk_Disk_live_s, disk_copied_s, trivial⟩) Tryz.func22 (by kernel_rfl) (disk_Disk_Write_qe disk_Disk_live disk_copied)

/-! 97: (*sealchain/wal.Log).did -/
abbrev N_wal_Log_did : FuncId := 97
def L97 : List (Nat × (List V → M)) := []
def E97 : Env := ⟨ty, tabC (L97), meth, tabL [], tabL []⟩
noncomputable def wal_Log_did_q (t0 t1 : V) : M := fun s K =>
 (optK (binV .eql (some (Kd.int .i64)) true t1 (V.int .i64 130)) s fun t7 s => (optK (nilV t0) s fun t8 s => (optK (fp 2 t8) s fun t9 s => ((st 1 t9 t7) s fun _ s =>
 (K t1 s)))))
noncomputable def wal_Log_did : V → V → M := wal_Log_did_q
theorem wal_Log_did_qe (t0 t1 : V) : wal_Log_did_q t0 t1 = evF (E97) Tryz.f97 [t0, t1] := by kernel_rfl
theorem wal_Log_did_s : SP Tryz.prog 97 (F2 wal_Log_did) := mk2 (mkEnv tab (L := L97) trivial) Tryz.func97 (by kernel_rfl) (wal_Log_did_qe)

/-! 62: (*sealchain/disk.Disk).tear -/
abbrev N_disk_Disk_tear : FuncId := 62
def L62 : List (Nat × (List V → M)) := []
def E62 : Env := ⟨ty, tabC (L62), meth, tabL [], tabL []⟩
noncomputable def disk_Disk_tear_q (t0 t1 : V) : M := fun s K =>
 (optK (nilV t0) s fun t5 s => (optK (fp 1 t5) s fun t6 s => ((ld1 t6) s fun t7 s1 =>
 (optK (nilV t0) s1 fun t10 s1 => (optK (fp 0 t10) s1 fun t11 s1 => ((ld1 t11) s1 fun t12 s2 =>
 (optK (lenV (some (Kd.slice 5)) t12) s2 fun t13 s2 => (optK (nilV t0) s2 fun t15 s2 => (optK (fp 1 t15) s2 fun t16 s2 => ((ld1 t16) s2 fun t17 s3 =>
 (optK (binV .sub (some (Kd.int .i64)) false t13 t17) s3 fun t18 s3 => (optK (foldV min2V t1 [t18]) s3 fun t19 s3 => (optK (binV .add (some (Kd.int .i64)) false t7 t19) s3 fun t20 s3 => (optK (nilV t0) s3 fun t21 s3 => (optK (fp 1 t21) s3 fun t22 s3 => ((st 1 t22 t20) s3 fun _ s4 =>
 (optK (nilV t0) s4 fun t26 s4 => (optK (fp 0 t26) s4 fun t27 s4 => ((ld1 t27) s4 fun t28 s5 =>
 (optK (nilV t0) s5 fun t30 s5 => (optK (fp 1 t30) s5 fun t31 s5 => ((ld1 t31) s5 fun t32 s6 =>
 (optK (sliceSl 1 t28 none (some t32) none) s6 fun t33 s6 => (optK (nilV t0) s6 fun t34 s6 => (optK (fp 0 t34) s6 fun t35 s6 => ((st 1 t35 t33) s6 fun _ s7 =>
 (optK (nilV t0) s7 fun t36 s7 => (optK (fp 2 t36) s7 fun t37 s7 => ((st 1 t37 (V.bool true)) s7 fun _ s8 =>
 (K (V.tuple []) s8))))))))))))))))))))))))))))))
noncomputable def disk_Disk_tear : V → V → M := disk_Disk_tear_q
theorem disk_Disk_tear_qe (t0 t1 : V) : disk_Disk_tear_q t0 t1 = evF (E62) Tryz.f62 [t0, t1] := by kernel_rfl
theorem disk_Disk_tear_s : SP Tryz.prog 62 (F2 disk_Disk_tear) := mk2 (mkEnv tab (L := L62) trivial) Tryz.func62 (by kernel_rfl) (disk_Disk_tear_qe)

/-! 61: (*sealchain/disk.Disk).Arm$1 -/
abbrev N_disk_Disk_Arm_1 : FuncId := 61
def L61 (f62 : V → V → M) : List (Nat × (List V → M)) := [(62, F2 f62)]
def E61 (f62 : V → V → M) : Env := ⟨ty, tabC (L61 f62), meth, tabL [], tabL []⟩
noncomputable def disk_Disk_Arm_1_q (f62 : V → V → M) (t0 t1 : V) : M := fun s K =>
 ((ld1 t1) s fun t5 s =>
 ((f62 t0 t5) s fun t6 s =>
 (K (V.bool false) s)))
noncomputable def disk_Disk_Arm_1 : V → V → M := disk_Disk_Arm_1_q disk_Disk_tear
theorem disk_Disk_Arm_1_qe (f62 : V → V → M) (t0 t1 : V) : disk_Disk_Arm_1_q f62 t0 t1 = evF (E61 f62) Tryz.f61 [t0, t1] := by kernel_rfl
theorem disk_Disk_Arm_1_s : SP Tryz.prog 61 (F2 disk_Disk_Arm_1) := mk2 (mkEnv tab (L := L61 disk_Disk_tear) ⟨disk_Disk_tear_s, trivial⟩) Tryz.func61 (by kernel_rfl) (disk_Disk_Arm_1_qe disk_Disk_tear)

/-! 24: (*sealchain/disk.Disk).Sync -/
abbrev N_disk_Disk_Sync : FuncId := 24
def L24 (f52 : V → M) (f38 : V → M) (f61 : V → V → M) : List (Nat × (List V → M)) := [(52, F1 f52), (38, F1 f38), (61, F2 f61)]
def E24 (f52 : V → M) (f38 : V → M) (f61 : V → V → M) : Env := ⟨ty, tabC (L24 f52 f38 f61), meth, tabL [], tabL []⟩
noncomputable def disk_Disk_Sync_q (f52 : V → M) (f38 : V → M) (f61 : V → V → M) (t0 : V) : M := fun s K =>
 ((f52 t0) s fun t5 s =>
 (optK (binV .neq (some (Kd.int .i64)) true t5 (V.int .i64 0)) s fun t7 s => (condV t7
 (K t5 s)
 (optK (nilV t0) s fun t10 s => (optK (fp 3 t10) s fun t11 s => ((ld1 t11) s fun t12 s =>
 ((callV (E24 f52 f38 f61) t12 [t0]) s fun t14 s =>
 (optK (unV .not t14) s fun t15 s => (condV t15
 (K (V.int .i64 130) s)
 (optK (nilV t0) s fun t18 s => (optK (fp 0 t18) s fun t19 s => ((ld1 t19) s fun t20 s =>
 (optK (lenV (some (Kd.slice 5)) t20) s fun t21 s => (optK (nilV t0) s fun t22 s => (optK (fp 1 t22) s fun t23 s => ((st 1 t23 t21) s fun _ s =>
 (K (V.int .i64 0) s)))))))))))))))))
noncomputable def disk_Disk_Sync : V → M := disk_Disk_Sync_q disk_Disk_live disk_always disk_Disk_Arm_1
theorem disk_Disk_Sync_qe (f52 : V → M) (f38 : V → M) (f61 : V → V → M) (t0 : V) : disk_Disk_Sync_q f52 f38 f61 t0 = evF (E24 f52 f38 f61) Tryz.f24 [t0] := by kernel_rfl
theorem disk_Disk_Sync_s : SP Tryz.prog 24 (F1 disk_Disk_Sync) := mk1 (mkEnv tab (L := L24 disk_Disk_live disk_always disk_Disk_Arm_1) ⟨disk_Disk_live_s, disk_always_s, disk_Disk_Arm_1_s, trivial⟩) Tryz.func24 (by kernel_rfl) (disk_Disk_Sync_qe disk_Disk_live disk_always disk_Disk_Arm_1)

/-! 85: (*sealchain/wal.Log).Add -/
abbrev N_wal_Log_Add : FuncId := 85
def L85 (f95 : V → M) (f96 : V → M) (f22 : V → V → M) (f97 : V → V → M) (f24 : V → M) (f68 : V → M) : List (Nat × (List V → M)) := [(95, F1 f95), (96, F1 f96), (22, F2 f22), (97, F2 f97), (24, F1 f24), (68, F1 f68)]
def E85 (f95 : V → M) (f96 : V → M) (f22 : V → V → M) (f97 : V → V → M) (f24 : V → M) (f68 : V → M) : Env := ⟨ty, tabC (L85 f95 f96 f22 f97 f24 f68), meth, tabL [], tabL []⟩
noncomputable def wal_Log_Add_q (f95 : V → M) (f96 : V → M) (f22 : V → V → M) (f97 : V → V → M) (f24 : V → M) (f68 : V → M) (t0 t1 : V) : M := fun s K =>
 ((f95 t0) s fun t11 s =>
 (optK (binV .neq (some (Kd.int .i64)) true t11 (V.int .i64 0)) s fun t13 s => (condV t13
 (K t11 s)
 ((f96 t1) s fun t17 s =>
 (optK (extractV t17 0) s fun t18 s => (optK (extractV t17 1) s fun t19 s => (optK (binV .neq (some (Kd.int .i64)) true t19 (V.int .i64 0)) s fun t21 s => (condV t21
 (K t19 s)
 (optK (lenV (some (Kd.slice 59)) t1) s fun t24 s => (optK (binV .gtr (some (Kd.int .i64)) true t24 (V.int .i64 0)) s fun t25 s => (condV t25
 (optK (nilV t0) s fun t28 s => (optK (fp 0 t28) s fun t29 s => ((ld1 t29) s fun t30 s =>
 ((f22 t30 t18) s fun t32 s =>
 ((f97 t0 t32) s fun t33 s =>
 (optK (binV .neq (some (Kd.int .i64)) true t33 (V.int .i64 0)) s fun t35 s => (condV t35
 (K t33 s)
 (optK (nilV t0) s fun t39 s => (optK (fp 0 t39) s fun t40 s => ((ld1 t40) s fun t41 s =>
 ((f24 t41) s fun t42 s =>
 ((f97 t0 t42) s fun t43 s =>
 (optK (binV .neq (some (Kd.int .i64)) true t43 (V.int .i64 0)) s fun t45 s => (condV t45
 (K t43 s)
 (optK (nilV t0) s fun t49 s => (optK (fp 1 t49) s fun t50 s => ((ld1 t50) s fun t51 s1 =>
 ((f68 t1) s1 fun t53 s2 =>
 (chkB (holds ti52 t50 s2 t51) ((app 1 24 t51 t53) s2 fun t54 s3 =>
 (optK (nilV t0) s3 fun t55 s3 => (optK (fp 1 t55) s3 fun t56 s3 => ((st 1 t56 t54) s3 fun _ s4 =>
 (K (V.int .i64 0) s4))))))))))))))))))))))))
 (optK (nilV t0) s fun t39 s => (optK (fp 0 t39) s fun t40 s => ((ld1 t40) s fun t41 s =>
 ((f24 t41) s fun t42 s =>
 ((f97 t0 t42) s fun t43 s =>
 (optK (binV .neq (some (Kd.int .i64)) true t43 (V.int .i64 0)) s fun t45 s => (condV t45
 (K t43 s)
 (optK (nilV t0) s fun t49 s => (optK (fp 1 t49) s fun t50 s => ((ld1 t50) s fun t51 s5 =>
 ((f68 t1) s5 fun t53 s6 =>
 (chkB (holds ti52 t50 s6 t51) ((app 1 24 t51 t53) s6 fun t54 s7 =>
 (optK (nilV t0) s7 fun t55 s7 => (optK (fp 1 t55) s7 fun t56 s7 => ((st 1 t56 t54) s7 fun _ s8 =>
 (K (V.int .i64 0) s8))))))))))))))))))))))))))))
noncomputable def wal_Log_Add : V → V → M := wal_Log_Add_q wal_Log_live wal_records disk_Disk_Write wal_Log_did disk_Disk_Sync wal_copied
theorem wal_Log_Add_qe (f95 : V → M) (f96 : V → M) (f22 : V → V → M) (f97 : V → V → M) (f24 : V → M) (f68 : V → M) (t0 t1 : V) : wal_Log_Add_q f95 f96 f22 f97 f24 f68 t0 t1 = evF (E85 f95 f96 f22 f97 f24 f68) Tryz.f85 [t0, t1] := by kernel_rfl
theorem wal_Log_Add_s : SP Tryz.prog 85 (F2 wal_Log_Add) := mk2 (mkEnv tab (L := L85 wal_Log_live wal_records disk_Disk_Write wal_Log_did disk_Disk_Sync wal_copied) ⟨wal_Log_live_s, wal_records_s, disk_Disk_Write_s, wal_Log_did_s, disk_Disk_Sync_s, wal_copied_s, trivial⟩) Tryz.func85 (by kernel_rfl) (wal_Log_Add_qe wal_Log_live wal_records disk_Disk_Write wal_Log_did disk_Disk_Sync wal_copied)

/-! 123: slices.Reverse[[]byte,byte] -/
abbrev N_slices_ReverseB : FuncId := 123
def L123 : List (Nat × (List V → M)) := []
def E123 : Env := ⟨ty, tabC (L123), meth, tabL [(1, [0, 2, 3])], tabL [(1, [])]⟩
noncomputable def slices_ReverseB_L1 (t0 t2 t3 : V) : AS → KX → Prop := fun s K =>
 (optK (binV .lss (some (Kd.int .i64)) false t2 t3) s fun t9 s => (condV t9
 (optK (elemPtr none 1 t0 t3) s fun t20 s => ((ld1 t20) s fun t21 s1 =>
 (optK (elemPtr none 1 t0 t2) s1 fun t24 s1 => ((ld1 t24) s1 fun t25 s2 =>
 (optK (elemPtr none 1 t0 t2) s2 fun t26 s2 => ((st 1 t26 t21) s2 fun _ s3 =>
 (optK (elemPtr none 1 t0 t3) s3 fun t27 s3 => ((st 1 t27 t25) s3 fun _ s4 =>
 (optK (binV .add (some (Kd.int .i64)) true t2 (V.int .i64 1)) s4 fun t11 s4 => (optK (binV .sub (some (Kd.int .i64)) true t3 (V.int .i64 1)) s4 fun t13 s4 => (K .nrm [t0, V.junk, t11, t13, V.junk, V.junk, V.junk, V.junk, V.junk, V.junk, V.junk, V.junk, V.junk, V.junk, V.junk, V.junk, V.junk, V.junk, V.junk, V.junk, V.junk, V.junk, V.junk, V.junk, V.junk, V.junk, V.junk, V.junk] s4)))))))))))
 (K (.exit 0) [V.junk, V.junk, V.junk, V.junk, V.junk, V.junk, V.junk, V.junk, V.junk, V.junk, V.junk, V.junk, V.junk, V.junk, V.junk, V.junk, V.junk, V.junk, V.junk, V.junk, V.junk, V.junk, V.junk, V.junk, V.junk, V.junk, V.junk, V.junk] s)))
noncomputable def slices_ReverseB_q (t0 : V) : M := fun s K =>
 (optK (lenV (some (Kd.slice 5)) t0) s fun t5 s => (optK (binV .sub (some (Kd.int .i64)) true t5 (V.int .i64 1)) s fun t6 s => (loopN LOOPS (fun tm s K => slices_ReverseB_L1 (tm.getD 0 .junk) (tm.getD 2 .junk) (tm.getD 3 .junk) s K) [t0, V.junk, (V.int .i64 0), t6, V.junk, V.junk, V.junk, V.junk, V.junk, V.junk, V.junk, V.junk, V.junk, V.junk, V.junk, V.junk, V.junk, V.junk, V.junk, V.junk, V.junk, V.junk, V.junk, V.junk, V.junk, V.junk, V.junk, V.junk] s (fun e tm s => exX e (fun j1 => (exB (j1 == 0)
 (K (V.tuple []) s)
 False)) (K (V.tuple []) s)))))
noncomputable def slices_ReverseB : V → M := slices_ReverseB_q
theorem slices_ReverseB_qe (t0 : V) : slices_ReverseB_q t0 = evF (E123) Tryz.f123 [t0] := by kernel_rfl
theorem slices_ReverseB_s : SP Tryz.prog 123 (F1 slices_ReverseB) := mk1 (mkEnv tab (L := L123) trivial) Tryz.func123 (by kernel_rfl) (slices_ReverseB_qe)

/-! 92: (*sealchain/num.Writer).Count -/
abbrev N_num_Writer_Count : FuncId := 92
def L92 (f122 : V → V → V → M) (f123 : V → M) : List (Nat × (List V → M)) := [(122, F3 f122), (123, F1 f123)]
def E92 (f122 : V → V → V → M) (f123 : V → M) : Env := ⟨ty, tabC (L92 f122 f123), meth, tabL [(5, [0, 1, 5])], tabL [(5, [0, 5])]⟩
noncomputable def num_Writer_Count_L1 (f122 : V → V → V → M) (f123 : V → M) (t0 t1 t5 : V) : AS → KX → Prop := fun s K =>
 (optK (binV .gtr (some (Kd.int .i64)) true t1 (V.int .i64 0)) s fun t21 s => (condV t21
 (optK (binV .rem (some (Kd.int .i64)) true t1 (V.int .i64 128)) s fun t26 s => (optK (binV .or (some (Kd.int .i64)) true t26 (V.int .i64 128)) s fun t27 s => ((cvt (Kd.int .i64) (Kd.int .u8) t27) s fun t28 s =>
 ((bsl 1 [(V.int .u8 0)] 1 [(0, t28)]) s fun t29 s =>
 ((app 1 1 t5 t29) s fun t30 s =>
 (optK (binV .shr (some (Kd.int .i64)) true t1 (V.int .u64 7)) s fun t23 s => (K .nrm [t0, t23, V.junk, V.junk, V.junk, t30, V.junk, V.junk, V.junk, V.junk, V.junk, V.junk, V.junk, V.junk, V.junk, V.junk, V.junk, V.junk, V.junk, V.junk, V.junk, V.junk, V.junk, V.junk, V.junk, V.junk, V.junk, V.junk, V.junk, V.junk, V.junk, V.junk, V.junk, V.junk, V.junk, V.junk] s)))))))
 (K (.exit 0) [t0, V.junk, V.junk, V.junk, V.junk, t5, V.junk, V.junk, V.junk, V.junk, V.junk, V.junk, V.junk, V.junk, V.junk, V.junk, V.junk, V.junk, V.junk, V.junk, V.junk, V.junk, V.junk, V.junk, V.junk, V.junk, V.junk, V.junk, V.junk, V.junk, V.junk, V.junk, V.junk, V.junk, V.junk, V.junk] s)))
noncomputable def num_Writer_Count_q (f122 : V → V → V → M) (f123 : V → M) (t0 t1 : V) : M := fun s K =>
 (optK (binV .lss (some (Kd.int .i64)) true t1 (V.int .i64 0)) s fun t7 s => (grd t7
 ((f122 t0 (V.int .i64 9) (V.slice none 0 0 true)) s fun t13 s =>
 (K t13 s))
 (optK (binV .gtr (some (Kd.int .i64)) true t1 (V.int .i64 9007199254740991)) s fun t10 s => (condV t10
 ((f122 t0 (V.int .i64 9) (V.slice none 0 0 true)) s fun t13 s =>
 (K t13 s))
 (optK (binV .rem (some (Kd.int .i64)) true t1 (V.int .i64 128)) s fun t15 s => ((cvt (Kd.int .i64) (Kd.int .u8) t15) s fun t16 s =>
 ((bsl 1 [(V.int .u8 0)] 1 [(0, t16)]) s fun t17 s =>
 (optK (binV .shr (some (Kd.int .i64)) true t1 (V.int .u64 7)) s fun t19 s => (loopN LOOPS (fun tm s K => num_Writer_Count_L1 f122 f123 (tm.getD 0 .junk) (tm.getD 1 .junk) (tm.getD 5 .junk) s K) [t0, t19, V.junk, V.junk, V.junk, t17, V.junk, V.junk, V.junk, V.junk, V.junk, V.junk, V.junk, V.junk, V.junk, V.junk, V.junk, V.junk, V.junk, V.junk, V.junk, V.junk, V.junk, V.junk, V.junk, V.junk, V.junk, V.junk, V.junk, V.junk, V.junk, V.junk, V.junk, V.junk, V.junk, V.junk] s (fun e tm s => exX e (fun j1 => (exB (j1 == 0)
 ((f123 (tm.getD 5 .junk)) s fun t32 s =>
 ((f122 (tm.getD 0 .junk) (V.int .i64 0) (tm.getD 5 .junk)) s fun t35 s =>
 (K t35 s)))
 False)) (K V.junk s)))))))))
 False))
noncomputable def num_Writer_Count : V → V → M := num_Writer_Count_q num_Writer_put slices_ReverseB
theorem num_Writer_Count_qe (f122 : V → V → V → M) (f123 : V → M) (t0 t1 : V) : num_Writer_Count_q f122 f123 t0 t1 = evF (E92 f122 f123) Tryz.f92 [t0, t1] := by kernel_rfl
theorem num_Writer_Count_s : SP Tryz.prog 92 (F2 num_Writer_Count) := mk2 (mkEnv tab (L := L92 num_Writer_put slices_ReverseB) ⟨num_Writer_put_s, slices_ReverseB_s, trivial⟩) Tryz.func92 (by kernel_rfl) (num_Writer_Count_qe num_Writer_put slices_ReverseB)

/-! 89: sealchain/vote.written -/
abbrev N_vote_written : FuncId := 89
def L89 (f121 : V → M) : List (Nat × (List V → M)) := [(121, F1 f121)]
def E89 (f121 : V → M) : Env := ⟨ty, tabC (L89 f121), meth, tabL [], tabL []⟩
noncomputable def vote_written_q (f121 : V → M) (t0 : V) : M := fun s K =>
 ((f121 t0) s fun t7 s =>
 (optK (extractV t7 0) s fun t8 s => (optK (extractV t7 1) s fun t9 s => (K t8 s))))
noncomputable def vote_written : V → M := vote_written_q num_Writer_Bytes
theorem vote_written_qe (f121 : V → M) (t0 : V) : vote_written_q f121 t0 = evF (E89 f121) Tryz.f89 [t0] := by kernel_rfl
theorem vote_written_s : SP Tryz.prog 89 (F1 vote_written) := mk1 (mkEnv tab (L := L89 num_Writer_Bytes) ⟨num_Writer_Bytes_s, trivial⟩) Tryz.func89 (by kernel_rfl) (vote_written_qe num_Writer_Bytes)

/-! 47: (sealchain/vote.promise).bytes -/
abbrev N_vote_promise_bytes : FuncId := 47
def L47 (f90 : M) (f91 : V → V → V → M) (f92 : V → V → M) (f89 : V → M) : List (Nat × (List V → M)) := [(90, F0 f90), (91, F3 f91), (92, F2 f92), (89, F1 f89)]
def E47 (f90 : M) (f91 : V → V → V → M) (f92 : V → V → M) (f89 : V → M) : Env := ⟨ty, tabC (L47 f90 f91 f92 f89), meth, tabL [], tabL []⟩
noncomputable def vote_promise_bytes_q (f90 : M) (f91 : V → V → V → M) (f92 : V → V → M) (f89 : V → M) (t0 : V) : M := fun s K =>
 ((f90) s fun t3 s =>
 ((f91 t3 (V.int .i64 1) (V.int .i64 1)) s fun t4 s =>
 ((f92 t4 t0) s fun t6 s =>
 ((f89 t6) s fun t7 s =>
 (K t7 s)))))
noncomputable def vote_promise_bytes : V → M := vote_promise_bytes_q num_Write num_Writer_Num num_Writer_Count vote_written
theorem vote_promise_bytes_qe (f90 : M) (f91 : V → V → V → M) (f92 : V → V → M) (f89 : V → M) (t0 : V) : vote_promise_bytes_q f90 f91 f92 f89 t0 = evF (E47 f90 f91 f92 f89) Tryz.f47 [t0] := by kernel_rfl
theorem vote_promise_bytes_s : SP Tryz.prog 47 (F1 vote_promise_bytes) := mk1 (mkEnv tab (L := L47 num_Write num_Writer_Num num_Writer_Count vote_written) ⟨num_Write_s, num_Writer_Num_s, num_Writer_Count_s, vote_written_s, trivial⟩) Tryz.func47 (by kernel_rfl) (vote_promise_bytes_qe num_Write num_Writer_Num num_Writer_Count vote_written)

/-! 48: (sealchain/vote.floored).bytes -/
abbrev N_vote_floored_bytes : FuncId := 48
def L48 (f90 : M) (f91 : V → V → V → M) (f92 : V → V → M) (f89 : V → M) : List (Nat × (List V → M)) := [(90, F0 f90), (91, F3 f91), (92, F2 f92), (89, F1 f89)]
def E48 (f90 : M) (f91 : V → V → V → M) (f92 : V → V → M) (f89 : V → M) : Env := ⟨ty, tabC (L48 f90 f91 f92 f89), meth, tabL [], tabL []⟩
noncomputable def vote_floored_bytes_q (f90 : M) (f91 : V → V → V → M) (f92 : V → V → M) (f89 : V → M) (t0 : V) : M := fun s K =>
 ((f90) s fun t3 s =>
 ((f91 t3 (V.int .i64 1) (V.int .i64 3)) s fun t4 s =>
 ((f92 t4 t0) s fun t6 s =>
 ((f89 t6) s fun t7 s =>
 (K t7 s)))))
noncomputable def vote_floored_bytes : V → M := vote_floored_bytes_q num_Write num_Writer_Num num_Writer_Count vote_written
theorem vote_floored_bytes_qe (f90 : M) (f91 : V → V → V → M) (f92 : V → V → M) (f89 : V → M) (t0 : V) : vote_floored_bytes_q f90 f91 f92 f89 t0 = evF (E48 f90 f91 f92 f89) Tryz.f48 [t0] := by kernel_rfl
theorem vote_floored_bytes_s : SP Tryz.prog 48 (F1 vote_floored_bytes) := mk1 (mkEnv tab (L := L48 num_Write num_Writer_Num num_Writer_Count vote_written) ⟨num_Write_s, num_Writer_Num_s, num_Writer_Count_s, vote_written_s, trivial⟩) Tryz.func48 (by kernel_rfl) (vote_floored_bytes_qe num_Write num_Writer_Num num_Writer_Count vote_written)

/-! 93: sealchain/pack.BytesConf -/
abbrev N_pack_BytesConf : FuncId := 93
def L93 (f42 : V → M) (f90 : M) (f92 : V → V → M) (f91 : V → V → V → M) (f121 : V → M) : List (Nat × (List V → M)) := [(42, F1 f42), (90, F0 f90), (92, F2 f92), (91, F3 f91), (121, F1 f121)]
def E93 (f42 : V → M) (f90 : M) (f92 : V → V → M) (f91 : V → V → V → M) (f121 : V → M) : Env := ⟨ty, tabC (L93 f42 f90 f92 f91 f121), meth, tabL [(6, [5, 25, 26, 27])], tabL [(6, [5])]⟩
noncomputable def pack_BytesConf_L1 (f42 : V → M) (f90 : M) (f92 : V → V → M) (f91 : V → V → V → M) (f121 : V → M) (t5 t25 t26 t27 : V) : AS → KX → Prop := fun s K =>
 (optK (binV .lss (some (Kd.int .i64)) false t27 t26) s fun t28 s => (condV t28
 (optK (elemPtr none 1 t25 t27) s fun t29 s => ((ld1 t29) s fun t30 s =>
 ((f91 t5 (V.int .i64 1) t30) s fun t33 s =>
 (optK (binV .add (some (Kd.int .i64)) true t27 (V.int .i64 1)) s fun t34 s => (K .nrm [V.junk, V.junk, V.junk, V.junk, V.junk, t33, V.junk, V.junk, V.junk, V.junk, V.junk, V.junk, V.junk, V.junk, V.junk, V.junk, V.junk, V.junk, V.junk, V.junk, V.junk, V.junk, V.junk, V.junk, V.junk, t25, t26, t34, V.junk, V.junk, V.junk, V.junk, V.junk, V.junk, V.junk, V.junk, V.junk, V.junk, V.junk] s)))))
 (K (.exit 0) [V.junk, V.junk, V.junk, V.junk, V.junk, t5, V.junk, V.junk, V.junk, V.junk, V.junk, V.junk, V.junk, V.junk, V.junk, V.junk, V.junk, V.junk, V.junk, V.junk, V.junk, V.junk, V.junk, V.junk, V.junk, V.junk, V.junk, V.junk, V.junk, V.junk, V.junk, V.junk, V.junk, V.junk, V.junk, V.junk, V.junk, V.junk, V.junk] s)))
noncomputable def pack_BytesConf_q (f42 : V → M) (f90 : M) (f92 : V → V → M) (f91 : V → V → V → M) (f121 : V → M) (t0 : V) : M := fun s K =>
 ((boxV t0) s fun t1 s =>
 ((ldA 3 t1) s fun t8 s =>
 ((f42 t8) s fun t9 s =>
 (optK (binV .neq (some (Kd.int .i64)) true t9 (V.int .i64 0)) s fun t11 s => (condV t11
 (K (V.tuple [(V.slice none 0 0 true), t9]) s)
 ((f90) s fun t13 s1 =>
 (optK (fp 0 t1) s1 fun t14 s1 => ((ld1 t14) s1 fun t15 s2 =>
 (chkB (holds ti3 t14 s t15) ((f92 t13 t15) s2 fun t16 s3 =>
 (optK (fp 1 t1) s3 fun t17 s3 => ((ld1 t17) s3 fun t18 s4 =>
 (chkB (holds ti3 t17 s2 t18) (chkB (holds ti3 t17 s t18) ((f91 t16 (V.int .i64 1) t18) s4 fun t19 s5 =>
 (optK (fp 2 t1) s5 fun t20 s5 => ((ld1 t20) s5 fun t21 s6 =>
 (chkB (holds ti35 t20 s4 t21) (chkB (holds ti35 t20 s2 t21) (chkB (holds ti35 t20 s t21) (optK (lenV (some (Kd.slice 3)) t21) s6 fun t22 s6 => ((f91 t19 (V.int .i64 1) t22) s6 fun t23 s7 =>
 (optK (fp 2 t1) s7 fun t24 s7 => ((ld1 t24) s7 fun t25 s7 =>
 (optK (lenV (some (Kd.slice 3)) t25) s7 fun t26 s7 => (loopN LOOPS (fun tm s K => pack_BytesConf_L1 f42 f90 f92 f91 f121 (tm.getD 5 .junk) (tm.getD 25 .junk) (tm.getD 26 .junk) (tm.getD 27 .junk) s K) [V.junk, V.junk, V.junk, V.junk, V.junk, t23, V.junk, V.junk, V.junk, V.junk, V.junk, V.junk, V.junk, V.junk, V.junk, V.junk, V.junk, V.junk, V.junk, V.junk, V.junk, V.junk, V.junk, V.junk, V.junk, t25, t26, (V.int .i64 0), V.junk, V.junk, V.junk, V.junk, V.junk, V.junk, V.junk, V.junk, V.junk, V.junk, V.junk] s7 (fun e tm s => exX e (fun j1 => (exB (j1 == 0)
 ((f121 (tm.getD 5 .junk)) s fun t36 s =>
 (optK (extractV t36 0) s fun t37 s => (optK (extractV t36 1) s fun t38 s => (K (V.tuple [t37, t38]) s))))
 False)) (K (V.tuple [V.junk, V.junk]) s))))))))))))))))))))))))))))
noncomputable def pack_BytesConf : V → M := pack_BytesConf_q pack_CheckConf num_Write num_Writer_Count num_Writer_Num num_Writer_Bytes
theorem pack_BytesConf_qe (f42 : V → M) (f90 : M) (f92 : V → V → M) (f91 : V → V → V → M) (f121 : V → M) (t0 : V) : pack_BytesConf_q f42 f90 f92 f91 f121 t0 = evF (E93 f42 f90 f92 f91 f121) Tryz.f93 [t0] := by kernel_rfl
theorem pack_BytesConf_s : SP Tryz.prog 93 (F1 pack_BytesConf) := mk1 (mkEnv tab (L := L93 pack_CheckConf num_Write num_Writer_Count num_Writer_Num num_Writer_Bytes) ⟨pack_CheckConf_s, num_Write_s, num_Writer_Count_s, num_Writer_Num_s, num_Writer_Bytes_s, trivial⟩) Tryz.func93 (by kernel_rfl) (pack_BytesConf_qe pack_CheckConf num_Write num_Writer_Count num_Writer_Num num_Writer_Bytes)

/-! 94: (*sealchain/num.Writer).Text -/
abbrev N_num_Writer_Text : FuncId := 94
def L94 (f92 : V → V → M) (f124 : V → V → M) : List (Nat × (List V → M)) := [(92, F2 f92), (124, F2 f124)]
def E94 (f92 : V → V → M) (f124 : V → V → M) : Env := ⟨ty, tabC (L94 f92 f124), meth, tabL [], tabL []⟩
noncomputable def num_Writer_Text_q (f92 : V → V → M) (f124 : V → V → M) (t0 t1 : V) : M := fun s K =>
 (optK (lenV (some (Kd.slice 5)) t1) s fun t7 s => ((f92 t0 t7) s fun t8 s =>
 ((f124 t8 t1) s fun t10 s =>
 (K t10 s))))
noncomputable def num_Writer_Text : V → V → M := num_Writer_Text_q num_Writer_Count num_Writer_Raw
theorem num_Writer_Text_qe (f92 : V → V → M) (f124 : V → V → M) (t0 t1 : V) : num_Writer_Text_q f92 f124 t0 t1 = evF (E94 f92 f124) Tryz.f94 [t0, t1] := by kernel_rfl
theorem num_Writer_Text_s : SP Tryz.prog 94 (F2 num_Writer_Text) := mk2 (mkEnv tab (L := L94 num_Writer_Count num_Writer_Raw) ⟨num_Writer_Count_s, num_Writer_Raw_s, trivial⟩) Tryz.func94 (by kernel_rfl) (num_Writer_Text_qe num_Writer_Count num_Writer_Raw)

/-! 49: (sealchain/vote.voted).bytes -/
abbrev N_vote_voted_bytes : FuncId := 49
def L49 (f93 : V → M) (f90 : M) (f91 : V → V → V → M) (f92 : V → V → M) (f94 : V → V → M) (f89 : V → M) : List (Nat × (List V → M)) := [(93, F1 f93), (90, F0 f90), (91, F3 f91), (92, F2 f92), (94, F2 f94), (89, F1 f89)]
def E49 (f93 : V → M) (f90 : M) (f91 : V → V → V → M) (f92 : V → V → M) (f94 : V → V → M) (f89 : V → M) : Env := ⟨ty, tabC (L49 f93 f90 f91 f92 f94 f89), meth, tabL [], tabL []⟩
noncomputable def vote_voted_bytes_q (f93 : V → M) (f90 : M) (f91 : V → V → V → M) (f92 : V → V → M) (f94 : V → V → M) (f89 : V → M) (t0 : V) : M := fun s K =>
 ((boxV t0) s fun t1 s =>
 (optK (fp 1 t1) s fun t6 s => ((ldA 3 t6) s fun t7 s =>
 ((f93 t7) s fun t8 s =>
 (optK (extractV t8 0) s fun t9 s => (optK (extractV t8 1) s fun t10 s => ((f90) s fun t11 s1 =>
 ((f91 t11 (V.int .i64 1) (V.int .i64 2)) s1 fun t12 s2 =>
 (optK (fp 0 t1) s2 fun t13 s2 => ((ld1 t13) s2 fun t14 s3 =>
 (chkB (holds ti3 t13 s1 t14) (chkB (holds ti3 t13 s t14) ((f92 t12 t14) s3 fun t15 s4 =>
 ((f94 t15 t9) s4 fun t17 s5 =>
 ((f89 t17) s5 fun t18 s6 =>
 (K t18 s6))))))))))))))))
noncomputable def vote_voted_bytes : V → M := vote_voted_bytes_q pack_BytesConf num_Write num_Writer_Num num_Writer_Count num_Writer_Text vote_written
theorem vote_voted_bytes_qe (f93 : V → M) (f90 : M) (f91 : V → V → V → M) (f92 : V → V → M) (f94 : V → V → M) (f89 : V → M) (t0 : V) : vote_voted_bytes_q f93 f90 f91 f92 f94 f89 t0 = evF (E49 f93 f90 f91 f92 f94 f89) Tryz.f49 [t0] := by kernel_rfl
theorem vote_voted_bytes_s : SP Tryz.prog 49 (F1 vote_voted_bytes) := mk1 (mkEnv tab (L := L49 pack_BytesConf num_Write num_Writer_Num num_Writer_Count num_Writer_Text vote_written) ⟨pack_BytesConf_s, num_Write_s, num_Writer_Num_s, num_Writer_Count_s, num_Writer_Text_s, vote_written_s, trivial⟩) Tryz.func49 (by kernel_rfl) (vote_voted_bytes_qe pack_BytesConf num_Write num_Writer_Num num_Writer_Count num_Writer_Text vote_written)

/-! 45: (*sealchain/vote.Voter).writes -/
abbrev N_vote_Voter_writes : FuncId := 45
def L45 (f85 : V → V → M) (f36 : V → V → M) (f47 : V → M) (f48 : V → M) (f49 : V → M) : List (Nat × (List V → M)) := [(85, F2 f85), (36, F2 f36), (47, F1 f47), (48, F1 f48), (49, F1 f49)]
def E45 (f85 : V → V → M) (f36 : V → V → M) (f47 : V → M) (f48 : V → M) (f49 : V → M) : Env := ⟨ty, tabC (L45 f85 f36 f47 f48 f49), meth, tabL [], tabL []⟩
noncomputable def vote_Voter_writes_q (f85 : V → V → M) (f36 : V → V → M) (f47 : V → M) (f48 : V → M) (f49 : V → M) (t0 t1 : V) : M := fun s K =>
 (optK (nilV t0) s fun t7 s => (optK (fp 0 t7) s fun t8 s => ((ld1 t8) s fun t9 s1 =>
 ((invV (E45 f85 f36 f47 f48 f49) t1 "sealchain/vote.bytes" []) s1 fun t11 s2 =>
 (chkB (holds ti66 t8 s2 t9) ((bsl 1 [(V.slice none 0 0 true)] 1 [(0, t11)]) s2 fun t12 s3 =>
 (chkB (holds ti66 t8 s3 t9) ((f85 t9 t12) s3 fun t13 s4 =>
 (optK (binV .neq (some (Kd.int .i64)) true t13 (V.int .i64 0)) s4 fun t15 s4 => (condV t15
 (K t13 s4)
 ((f36 t0 t1) s4 fun t19 s4 =>
 (K (V.int .i64 0) s4))))))))))))
noncomputable def vote_Voter_writes : V → V → M := vote_Voter_writes_q wal_Log_Add vote_Voter_does vote_promise_bytes vote_floored_bytes vote_voted_bytes
theorem vote_Voter_writes_qe (f85 : V → V → M) (f36 : V → V → M) (f47 : V → M) (f48 : V → M) (f49 : V → M) (t0 t1 : V) : vote_Voter_writes_q f85 f36 f47 f48 f49 t0 t1 = evF (E45 f85 f36 f47 f48 f49) Tryz.f45 [t0, t1] := by kernel_rfl
theorem vote_Voter_writes_s : SP Tryz.prog 45 (F2 vote_Voter_writes) := mk2 (mkEnv tab (L := L45 wal_Log_Add vote_Voter_does vote_promise_bytes vote_floored_bytes vote_voted_bytes) ⟨wal_Log_Add_s, vote_Voter_does_s, vote_promise_bytes_s, vote_floored_bytes_s, vote_voted_bytes_s, trivial⟩) Tryz.func45 (by kernel_rfl) (vote_Voter_writes_qe wal_Log_Add vote_Voter_does vote_promise_bytes vote_floored_bytes vote_voted_bytes)

/-! 119: maps.Keys[map[int]sealchain/api.Vote,int,sealchain/api.Vote]$1 -/
abbrev N_maps_Keys_mapIapi_Vote_int_api_Vote_1 : FuncId := 119
def L119 : List (Nat × (List V → M)) := []
def E119 : Env := ⟨ty, tabC (L119), meth, tabL [(1, [0, 5])], tabL [(1, [])]⟩
noncomputable def maps_Keys_mapIapi_Vote_int_api_Vote_1_L1 (t0 t5 : V) : AS → KX → Prop := fun s K =>
 ((nextM t5) s fun t6 s =>
 (optK (extractV t6 0) s fun t7 s => (condV t7
 ((entryM t5) s fun t8 s =>
 (optK (extractV t8 0) s fun t9 s => ((callV (E119) t0 [t9]) s fun t12 s =>
 (optK (unV .not t12) s fun t13 s => (condV t13
 (K .ret [V.junk, V.junk, V.junk, V.junk, V.junk, V.junk, V.junk, V.junk, V.junk, V.junk, V.junk, V.junk, V.junk, V.junk] s)
 (K .nrm [t0, V.junk, V.junk, V.junk, V.junk, t5, V.junk, V.junk, V.junk, V.junk, V.junk, V.junk, V.junk, V.junk] s))))))
 (K (.exit 0) [V.junk, V.junk, V.junk, V.junk, V.junk, V.junk, V.junk, V.junk, V.junk, V.junk, V.junk, V.junk, V.junk, V.junk] s))))
noncomputable def maps_Keys_mapIapi_Vote_int_api_Vote_1_q (t0 t1 : V) : M := fun s K =>
 ((ld1 t1) s fun t4 s =>
 ((rangeM t4) s fun t5 s =>
 (loopN LOOPS (fun tm s K => maps_Keys_mapIapi_Vote_int_api_Vote_1_L1 (tm.getD 0 .junk) (tm.getD 5 .junk) s K) [t0, V.junk, V.junk, V.junk, V.junk, t5, V.junk, V.junk, V.junk, V.junk, V.junk, V.junk, V.junk, V.junk] s (fun e tm s => exX e (fun j1 => (exB (j1 == 0)
 (K (V.tuple []) s)
 False)) (K (V.tuple []) s)))))
noncomputable def maps_Keys_mapIapi_Vote_int_api_Vote_1 : V → V → M := maps_Keys_mapIapi_Vote_int_api_Vote_1_q
theorem maps_Keys_mapIapi_Vote_int_api_Vote_1_qe (t0 t1 : V) : maps_Keys_mapIapi_Vote_int_api_Vote_1_q t0 t1 = evF (E119) Tryz.f119 [t0, t1] := by kernel_rfl
theorem maps_Keys_mapIapi_Vote_int_api_Vote_1_s : SP Tryz.prog 119 (F2 maps_Keys_mapIapi_Vote_int_api_Vote_1) := mk2 (mkEnv tab (L := L119) trivial) Tryz.func119 (by kernel_rfl) (maps_Keys_mapIapi_Vote_int_api_Vote_1_qe)

/-! 87: maps.Keys[map[int]sealchain/api.Vote,int,sealchain/api.Vote] -/
abbrev N_maps_Keys_mapIapi_Vote_int_api_Vote : FuncId := 87
def L87 (f119 : V → V → M) : List (Nat × (List V → M)) := [(119, F2 f119)]
def E87 (f119 : V → V → M) : Env := ⟨ty, tabC (L87 f119), meth, tabL [], tabL []⟩
noncomputable def maps_Keys_mapIapi_Vote_int_api_Vote_q (f119 : V → V → M) (t0 : V) : M := fun s K =>
 ((boxV t0) s fun t1 s =>
 (K (V.func (.func 119) [] [t1]) s))
noncomputable def maps_Keys_mapIapi_Vote_int_api_Vote : V → M := maps_Keys_mapIapi_Vote_int_api_Vote_q maps_Keys_mapIapi_Vote_int_api_Vote_1
theorem maps_Keys_mapIapi_Vote_int_api_Vote_qe (f119 : V → V → M) (t0 : V) : maps_Keys_mapIapi_Vote_int_api_Vote_q f119 t0 = evF (E87 f119) Tryz.f87 [t0] := by kernel_rfl
theorem maps_Keys_mapIapi_Vote_int_api_Vote_s : SP Tryz.prog 87 (F1 maps_Keys_mapIapi_Vote_int_api_Vote) := mk1 (mkEnv tab (L := L87 maps_Keys_mapIapi_Vote_int_api_Vote_1) ⟨maps_Keys_mapIapi_Vote_int_api_Vote_1_s, trivial⟩) Tryz.func87 (by kernel_rfl) (maps_Keys_mapIapi_Vote_int_api_Vote_qe maps_Keys_mapIapi_Vote_int_api_Vote_1)

/-! 88: cmp.Compare[int] -/
abbrev N_cmp_CompareI : FuncId := 88
def L88 (f120 : V → M) : List (Nat × (List V → M)) := [(120, F1 f120)]
def E88 (f120 : V → M) : Env := ⟨ty, tabC (L88 f120), meth, tabL [], tabL []⟩
noncomputable def cmp_CompareI_q (f120 : V → M) (t0 t1 : V) : M := fun s K =>
 ((f120 t0) s fun t8 s =>
 ((f120 t1) s fun t10 s =>
 (condV t8
 (condV t10
 (K (V.int .i64 0) s)
 (K (V.int .i64 (-1)) s))
 (condV t10
 (K (V.int .i64 1) s)
 (optK (binV .lss (some (Kd.int .i64)) false t0 t1) s fun t16 s => (condV t16
 (K (V.int .i64 (-1)) s)
 (optK (binV .gtr (some (Kd.int .i64)) false t0 t1) s fun t19 s => (condV t19
 (K (V.int .i64 1) s)
 (K (V.int .i64 0) s)))))))))
noncomputable def cmp_CompareI : V → V → M := cmp_CompareI_q cmp_isNaNI
theorem cmp_CompareI_qe (f120 : V → M) (t0 t1 : V) : cmp_CompareI_q f120 t0 t1 = evF (E88 f120) Tryz.f88 [t0, t1] := by kernel_rfl
theorem cmp_CompareI_s : SP Tryz.prog 88 (F2 cmp_CompareI) := mk2 (mkEnv tab (L := L88 cmp_isNaNI) ⟨cmp_isNaNI_s, trivial⟩) Tryz.func88 (by kernel_rfl) (cmp_CompareI_qe cmp_isNaNI)
end Go.Proofs.Vt
