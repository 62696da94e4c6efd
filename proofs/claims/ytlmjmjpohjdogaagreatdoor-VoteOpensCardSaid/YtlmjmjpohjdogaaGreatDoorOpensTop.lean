/- Proved: VoteOpens answers true for each input that its statement's guards let in, and leaves its arguments as they were (the given constant Rows.VoteOpensCardSaid). Conditions: those of the card alone; nothing is added. -/
import Derived.Test.YtlmjmjpohjdogaaGreatDoorCards
import Derived.Test.YtlmjmjpohjdogaaGreatDoorTie
import Derived.Test.YtlmjmjpohjdogaaGreatDoorOpensLaw
import Derived.Stop.LaidErr
set_option linter.unusedVariables false
set_option linter.unusedSimpArgs false
/- VoteOpens: for every input the law returns true, and each argument reads behind the call as it read before: with the listed variables tied to the program's text. -/
namespace Go.Proofs.YtlmjmjpohjdogaaGreatDoor.voteOpens
open Go Go.Rx Go.Proofs Go.Proofs.Vt
open Go.ChangeShapes Go.WideShapes Go.ChangeAt Go.RowKit

theorem own : ownKnob Tryz.prog.godebug = none := by kernel_rfl
theorem gRound : Tryz.prog.globalNamed "sealchain/sha.round" = some 1 := by kernel_rfl
theorem gFirst : Tryz.prog.globalNamed "sealchain/sha.first" = some 0 := by kernel_rfl
theorem tRound : (Tryz.prog.globals[1]?).map (·.type) = some 166 := by kernel_rfl
theorem tFirst : (Tryz.prog.globals[0]?).map (·.type) = some 146 := by kernel_rfl
theorem u166 : Tryz.prog.underlying 166 = some (.array 64 145) := by kernel_rfl
theorem u146 : Tryz.prog.underlying 146 = some (.array 8 145) := by kernel_rfl
theorem u145 : Tryz.prog.underlying 145 = some (.int .u32) := by kernel_rfl
theorem c166 : Tryz.prog.cellsOf 166 = 64 := by kernel_rfl
theorem c146 : Tryz.prog.cellsOf 146 = 8 := by kernel_rfl
theorem c145 : Tryz.prog.cellsOf 145 = 1 := by kernel_rfl
theorem u3 : Tryz.prog.underlying 3 = some (.int .i64) := by kernel_rfl
theorem u4 : Tryz.prog.underlying 4 = some .bool := by kernel_rfl
theorem u52 : Tryz.prog.underlying 52 = some (.slice 59) := by kernel_rfl
theorem u59 : Tryz.prog.underlying 59 = some (.slice 5) := by kernel_rfl
theorem u5 : Tryz.prog.underlying 5 = some (.int .u8) := by kernel_rfl
theorem c59 : Tryz.prog.cellsOf 59 = 1 := by kernel_rfl
theorem c5 : Tryz.prog.cellsOf 5 = 1 := by kernel_rfl
theorem laidOut : laidOutB Tryz.prog = true := by kernel_rfl

abbrev laidL : List (String × DataW Unit) := [("sealchain/sha.round", Rows.laid_sealchain_sha_round), ("sealchain/sha.first", Rows.laid_sealchain_sha_first)]
theorem laidEq : laidL = [("sealchain/sha.round", Lib.tabData .u32 (shaRound.map fun x => (x.toNat : Int))), ("sealchain/sha.first", Lib.tabData .u32 (shaFirst.map fun x => (x.toNat : Int)))] := by kernel_rfl
/-- What the condition gives: the package's variables. -/
theorem shaG_of {W : World} (h : laidMetH Tryz.prog laidL W) : ShaG (oldOf W) := by
  rw [laidEq] at h
  have h' : laidMet Tryz.prog [("sealchain/sha.round", Lib.tabData .u32 (shaRound.map fun x => (x.toNat : Int))), ("sealchain/sha.first", Lib.tabData .u32 (shaFirst.map fun x => (x.toNat : Int)))] W := h
  have hr := Lib.tabIs_of_head gRound tRound u166 u145 c145 c166 h'
  have hf := Lib.tabIs_of_head gFirst tFirst u146 u145 c145 c146 h'.tail
  refine ⟨?_, ?_⟩
  · rw [oldOf_var hf gFirst, List.map_map]; rfl
  · rw [oldOf_var hr gRound, List.map_map]; rfl

set_option maxRecDepth 100000 in
theorem contract (H : Type) (enc : TypeId × Value → H) (W : World) (base : Nat) (args : Array Value) (ds gs : List (DataW H)) (before : List MemPlace)
    (hval : ∀ (j : Nat) t v, Tryz.f5.params[j]? = some t → args[j]? = some v → Value.okWide Tryz.prog W .any base t v)
    (hW : DataW.Whole enc Tryz.prog Tryz.f5.params.toList Rows.voteOpensSpec.vars false W args.toList ds gs before) (hL : laidMetH Tryz.prog Rows.voteOpensRow.laid W) :
    Calls Tryz.prog 5 args W fun e W' => ∃ v, e = .returned v ∧ Rows.voteOpensSpec.post enc Tryz.prog Tryz.f5 false true false false W args v W' := by
  have hlt := hW.lt
  have hW' := hW
  obtain ⟨p, q, hA0, hV, rfl, hfz, hnd⟩ := hW
  have hA : DataW.TrodAll enc Tryz.prog W 0 (fun _ => true) true Tryz.f5.params.toList args.toList ds p := hA0
  rw [Tryz.params5] at hA hval
  obtain ⟨v0, vs0, d0, ds0, p0, q0, hargs0, rfl, rfl, h0, r0⟩ := trodAll_cons hA
  obtain ⟨rfl, rfl, rfl⟩ := trodAll_nil r0
  obtain rfl : args = #[v0] := Array.ext' hargs0
  obtain ⟨rfl, rfl⟩ := trodVars_none hV
  have hv0 : Value.okWide Tryz.prog W .any base 52 v0 := hval 0 52 v0 rfl rfl
  obtain ⟨rows, hrows⟩ := argRowsR_of (P := Tryz.prog) (t := 52) (e := 59) (eb := 5) u52 c59 u59 u5 c5 hv0 h0
  have hrun := run_law fn5_s (W := W) (args := [cvV v0]) (args' := #[v0]) (.cons (cvV_ok _ _) .nil)
    (VoteOpens_t (shaG_of hL) hrows (hs0 W) _ fun v s hv => hv.1)
  refine hrun.mono fun e W' ⟨he, hb⟩ => ?_
  subst he
  have hp0 : ∀ x ∈ p0, x.block < W.heap.size := fun x hx => hlt x (by simp [hx])
  have ha : DataW.TrodAll enc Tryz.prog W' 0 (fun b => decide (b < W.heap.size)) true Tryz.f5.params.toList [v0] [d0] (p0 ++ []) := by
    rw [Tryz.params5]
    exact trodAll_cons_mk (Below.trod laidOut (by kernel_rfl) (of_decide_eq_true (by kernel_rfl)) h0 hb hp0) trodAll_mk0
  exact ⟨_, rfl, _, _, _, [], _, [], hW', trodAll_cons_mk (shut_bool u4 _) trodAll_mk0, ha, rfl, hb.frame _, fun h => by cases h⟩

/-- A world for the witness: the settled one, the variables holding what their initialisers lay. -/
def lay (zs : List (BitVec 32)) : Obj → Obj
  | .cells _ t frozen => .cells (zs.map fun x => Value.int .u32 (x.toNat : Int)).toArray t frozen
  | o => o
noncomputable def laidWorld (os : Os) : World :=
  { World.holding Tryz.prog os ⟨#[], #[], []⟩ with heap := (((World.holding Tryz.prog os ⟨#[], #[], []⟩).heap.modify 0 (lay shaFirst)).modify 1 (lay shaRound)) }
abbrev wArgs : Array Value := #[.slice none 0 0]
theorem laid_met (os : Os) : laidMet Tryz.prog Rows.voteOpensRow.laid ((laidWorld os).forCall (fun _ _ => 0) ⟨#[], wArgs, []⟩).memory :=
  laidMet_of_run' 8 (by kernel_rfl) (by kernel_rfl)
theorem reads (os : Os) {H : Type} (enc : TypeId × Value → H) : ∃ places, DataW.whole enc Tryz.prog ((laidWorld os).forCall (fun _ _ => 0) ⟨#[], wArgs, []⟩).memory Tryz.f5.params.toList Rows.voteOpensSpec.vars false wArgs.toList 8 = some ([.nil], [], places) :=
  ⟨[], by kernel_rfl⟩

set_option maxRecDepth 100000 in
theorem lifted (os : Os) (started : os.Started) (H : Type) (enc : TypeId × Value → H) (F : Stop.Interp) :
    ReturnsInHanded {} Tryz.checked os 5 .any ((OpenSpec.ofChange Rows.voteOpensSpec).preRow enc Tryz.prog Tryz.f5 Rows.voteOpensRow.domain false Rows.voteOpensRow.laid) (((OpenSpec.ofChange Rows.voteOpensSpec).at F).post enc Tryz.prog Tryz.f5 false true false false) := by
  obtain ⟨places, hx⟩ := reads os enc
  refine returnsInHanded_of_row (C := Tryz.checked) (s := OpenSpec.ofChange Rows.voteOpensSpec) own started (by kernel_rfl) Tryz.func5
    (witness_row_at (enc := enc) (C := Tryz.checked) false (laidWorld os) wArgs rfl (by kernel_rfl) (by kernel_rfl) (by kernel_rfl)
      (OpenSpec.preRow_of_cond 8 hx (by kernel_rfl) (fun k hk => by cases hk) (by kernel_rfl) (laid_met os))) ?_
  intro W base args ds gs before hval hW _ _ _ hL _ _
  exact contract H enc W base args ds gs before hval hW hL

theorem said : Rows.VoteOpensSaid :=
  OpenClaim.holds_of_cond 5 Tryz.f5 rfl rfl rfl rfl rfl rfl rfl ⟨rfl, rfl, rfl, rfl, rfl⟩ rfl rfl rfl rfl rfl (by kernel_rfl) Tryz.func5 (by kernel_rfl)
    (of_decide_eq_true (by kernel_rfl)) (by unfold Func.isWrapper; first | (rw [if_pos (by decide +kernel)]; kernel_rfl) | (rw [if_neg (by decide +kernel)]; exact ⟨rfl, rfl⟩))
    (fun os started H enc _ F => by rw [OpenClaim.pre_eq_preRow]; exact lifted os started H enc F)

theorem plain (f : FuncId) (fn : Func) (hf : Tryz.pinned.checked.prog.funcNamed "sealchain/sealchainlaw15.VoteOpens" = some f) (hfn : Tryz.pinned.checked.prog.funcs[f]? = some fn) :
    true = Tryz.pinned.checked.prog.looks [] ∧ ∀ (j : Nat) t, fn.params[j]? = some t → Tryz.pinned.checked.prog.wantsStandIn t = false := by
  obtain rfl : f = 5 := Option.some.inj ((show Tryz.prog.funcNamed "sealchain/sealchainlaw15.VoteOpens" = some 5 by kernel_rfl).symm.trans hf) |>.symm
  obtain rfl : fn = Tryz.f5 := (Option.some.inj (Tryz.func5.symm.trans hfn)).symm
  refine ⟨by kernel_rfl, fun j t ht => ?_⟩
  rw [Tryz.params5] at ht
  have : t = 52 := by simpa using Array.mem_of_getElem? ht
  subst this
  exact (show Tryz.prog.wantsStandIn 52 = false by kernel_rfl)

theorem card : Rows.VoteOpensCardSaid :=
  Claim7.holds_tied_plain_at .later [] _ _ _ _ said (fun _ h => by cases h) (by kernel_rfl) (fun _ h => by cases h) voteOpens_row_tie rfl ⟨rfl, rfl⟩ (by kernel_rfl) rfl plain (by kernel_rfl)
end Go.Proofs.YtlmjmjpohjdogaaGreatDoor.voteOpens
#print axioms Go.Proofs.YtlmjmjpohjdogaaGreatDoor.voteOpens.card
