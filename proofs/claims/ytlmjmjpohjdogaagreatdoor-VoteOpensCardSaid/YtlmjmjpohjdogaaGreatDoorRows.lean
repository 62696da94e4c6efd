/-
  NARROWER THAN 'FOR EVERY INPUT', by the rows' own cells (each row's printed sentence says how): VoteTells: laid · VoteForgets: laid · VoteOpens: laid · VoteNames: laid · VoteLasts: laid.
  DERIVED. THE GIVEN ROWS OF THIS SEAT. 5 by the template 'for every input the law returns true; each argument reads behind the call as it read before'; 0 by the template 'total and deterministic' (their statements: YtlmjmjpohjdogaaGreatDoorTotals.lean).
  GIVEN WITH THE SEED: the statements are not yours to turn. If you find one false, say at which input.
  Laid BY PROGRAM, IN A SANDBOX (cutbox-rows.mjs): the forced cells as the released guide's own fill.sh prints them over the translation 4574de0483dfbf77… (all of the seat's roots in one cut). By AI agents, Wed Nov 11 2026. No macro, syntax, notation, axiom, sorry.
-/
import Derived.Test.YtlmjmjpohjdogaaGreatDoorChecked
import GoSem.Claim
import GoSem.ClaimJoined
import GoSem.ClaimMapViews
import Derived.JoinedTies
import Derived.KernelRfl
namespace Go.Proofs.YtlmjmjpohjdogaaGreatDoor
/- THE CELL 'sum', in the pinned program and in every row, IS THE sha256 OF THE DUMP (.gsa) THAT YtlmjmjpohjdogaaGreatDoorProg.lean LOADS. Nothing in Lean hashes anything: it is a label: what it is worth is what the hold of that sum in a sandbox is worth. -/
noncomputable def Tryz.pinned : Pinned := { name := "ytlmjmjpohjdogaagreatdoor", sum := "4574de0483dfbf77fd4a8b18e35b4dd63fe33dc4fd2b3452bb2009fcb1116064", checked := Tryz.checked }
namespace Rows
def none {H : Type} : Left H := { results := [], args := [] }

/- WHAT THE LISTED PACKAGE-LEVEL VARIABLES READ AS WHEN THE CALL BEGINS. Each datum BY PROGRAM (the guide's laid-datum.mjs) off the statement by which the dump's own 'gosem.cut.vars' lays the variable. In a bare row this is a premise. The card (YtlmjmjpohjdogaaGreatDoorCards.lean) ties it to the program's text. -/
def laid_sealchain_sha_round {H : Type} : DataW H := .agg [.lit (.int .u32 1116352408), .lit (.int .u32 1899447441), .lit (.int .u32 3049323471), .lit (.int .u32 3921009573), .lit (.int .u32 961987163), .lit (.int .u32 1508970993), .lit (.int .u32 2453635748), .lit (.int .u32 2870763221), .lit (.int .u32 3624381080), .lit (.int .u32 310598401), .lit (.int .u32 607225278), .lit (.int .u32 1426881987), .lit (.int .u32 1925078388), .lit (.int .u32 2162078206), .lit (.int .u32 2614888103), .lit (.int .u32 3248222580), .lit (.int .u32 3835390401), .lit (.int .u32 4022224774), .lit (.int .u32 264347078), .lit (.int .u32 604807628), .lit (.int .u32 770255983), .lit (.int .u32 1249150122), .lit (.int .u32 1555081692), .lit (.int .u32 1996064986), .lit (.int .u32 2554220882), .lit (.int .u32 2821834349), .lit (.int .u32 2952996808), .lit (.int .u32 3210313671), .lit (.int .u32 3336571891), .lit (.int .u32 3584528711), .lit (.int .u32 113926993), .lit (.int .u32 338241895), .lit (.int .u32 666307205), .lit (.int .u32 773529912), .lit (.int .u32 1294757372), .lit (.int .u32 1396182291), .lit (.int .u32 1695183700), .lit (.int .u32 1986661051), .lit (.int .u32 2177026350), .lit (.int .u32 2456956037), .lit (.int .u32 2730485921), .lit (.int .u32 2820302411), .lit (.int .u32 3259730800), .lit (.int .u32 3345764771), .lit (.int .u32 3516065817), .lit (.int .u32 3600352804), .lit (.int .u32 4094571909), .lit (.int .u32 275423344), .lit (.int .u32 430227734), .lit (.int .u32 506948616), .lit (.int .u32 659060556), .lit (.int .u32 883997877), .lit (.int .u32 958139571), .lit (.int .u32 1322822218), .lit (.int .u32 1537002063), .lit (.int .u32 1747873779), .lit (.int .u32 1955562222), .lit (.int .u32 2024104815), .lit (.int .u32 2227730452), .lit (.int .u32 2361852424), .lit (.int .u32 2428436474), .lit (.int .u32 2756734187), .lit (.int .u32 3204031479), .lit (.int .u32 3329325298)]
def laid_sealchain_sha_first {H : Type} : DataW H := .agg [.lit (.int .u32 1779033703), .lit (.int .u32 3144134277), .lit (.int .u32 1013904242), .lit (.int .u32 2773480762), .lit (.int .u32 1359893119), .lit (.int .u32 2600822924), .lit (.int .u32 528734635), .lit (.int .u32 1541459225)]

/-- 'sealchainlaw15.VoteTells': WHATEVER THE INPUT: true; the input reads as it did. -/
def voteTellsSpec : ChangeSpec := { name := "voteTells", fn := fun _ => fun
  | [d1, d2] => { results := [.lit (.bool true)], args := [d1, d2] }
  | _ => none }
def voteTellsRow : OpenClaim := { program := "ytlmjmjpohjdogaagreatdoor", sum := "4574de0483dfbf77fd4a8b18e35b4dd63fe33dc4fd2b3452bb2009fcb1116064", func := "sealchain/sealchainlaw15.VoteTells", spec := "voteTells", unfollowed := true, recurses := true, named := ["sealchain/sha.first", "sealchain/sha.round"], apart := false, laid := [("sealchain/sha.round", laid_sealchain_sha_round), ("sealchain/sha.first", laid_sealchain_sha_first)] }
def VoteTellsSaid : Prop := voteTellsRow.holds Tryz.pinned (OpenSpec.ofChange voteTellsSpec)

/-- ITS FALSE NEIGHBOUR: 'it returns false'. Refute it at one input. -/
def voteTellsWrong : ChangeSpec := { name := "voteTells", fn := fun _ => fun
  | [d1, d2] => { results := [.lit (.bool false)], args := [d1, d2] }
  | _ => none }
def VoteTellsWrongFalsely : Prop := voteTellsRow.holds Tryz.pinned (OpenSpec.ofChange voteTellsWrong)

/-- 'sealchainlaw15.VoteForgets': WHATEVER THE INPUT: true; the input reads as it did. -/
def voteForgetsSpec : ChangeSpec := { name := "voteForgets", fn := fun _ => fun
  | [d1, d2] => { results := [.lit (.bool true)], args := [d1, d2] }
  | _ => none }
def voteForgetsRow : OpenClaim := { program := "ytlmjmjpohjdogaagreatdoor", sum := "4574de0483dfbf77fd4a8b18e35b4dd63fe33dc4fd2b3452bb2009fcb1116064", func := "sealchain/sealchainlaw15.VoteForgets", spec := "voteForgets", unfollowed := true, recurses := true, named := ["sealchain/sha.first", "sealchain/sha.round"], apart := false, laid := [("sealchain/sha.round", laid_sealchain_sha_round), ("sealchain/sha.first", laid_sealchain_sha_first)] }
def VoteForgetsSaid : Prop := voteForgetsRow.holds Tryz.pinned (OpenSpec.ofChange voteForgetsSpec)

/-- ITS FALSE NEIGHBOUR: 'it returns false'. Refute it at one input. -/
def voteForgetsWrong : ChangeSpec := { name := "voteForgets", fn := fun _ => fun
  | [d1, d2] => { results := [.lit (.bool false)], args := [d1, d2] }
  | _ => none }
def VoteForgetsWrongFalsely : Prop := voteForgetsRow.holds Tryz.pinned (OpenSpec.ofChange voteForgetsWrong)

/-- 'sealchainlaw15.VoteOpens': WHATEVER THE INPUT: true; the input reads as it did. -/
def voteOpensSpec : ChangeSpec := { name := "voteOpens", fn := fun _ => fun
  | [d] => { results := [.lit (.bool true)], args := [d] }
  | _ => none }
def voteOpensRow : OpenClaim := { program := "ytlmjmjpohjdogaagreatdoor", sum := "4574de0483dfbf77fd4a8b18e35b4dd63fe33dc4fd2b3452bb2009fcb1116064", func := "sealchain/sealchainlaw15.VoteOpens", spec := "voteOpens", unfollowed := true, recurses := true, named := ["sealchain/sha.first", "sealchain/sha.round"], apart := false, laid := [("sealchain/sha.round", laid_sealchain_sha_round), ("sealchain/sha.first", laid_sealchain_sha_first)] }
def VoteOpensSaid : Prop := voteOpensRow.holds Tryz.pinned (OpenSpec.ofChange voteOpensSpec)

/-- ITS FALSE NEIGHBOUR: 'it returns false'. Refute it at one input. -/
def voteOpensWrong : ChangeSpec := { name := "voteOpens", fn := fun _ => fun
  | [d] => { results := [.lit (.bool false)], args := [d] }
  | _ => none }
def VoteOpensWrongFalsely : Prop := voteOpensRow.holds Tryz.pinned (OpenSpec.ofChange voteOpensWrong)

/-- 'sealchainlaw15.VoteNames': WHATEVER THE INPUT: true; the input reads as it did. -/
def voteNamesSpec : ChangeSpec := { name := "voteNames", fn := fun _ => fun
  | [] => { results := [.lit (.bool true)], args := [] }
  | _ => none }
def voteNamesRow : OpenClaim := { program := "ytlmjmjpohjdogaagreatdoor", sum := "4574de0483dfbf77fd4a8b18e35b4dd63fe33dc4fd2b3452bb2009fcb1116064", func := "sealchain/sealchainlaw15.VoteNames", spec := "voteNames", unfollowed := true, recurses := true, named := ["sealchain/sha.first", "sealchain/sha.round"], apart := false, laid := [("sealchain/sha.round", laid_sealchain_sha_round), ("sealchain/sha.first", laid_sealchain_sha_first)] }
def VoteNamesSaid : Prop := voteNamesRow.holds Tryz.pinned (OpenSpec.ofChange voteNamesSpec)

/-- ITS FALSE NEIGHBOUR: 'it returns false'. Refute it at one input. -/
def voteNamesWrong : ChangeSpec := { name := "voteNames", fn := fun _ => fun
  | [] => { results := [.lit (.bool false)], args := [] }
  | _ => none }
def VoteNamesWrongFalsely : Prop := voteNamesRow.holds Tryz.pinned (OpenSpec.ofChange voteNamesWrong)

/-- 'sealchainlaw15.VoteLasts': WHATEVER THE INPUT: true; the input reads as it did. -/
def voteLastsSpec : ChangeSpec := { name := "voteLasts", fn := fun _ => fun
  | [d] => { results := [.lit (.bool true)], args := [d] }
  | _ => none }
def voteLastsRow : OpenClaim := { program := "ytlmjmjpohjdogaagreatdoor", sum := "4574de0483dfbf77fd4a8b18e35b4dd63fe33dc4fd2b3452bb2009fcb1116064", func := "sealchain/sealchainlaw15.VoteLasts", spec := "voteLasts", unfollowed := true, recurses := true, named := ["sealchain/sha.first", "sealchain/sha.round"], apart := false, laid := [("sealchain/sha.round", laid_sealchain_sha_round), ("sealchain/sha.first", laid_sealchain_sha_first)] }
def VoteLastsSaid : Prop := voteLastsRow.holds Tryz.pinned (OpenSpec.ofChange voteLastsSpec)

/-- ITS FALSE NEIGHBOUR: 'it returns false'. Refute it at one input. -/
def voteLastsWrong : ChangeSpec := { name := "voteLasts", fn := fun _ => fun
  | [d] => { results := [.lit (.bool false)], args := [d] }
  | _ => none }
def VoteLastsWrongFalsely : Prop := voteLastsRow.holds Tryz.pinned (OpenSpec.ofChange voteLastsWrong)

/- THE SECOND FORM. 'bulk': how many values and letters a reading holds, each counted each time it is reached (what is shared counts as often as it is met; a slice's spare places count too). A statement '..UptoSaid' is the law's where the arguments, and the package variables that the reading takes, are together of bulk at most 1048576: NARROWER than '..Said'. Prove '..Said' where nothing that the law and all that it calls make is longer than what came in: it says more and counts as full. Else prove '..UptoSaid'. A law counts once. -/
mutual
def uptoBulk {H : Type} : DataW H → Nat
  | .lit (.string bytes) => bytes.length + 1
  | .lit _ => 1
  | .nil => 1
  | .ptr d => uptoBulk d + 1
  | .slice elems spare => uptoBulkAll elems + uptoBulkAll spare + 1
  | .agg parts => uptoBulkAll parts + 1
  | .iface _ d => uptoBulk d + 1
  | .map entries => uptoBulkEntries entries + 1
  | .held _ => 1
def uptoBulkAll {H : Type} : List (DataW H) → Nat
  | [] => 0
  | d :: r => uptoBulk d + uptoBulkAll r
def uptoBulkEntries {H : Type} : List (Lit × DataW H) → Nat
  | [] => 0
  | x :: r => uptoBulkEntry x + uptoBulkEntries r
def uptoBulkEntry {H : Type} : Lit × DataW H → Nat
  | (.string bytes, d) => bytes.length + uptoBulk d + 1
  | (_, d) => uptoBulk d + 1
 end
def uptoSmall : (H : Type) → List (DataW H) → Bool := fun _ ds => decide (uptoBulkAll ds ≤ 1048576)
def OpenSpec.upto (s : _root_.Go.ChangeSpec) : _root_.Go.OpenSpec := { _root_.Go.OpenSpec.ofChange s with cond := some uptoSmall }

/-- 'sealchainlaw15.VoteTells', WHERE WHAT IT READS IS OF BULK AT MOST 1048576: true; the input reads as it did. -/
def voteTellsUptoRow : OpenClaim := { program := "ytlmjmjpohjdogaagreatdoor", sum := "4574de0483dfbf77fd4a8b18e35b4dd63fe33dc4fd2b3452bb2009fcb1116064", func := "sealchain/sealchainlaw15.VoteTells", spec := "voteTells", unfollowed := true, recurses := true, named := ["sealchain/sha.first", "sealchain/sha.round"], apart := false, laid := [("sealchain/sha.round", laid_sealchain_sha_round), ("sealchain/sha.first", laid_sealchain_sha_first)], narrowed := true }
def VoteTellsUptoSaid : Prop := voteTellsUptoRow.holds Tryz.pinned (OpenSpec.upto voteTellsSpec)

/-- 'sealchainlaw15.VoteForgets', WHERE WHAT IT READS IS OF BULK AT MOST 1048576: true; the input reads as it did. -/
def voteForgetsUptoRow : OpenClaim := { program := "ytlmjmjpohjdogaagreatdoor", sum := "4574de0483dfbf77fd4a8b18e35b4dd63fe33dc4fd2b3452bb2009fcb1116064", func := "sealchain/sealchainlaw15.VoteForgets", spec := "voteForgets", unfollowed := true, recurses := true, named := ["sealchain/sha.first", "sealchain/sha.round"], apart := false, laid := [("sealchain/sha.round", laid_sealchain_sha_round), ("sealchain/sha.first", laid_sealchain_sha_first)], narrowed := true }
def VoteForgetsUptoSaid : Prop := voteForgetsUptoRow.holds Tryz.pinned (OpenSpec.upto voteForgetsSpec)

/-- 'sealchainlaw15.VoteOpens', WHERE WHAT IT READS IS OF BULK AT MOST 1048576: true; the input reads as it did. -/
def voteOpensUptoRow : OpenClaim := { program := "ytlmjmjpohjdogaagreatdoor", sum := "4574de0483dfbf77fd4a8b18e35b4dd63fe33dc4fd2b3452bb2009fcb1116064", func := "sealchain/sealchainlaw15.VoteOpens", spec := "voteOpens", unfollowed := true, recurses := true, named := ["sealchain/sha.first", "sealchain/sha.round"], apart := false, laid := [("sealchain/sha.round", laid_sealchain_sha_round), ("sealchain/sha.first", laid_sealchain_sha_first)], narrowed := true }
def VoteOpensUptoSaid : Prop := voteOpensUptoRow.holds Tryz.pinned (OpenSpec.upto voteOpensSpec)

/-- 'sealchainlaw15.VoteNames', WHERE WHAT IT READS IS OF BULK AT MOST 1048576: true; the input reads as it did. -/
def voteNamesUptoRow : OpenClaim := { program := "ytlmjmjpohjdogaagreatdoor", sum := "4574de0483dfbf77fd4a8b18e35b4dd63fe33dc4fd2b3452bb2009fcb1116064", func := "sealchain/sealchainlaw15.VoteNames", spec := "voteNames", unfollowed := true, recurses := true, named := ["sealchain/sha.first", "sealchain/sha.round"], apart := false, laid := [("sealchain/sha.round", laid_sealchain_sha_round), ("sealchain/sha.first", laid_sealchain_sha_first)], narrowed := true }
def VoteNamesUptoSaid : Prop := voteNamesUptoRow.holds Tryz.pinned (OpenSpec.upto voteNamesSpec)

/-- 'sealchainlaw15.VoteLasts', WHERE WHAT IT READS IS OF BULK AT MOST 1048576: true; the input reads as it did. -/
def voteLastsUptoRow : OpenClaim := { program := "ytlmjmjpohjdogaagreatdoor", sum := "4574de0483dfbf77fd4a8b18e35b4dd63fe33dc4fd2b3452bb2009fcb1116064", func := "sealchain/sealchainlaw15.VoteLasts", spec := "voteLasts", unfollowed := true, recurses := true, named := ["sealchain/sha.first", "sealchain/sha.round"], apart := false, laid := [("sealchain/sha.round", laid_sealchain_sha_round), ("sealchain/sha.first", laid_sealchain_sha_first)], narrowed := true }
def VoteLastsUptoSaid : Prop := voteLastsUptoRow.holds Tryz.pinned (OpenSpec.upto voteLastsSpec)

end Rows
end Go.Proofs.YtlmjmjpohjdogaaGreatDoor
