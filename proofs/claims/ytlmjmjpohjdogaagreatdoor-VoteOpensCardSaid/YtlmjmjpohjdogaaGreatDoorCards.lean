/-
  DERIVED. GIVEN WITH THE SEED: THE CARDS: each row of YtlmjmjpohjdogaaGreatDoorRows.lean that lists a variable, with what it lists TIED to the program's text (the seventh form; the later family's looks); each row that meets fmt, with fmt's text TOLD by the authors' own Lean function (tested against real Go, not proved from fmt's source: count such statements apart). THE CARD IS WHAT COUNTS. Prove the row's statement (the work); the ties are given (YtlmjmjpohjdogaaGreatDoorTie.lean); close each card by the builder's one call (the guide's Derived/Test/ToyasCard.lean, 'card_holds'). Laid BY PROGRAM, IN A SANDBOX (cutbox-door.mjs). By AI agents, Wed Nov 11 2026. No macro, syntax, notation, axiom, sorry.
-/
import Derived.Test.YtlmjmjpohjdogaaGreatDoorRows
import GoSem.ClaimSeven
namespace Go.Proofs.YtlmjmjpohjdogaaGreatDoor
namespace Rows

/-- THE TIED CARD OF 'sealchainlaw15.VoteTells'. -/
def voteTellsCard : Claim7 := { stood := { row := voteTellsRow, standIns := [], harness := (true, "43383747c55abca04db9919f5daaccc70973b467b706ea5595b8690adcf914d7"), looks := true }, kinds := [], alts := [], laidByText := true, laidKinds := [.data, .data], laidTests := true, laidLooks := .later }
def VoteTellsCardSaid : Prop := Claim7.holds Tryz.pinned (.plain (OpenSpec.ofChange voteTellsSpec)) voteTellsCard

/-- THE TIED CARD OF 'sealchainlaw15.VoteForgets'. -/
def voteForgetsCard : Claim7 := { stood := { row := voteForgetsRow, standIns := [], harness := (true, "43383747c55abca04db9919f5daaccc70973b467b706ea5595b8690adcf914d7"), looks := true }, kinds := [], alts := [], laidByText := true, laidKinds := [.data, .data], laidTests := true, laidLooks := .later }
def VoteForgetsCardSaid : Prop := Claim7.holds Tryz.pinned (.plain (OpenSpec.ofChange voteForgetsSpec)) voteForgetsCard

/-- THE TIED CARD OF 'sealchainlaw15.VoteOpens'. -/
def voteOpensCard : Claim7 := { stood := { row := voteOpensRow, standIns := [], harness := (true, "43383747c55abca04db9919f5daaccc70973b467b706ea5595b8690adcf914d7"), looks := true }, kinds := [], alts := [], laidByText := true, laidKinds := [.data, .data], laidTests := true, laidLooks := .later }
def VoteOpensCardSaid : Prop := Claim7.holds Tryz.pinned (.plain (OpenSpec.ofChange voteOpensSpec)) voteOpensCard

/-- THE TIED CARD OF 'sealchainlaw15.VoteNames'. -/
def voteNamesCard : Claim7 := { stood := { row := voteNamesRow, standIns := [], harness := (true, "43383747c55abca04db9919f5daaccc70973b467b706ea5595b8690adcf914d7"), looks := true }, kinds := [], alts := [], laidByText := true, laidKinds := [.data, .data], laidTests := true, laidLooks := .later }
def VoteNamesCardSaid : Prop := Claim7.holds Tryz.pinned (.plain (OpenSpec.ofChange voteNamesSpec)) voteNamesCard

/-- THE TIED CARD OF 'sealchainlaw15.VoteLasts'. -/
def voteLastsCard : Claim7 := { stood := { row := voteLastsRow, standIns := [], harness := (true, "43383747c55abca04db9919f5daaccc70973b467b706ea5595b8690adcf914d7"), looks := true }, kinds := [], alts := [], laidByText := true, laidKinds := [.data, .data], laidTests := true, laidLooks := .later }
def VoteLastsCardSaid : Prop := Claim7.holds Tryz.pinned (.plain (OpenSpec.ofChange voteLastsSpec)) voteLastsCard

/-- THE SECOND FORM's CARD OF 'sealchainlaw15.VoteTells'. -/
def voteTellsUptoCard : Claim7 := { stood := { row := voteTellsUptoRow, standIns := [], harness := (true, "43383747c55abca04db9919f5daaccc70973b467b706ea5595b8690adcf914d7"), looks := true }, kinds := [], alts := [], laidByText := true, laidKinds := [.data, .data], laidTests := true, laidLooks := .later }
def VoteTellsUptoCardSaid : Prop := Claim7.holds Tryz.pinned (.plain (OpenSpec.upto voteTellsSpec)) voteTellsUptoCard

/-- THE SECOND FORM's CARD OF 'sealchainlaw15.VoteForgets'. -/
def voteForgetsUptoCard : Claim7 := { stood := { row := voteForgetsUptoRow, standIns := [], harness := (true, "43383747c55abca04db9919f5daaccc70973b467b706ea5595b8690adcf914d7"), looks := true }, kinds := [], alts := [], laidByText := true, laidKinds := [.data, .data], laidTests := true, laidLooks := .later }
def VoteForgetsUptoCardSaid : Prop := Claim7.holds Tryz.pinned (.plain (OpenSpec.upto voteForgetsSpec)) voteForgetsUptoCard

/-- THE SECOND FORM's CARD OF 'sealchainlaw15.VoteOpens'. -/
def voteOpensUptoCard : Claim7 := { stood := { row := voteOpensUptoRow, standIns := [], harness := (true, "43383747c55abca04db9919f5daaccc70973b467b706ea5595b8690adcf914d7"), looks := true }, kinds := [], alts := [], laidByText := true, laidKinds := [.data, .data], laidTests := true, laidLooks := .later }
def VoteOpensUptoCardSaid : Prop := Claim7.holds Tryz.pinned (.plain (OpenSpec.upto voteOpensSpec)) voteOpensUptoCard

/-- THE SECOND FORM's CARD OF 'sealchainlaw15.VoteNames'. -/
def voteNamesUptoCard : Claim7 := { stood := { row := voteNamesUptoRow, standIns := [], harness := (true, "43383747c55abca04db9919f5daaccc70973b467b706ea5595b8690adcf914d7"), looks := true }, kinds := [], alts := [], laidByText := true, laidKinds := [.data, .data], laidTests := true, laidLooks := .later }
def VoteNamesUptoCardSaid : Prop := Claim7.holds Tryz.pinned (.plain (OpenSpec.upto voteNamesSpec)) voteNamesUptoCard

/-- THE SECOND FORM's CARD OF 'sealchainlaw15.VoteLasts'. -/
def voteLastsUptoCard : Claim7 := { stood := { row := voteLastsUptoRow, standIns := [], harness := (true, "43383747c55abca04db9919f5daaccc70973b467b706ea5595b8690adcf914d7"), looks := true }, kinds := [], alts := [], laidByText := true, laidKinds := [.data, .data], laidTests := true, laidLooks := .later }
def VoteLastsUptoCardSaid : Prop := Claim7.holds Tryz.pinned (.plain (OpenSpec.upto voteLastsSpec)) voteLastsUptoCard
end Rows
end Go.Proofs.YtlmjmjpohjdogaaGreatDoor
