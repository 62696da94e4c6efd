/- A part of the proofs of the Vote laws: what they share; arguments that are rows. -/
import Derived.Test.YtlmjmjpohjdogaaGreatDoorCE
import Derived.Test.YtlmjmjpohjdogaaGreatDoorRxD
set_option linter.unusedVariables false
set_option linter.unusedSimpArgs false
section
/- The Vote laws: what they share. -/
namespace Go.Proofs.Vt
open Go Go.Rx Go.Proofs
variable {G : Nat → Option (List V)}

theorem old_ld {s : AS} {b o : Nat} {cs : List V} {v : V} {l : List HP} (h : Hs G l s) (hb : G b = some cs) (hv : cs[o]? = some v) (K : K0) : ld1 (.ptr (some ⟨.old b, o⟩)) s K = K v s := by
  simp only [ld1, ldC, cellsAt, h.old, hb, hv, optK_some]
theorem bin_bool_neq (c : Bool) (a b : Bool) : binV .neq (some Kd.bool) c (.bool a) (.bool b) = some (.bool (a != b)) := by simp [binV, eqV, bothNil]; cases a <;> cases b <;> rfl

def nV (n : Nat) : V := .int .i64 n
abbrev arr (B : List Nat) : AObj := .cells (B.map nV) 0
end Go.Proofs.Vt
end
section
/- Arguments that are rows of ints. -/
namespace Go.Proofs.Vt
open Go Go.Rx Go.Proofs

end Go.Proofs.Vt
end
