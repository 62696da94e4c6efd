/- A part of the proofs of the Vote laws: what is forgotten, as rows. -/
import Derived.Test.YtlmjmjpohjdogaaGreatDoorLawGen
import Derived.Test.YtlmjmjpohjdogaaGreatDoorCF
set_option linter.unusedVariables false
set_option linter.unusedSimpArgs false
/- What is forgotten, as rows: plain facts. -/
namespace Go.Proofs.Vt
open Go Go.Rx Go.Proofs
variable {G : Nat → Option (List V)}

/-! ### plain facts -/
theorem sorted_eq : ∀ {l k : List Vo}, l.Perm k → l.Pairwise (fun a b => numOf a < numOf b) → k.Pairwise (fun a b => numOf a < numOf b) → l = k
  | [], k, h, _, _ => (List.Perm.nil_eq h)
  | a :: l, [], h, _, _ => by have := h.length_eq; simp at this
  | a :: l, b :: k, h, hl, hk => by
    have hab : a = b := by
      have ha : a ∈ b :: k := h.mem_iff.1 (List.mem_cons_self ..)
      have hb : b ∈ a :: l := h.mem_iff.2 (List.mem_cons_self ..)
      rcases List.mem_cons.1 ha with e | ha
      · exact e
      · rcases List.mem_cons.1 hb with e | hb
        · exact e.symm
        · have h1 := (List.pairwise_cons.1 hl).1 b hb
          have h2 := (List.pairwise_cons.1 hk).1 a ha
          omega
    subst hab
    rw [sorted_eq (List.Perm.cons_inv h) (List.pairwise_cons.1 hl).2 (List.pairwise_cons.1 hk).2]

theorem putVo_new {vs : List Vo} {x : Vo} (h : ∀ y ∈ vs, numOf y ≠ numOf x) : putVo vs x = vs ++ [x] := by
  unfold putVo
  rw [if_neg]
  rintro ⟨y, hy, e⟩
  exact h y hy e

/-- What votes may be after some were accepted. -/
structure Few (vs : List Vo) (p : Nat) : Prop where
  num : ∀ x ∈ vs, 1 ≤ numOf x ∧ numOf x ≤ 8
  b : ∀ x ∈ vs, x.b ≤ p
theorem Few.put {vs : List Vo} {p : Nat} (h : Few vs p) {x : Vo} (hp : p ≤ x.b) (hn : 1 ≤ numOf x ∧ numOf x ≤ 8) : Few (putVo vs x) x.b := by
  refine ⟨fun y hy => ?_, fun y hy => ?_⟩
  · rcases putVo_mem hy with rfl | hy
    · exact hn
    · exact h.num y hy
  · rcases putVo_mem hy with rfl | hy
    · exact Nat.le_refl _
    · exact Nat.le_trans (h.b y hy) hp

end Go.Proofs.Vt
