/- A part of the proofs of the Vote laws: what is forgotten, as rows. -/
import Derived.Test.YtlmjmjpohjdogaaGreatDoorLawGen
import Derived.Test.YtlmjmjpohjdogaaGreatDoorCF
set_option linter.unusedVariables false
set_option linter.unusedSimpArgs false
/- What is forgotten, as rows: plain facts. -/
namespace Go.Proofs.Vt
open Go Go.Rx Go.Proofs
variable {G : Nat → Option (List V)}

/-! ### plain facts -/
theorem sorted_eq : ∀ {l k : List Vo}, l.Perm k → l.Pairwise (fun a b => numOf a < numOf b) → k.Pairwise (fun a b => numOf a < numOf b) → l = k
  | [], k, h, _, _ => (List.Perm.nil_eq h)
  | a :: l, [], h, _, _ => by have := h.length_eq; simp at this
  | a :: l, b :: k, h, hl, hk => by
    have hab : a = b := by
      have ha : a ∈ b :: k := h.mem_iff.1 (List.mem_cons_self ..)
      have hb : b ∈ a :: l := h.mem_iff.2 (List.mem_cons_self ..)
      rcases List.mem_cons.1 ha with e | ha
      · exact e
      · rcases List.mem_cons.1 hb with e | hb
        · exact e.symm
        · have h1 := (List.pairwise_cons.1 hl).1 b hb
          have h2 := (List.pairwise_cons.1 hk).1 a ha
          omega
    subst hab
    rw [sorted_eq (List.Perm.cons_inv h) (List.pairwise_cons.1 hl).2 (List.pairwise_cons.1 hk).2]

/-- What is told from a number on, of what is told from an earlier number on. -/
theorem told_filter {vs ws us : List Vo} {f n : Nat} (hw : Told vs f ws) (hfn : f ≤ n) (hu : Told (vs.filter fun x => decide (n ≤ numOf x)) n us) : us = ws.filter fun x => decide (n ≤ numOf x) := by
  refine sorted_eq ?_ hu.up (hw.up.sublist List.filter_sublist)
  refine hu.perm.trans ?_
  have h1 := hw.perm.filter (fun x => decide (n ≤ numOf x))
  have e1 : (vs.filter fun x => decide (n ≤ numOf x)).filter (fun x => decide (n ≤ numOf x)) = vs.filter fun x => decide (n ≤ numOf x) := by
    rw [List.filter_filter]; congr 1; funext x; simp
  have e2 : (vs.filter fun x => decide (f ≤ numOf x)).filter (fun x => decide (n ≤ numOf x)) = vs.filter fun x => decide (n ≤ numOf x) := by
    rw [List.filter_filter]; congr 1; funext x
    by_cases hx : n ≤ numOf x
    · simp [hx]; omega
    · simp [hx]
  rw [e2] at h1
  rw [e1]
  exact h1.symm

theorem putVo_new {vs : List Vo} {x : Vo} (h : ∀ y ∈ vs, numOf y ≠ numOf x) : putVo vs x = vs ++ [x] := by
  unfold putVo
  rw [if_neg]
  rintro ⟨y, hy, e⟩
  exact h y hy e

/-- Votes of different numbers are put back. -/
theorem run_votes : ∀ (ws : List Vo) (p f : Nat) (vs : List Vo), (∀ x ∈ ws, f ≤ numOf x) → (∀ x ∈ ws, x.b ≤ p) → ((vs ++ ws).map numOf).Nodup → (vs ++ ws).length ≤ 8 → Vst.run ⟨p, f, vs⟩ (ws.map Deed.V) = some ⟨p, f, vs ++ ws⟩
  | [], p, f, vs, _, _, _, _ => by rw [List.append_nil]; rfl
  | x :: ws, p, f, vs, hf, hp, hn, hl => by
    have hne : ∀ y ∈ vs, numOf y ≠ numOf x := fun y hy e => by
      rw [List.map_append, List.map_cons, List.nodup_append] at hn
      exact hn.2.2 (numOf y) (List.mem_map_of_mem hy) (numOf x) (List.mem_cons_self ..) e
    have e1 := putVo_new hne
    have hroom : roomF vs (numOf x) = true := by
      unfold roomF
      have : vs.length < 8 := by rw [List.length_append, List.length_cons] at hl; omega
      rw [decide_eq_true this, Bool.or_true]
    have hst : Vst.step ⟨p, f, vs⟩ (.V x) = some ⟨p, f, vs ++ [x]⟩ := by
      have h1 := hf x (List.mem_cons_self ..)
      have h2 := hp x (List.mem_cons_self ..)
      show (if f ≤ numOf x ∧ roomF vs (numOf x) = true then some (⟨max p x.b, f, putVo vs x⟩ : Vst) else none) = _
      rw [if_pos ⟨h1, hroom⟩, e1, Nat.max_eq_left h2]
    have ih := run_votes ws p f (vs ++ [x]) (fun y hy => hf y (List.mem_cons_of_mem _ hy)) (fun y hy => hp y (List.mem_cons_of_mem _ hy)) (by rw [List.append_assoc]; exact hn) (by rw [List.append_assoc]; exact hl)
    rw [List.map_cons]
    show (match Vst.step ⟨p, f, vs⟩ (.V x) with | some t' => t'.run (ws.map Deed.V) | none => none) = _
    rw [hst]
    dsimp only
    rw [ih, List.append_assoc]; rfl

theorem run_forgot {p f : Nat} {ws : List Vo} (hf : ∀ x ∈ ws, f ≤ numOf x) (hp : ∀ x ∈ ws, x.b ≤ p) (hn : (ws.map numOf).Nodup) (hl : ws.length ≤ 8) :
    Vst.run ⟨0, 0, []⟩ ((if 0 < p then [Deed.P p] else []) ++ [Deed.F f] ++ ws.map Deed.V) = some ⟨p, f, ws⟩ := by
  have h1 := run_votes ws p f [] hf hp (by simpa using hn) (by simpa using hl)
  rw [List.nil_append] at h1
  by_cases h0 : 0 < p
  · rw [if_pos h0]
    show Vst.run ⟨max 0 p, max 0 f, []⟩ (ws.map Deed.V) = _
    rw [Nat.zero_max, Nat.zero_max, h1]
  · have : p = 0 := by omega
    subst this
    rw [if_neg h0]
    show Vst.run ⟨0, max 0 f, []⟩ (ws.map Deed.V) = _
    rw [Nat.zero_max, h1]

/-- What votes may be after some were accepted. -/
structure Few (vs : List Vo) (p : Nat) : Prop where
  num : ∀ x ∈ vs, 1 ≤ numOf x ∧ numOf x ≤ 8
  b : ∀ x ∈ vs, x.b ≤ p
theorem Few.put {vs : List Vo} {p : Nat} (h : Few vs p) {x : Vo} (hp : p ≤ x.b) (hn : 1 ≤ numOf x ∧ numOf x ≤ 8) : Few (putVo vs x) x.b := by
  refine ⟨fun y hy => ?_, fun y hy => ?_⟩
  · rcases putVo_mem hy with rfl | hy
    · exact hn
    · exact h.num y hy
  · rcases putVo_mem hy with rfl | hy
    · exact Nat.le_refl _
    · exact Nat.le_trans (h.b y hy) hp

def forgDs (p below : Nat) (ws : List Vo) : List Deed := (if 0 < p then [Deed.P p] else []) ++ [Deed.F below] ++ ws.map Deed.V
theorem forgDs_row (p below : Nat) (ws : List Vo) : (forgDs p below ws).map Deed.row = (if 0 < p then [rowP p] else []) ++ [rowF below] ++ ws.map rowV := by
  unfold forgDs
  by_cases h : 0 < p
  · rw [if_pos h, if_pos h, List.map_append, List.map_append, List.map_map]; rfl
  · rw [if_neg h, if_neg h, List.map_append, List.map_append, List.map_map]; rfl
theorem forgDs_ok {p below : Nat} {ws : List Vo} (hp : p ≤ 9007199254740991) (hb : 1 ≤ below ∧ below ≤ 9007199254740991) (hw : ∀ x ∈ ws, x.ok) : ∀ x ∈ forgDs p below ws, x.ok := by
  intro x hx
  unfold forgDs at hx
  rw [List.mem_append, List.mem_append] at hx
  rcases hx with (hx | hx) | hx
  · by_cases h : 0 < p
    · rw [if_pos h] at hx
      rw [List.mem_singleton.1 hx]; exact ⟨by omega, hp⟩
    · rw [if_neg h] at hx; simp at hx
  · rw [List.mem_singleton.1 hx]; exact hb
  · obtain ⟨y, hy, rfl⟩ := List.mem_map.1 hx
    exact hw y hy
theorem forgDs_len (p below : Nat) (ws : List Vo) : (forgDs p below ws).length ≤ ws.length + 2 := by
  unfold forgDs
  by_cases h : 0 < p
  · rw [if_pos h]; simp
  · rw [if_neg h]; simp
end Go.Proofs.Vt
