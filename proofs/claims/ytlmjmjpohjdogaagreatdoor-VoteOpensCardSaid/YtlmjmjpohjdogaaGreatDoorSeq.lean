/- A part of the proofs of the Vote laws: slices.Collect over the values of a list of ints and over the keys of a map. -/
import Derived.Test.YtlmjmjpohjdogaaGreatDoorRxC
import Derived.Shelf.SlIterI.Collect
import Derived.RangeFuncBox
import Derived.RangeFuncLeaves
import Derived.WalkKit
import Derived.OwnWalkIn
import Derived.TacticsInMore
import Derived.LoopNIn
import Derived.LoopIn
import Derived.Test.YtlmjmjpohjdogaaGreatDoorProg
import Derived.Test.YtlmjmjpohjdogaaGreatDoorTy
import Derived.Shelf.SlBodiesZ
set_option linter.unusedVariables false
set_option linter.unusedSimpArgs false
section
/- What slices.Collect makes of the values of a list of ints, or of the keys of a map. -/
namespace Go.Rx
open Go

def isInt64 (v : V) : Bool := match v with | .int .i64 z => decide (-9223372036854775808 ≤ z) && decide (z ≤ 9223372036854775807) | _ => false
def intsV (l : List V) : Bool := l.all fun v => match v with | .int .i64 _ => true | _ => false
def zOfV : V → Int | .int _ z => z | _ => 0
structure KeysOk (es : List (V × V × Nat)) (clock : Nat) : Prop where
  ints : ∀ e ∈ es, isInt64 e.1 = true
  keys : (es.map fun e => zOfV e.1).Nodup
  st : (es.map (·.2.2)).Nodup
  lt : ∀ e ∈ es, e.2.2 < clock
  len : es.length ≤ 1000000
def seqRes (l : List V) : M := fun s K => match l with
  | [] => K (.slice none 0 0 true) s
  | x :: r => K (.slice (some ⟨.new s.next, 0⟩) (r.length + 1) (r.length + 1) false) (s.alloc (.cells (x :: r) 1))
def collectX (fv fk f : Nat) (x : V) : M := fun s K =>
  if f = fv then
    (match x with
    | .slice a n c ex => (match srcN 1 n (.slice a n c ex) s with
      | some xs => (intsV xs = true ∧ n ≤ 1000000) ∧ seqRes xs s K
      | none => False)
    | _ => False)
  else if f = fk then
    (match x with
    | .map (some k) => (match s.get k with
      | some (.map es c) => KeysOk es c ∧ ∀ ks : List V, ks.Perm (es.map (·.1)) → seqRes ks s K
      | _ => False)
    | _ => False)
  else False
def collectM (fv fk : Nat) (q : V) : M := fun s K =>
  match q with
  | .func (.func f) [] [.ptr (some ⟨b, 0⟩)] => (match ldC s ⟨b, 0⟩ with
    | some x => collectX fv fk f x s K
    | none => False)
  | _ => False

theorem prd_seqRes (l : List V) : Prd (seqRes l) := by
  constructor
  · intro s K K' hk h; cases l with | nil => exact hk _ _ h | cons x r => exact hk _ _ h
  · intro s K h; cases l with | nil => exact ⟨_, _, h⟩ | cons x r => exact ⟨_, _, h⟩
theorem prd_collectX (fv fk f : Nat) (x : V) : Prd (collectX fv fk f x) := by
  constructor
  · intro s K K' hk h
    unfold collectX at h ⊢
    split at h
    · rename_i e; rw [if_pos e]
      split at h
      · split at h
        · exact ⟨h.1, (prd_seqRes _).mono s K K' hk h.2⟩
        · exact h.elim
      · exact h.elim
    · rename_i e; rw [if_neg e]
      split at h
      · rename_i e2; rw [if_pos e2]
        split at h
        · split at h
          · exact ⟨h.1, fun ks hp => (prd_seqRes ks).mono s K K' hk (h.2 ks hp)⟩
          · exact h.elim
        · exact h.elim
      · exact h.elim
  · intro s K h
    unfold collectX at h
    split at h
    · split at h
      · split at h
        · exact (prd_seqRes _).live s K h.2
        · exact h.elim
      · exact h.elim
    · split at h
      · split at h
        · split at h
          · exact (prd_seqRes _).live s K (h.2 _ (List.Perm.refl _))
          · exact h.elim
        · exact h.elim
      · exact h.elim
theorem prd_collectM (fv fk : Nat) (q : V) : Prd (collectM fv fk q) := by
  constructor
  · intro s K K' hk h
    unfold collectM at h ⊢
    split at h
    · split at h
      · exact (prd_collectX _ _ _ _).mono s K K' hk h
      · exact h.elim
    · exact h.elim
  · intro s K h
    unfold collectM at h
    split at h
    · split at h
      · exact (prd_collectX _ _ _ _).live s K h
      · exact h.elim
    · exact h.elim

/-! ### worlds that grew -/
section
variable {w0 : World} {ρ : Ren} {s : AS} {w w' : World}
theorem Rel.grow (h : Rel w0 ρ s w) (hos : w'.os = w.os) (ht : w'.tape = w.tape) (ho : w'.output = w.output) (hs : w.heap.size ≤ w'.heap.size) (hb : ∀ k, k < w.heap.size → w'.heap[k]? = w.heap[k]?) : Rel w0 ρ s w' := by
  refine ⟨hos.trans h.os, ht.trans h.tape, ho.trans h.output, Nat.le_trans h.size hs, fun b hb' => ?_, h.old, h.dom, fun k b κ hk => ?_, h.inj, fun k o hk => ?_⟩
  · rw [hb b (Nat.lt_of_lt_of_le hb' h.size)]; exact h.frame b hb'
  · have := h.rng k b κ hk; omega
  · obtain ⟨b, c, x', h1, h2, h3⟩ := h.live k o hk
    exact ⟨b, c, x', h1, by rw [hb b (h.rng k b c h1).2]; exact h2, h3⟩
/-- An object of a world that grew is taken up. -/
theorem Rel.adopt (h : Rel w0 ρ s w) (hos : w'.os = w.os) (ht : w'.tape = w.tape) (hout : w'.output = w.output) (hs : w.heap.size ≤ w'.heap.size) (hb : ∀ k, k < w.heap.size → w'.heap[k]? = w.heap[k]?)
    {g κ : Nat} (hg : w.heap.size ≤ g) {o : AObj} {o' : Obj} (hw : w'.heap[g]? = some o') (ho : ORel ρ κ o o') : Ext ρ (ext1 ρ s.next g κ) ∧ Rel w0 (ext1 ρ s.next g κ) (s.alloc o) w' := by
  have hx := h.ext1_ext g κ
  have hgl : g < w'.heap.size := (Array.getElem?_eq_some_iff.1 hw).1
  refine ⟨hx, ⟨hos.trans h.os, ht.trans h.tape, hout.trans h.output, Nat.le_trans h.size hs, fun b hb' => ?_, h.old, ?_, ?_, ?_, ?_⟩⟩
  · rw [hb b (Nat.lt_of_lt_of_le hb' h.size)]; exact h.frame b hb'
  · intro k
    simp only [AS.next_alloc, ext1]
    by_cases hk : k = s.next
    · simp [hk]
    · rw [if_neg hk, ← h.dom k]; omega
  · intro k b c hk
    simp only [ext1] at hk
    by_cases hs' : k = s.next
    · rw [if_pos hs'] at hk; cases hk
      exact ⟨Nat.le_trans h.size hg, hgl⟩
    · rw [if_neg hs'] at hk; have := h.rng k b c hk; omega
  · intro k m b c c' hk hm gk gm
    simp only [ext1] at hk hm
    rw [AS.get_alloc] at gk gm
    by_cases ek : k = s.next <;> by_cases em : m = s.next
    · omega
    · rw [if_pos ek] at hk; rw [if_neg em] at hm; cases hk
      have := h.rng m _ _ hm; omega
    · rw [if_neg ek] at hk; rw [if_pos em] at hm; cases hm
      have := h.rng k _ _ hk; omega
    · rw [if_neg ek] at hk gk; rw [if_neg em] at hm gm
      exact h.inj k m b c c' hk hm gk gm
  · intro k x hk
    rw [AS.get_alloc] at hk
    by_cases ek : k = s.next
    · rw [if_pos ek] at hk; cases hk
      exact ⟨g, κ, o', by simp [ext1, ek], hw, ho.mono hx⟩
    · rw [if_neg ek] at hk
      obtain ⟨b, c, x', h1, h2, h3⟩ := h.live k x hk
      exact ⟨b, c, x', hx k _ h1, by rw [hb b (h.rng k b c h1).2]; exact h2, h3.mono hx⟩
end
end Go.Rx
end
section
/- slices.Collect at this program: of the values of a list of ints, of the keys of a map. (The proof of appendSeqB is the guide's worked proof of AppendSeq, turned to this claim.) -/
namespace Go.Proofs.Vt
open Go Go.RowKit Go.Maps Go.Sort Go.Shelf Go.Proofs
variable {P : Program} {ρ : Ren}

/-- What an iterator value gives, to a caller that leaves alone what was there. -/
def SeqG (F : Fence) (n : Nat) (P : Program) (g : Nat) (lb : Array Value) (S : List Int → Prop) (N : Nat) (w : World) : Prop :=
  ∀ (l : Nat) (J : List Int → World → Prop) (W : World), Below w.heap.size w W → AbidesFrom W.heap.size J → (∀ ss W', J ss W' → Below w.heap.size w W') →
    (∀ pre x W1, J pre W1 → pre.length < N → YieldAt F (n - 1) P l #[encZ x] W1 fun e W' => e = .returned (.bool true) ∧ J (pre ++ [x]) W' ∧ KeepsWalks W1 W') →
    J [] W →
    CallsIn F n P g (#[.func (.yield l) #[] #[]] ++ lb) W fun e W' => (∃ v, e = .returned v) ∧ ∃ xs, S xs ∧ J xs W'

set_option maxRecDepth 100000 in
set_option maxHeartbeats 2000000 in
theorem appendSeqB (L : SlLaysZI.n11 P ρ) (F : Fence) (n : Nat) (h11 : F.fn (ρ.f 11)) (hro : F.round = none) (hn : 2 ≤ n) (g : Nat) (lb : Array Value) (hFg : F.fn g) (eg : ∀ args w, (callFunc g args).run P w = .ok (.enter g args) w)
    (S : List Int → Prop) (N : Nat) (hN : N ≤ maxLen) (hNb : N * 8 ≤ 140737488355328) (w : World) (hseq : SeqG F (n - 1) P g lb S N w) :
    CallsIn F n P (ρ.f 11) #[.slice none 0 0, .func (.func g) #[] lb] w fun e w' => ∃ (v : Value) (ss : List Int), e = .returned v ∧ S ss ∧ w'.ownsRow w.heap.size (ρ.t 26) 1 v ss.length (ss.map encZ) ∧ (v = .slice none 0 0 ↔ ss = []) ∧ Below w.heap.size w w' := by
  have h1 : 1 ≤ n := by omega
  have mixed := L.mixed; have t0 := L.t0; have a0 := L.a0; have z0 := L.z0; have v0 := L.v0; have t24 := L.t24; have a24 := L.a24; have z24 := L.z24; have v24 := L.v24; have t26 := L.t26; have a26 := L.a26; have z26 := L.z26; have v26 := L.v26; have t28 := L.t28; have a28 := L.a28; have z28 := L.z28; have v28 := L.v28
  have hne : ρ.t 24 ≠ ρ.t 26 := fun e => by have h := L.t24; rw [e, L.t26] at h; cases h
  have u0 := run_underlying L.t0; have u24 := run_underlying L.t24; have u26 := run_underlying L.t26; have u28 := run_underlying L.t28
  obtain ⟨_, _, FG⟩ := L.f11
  refine callsIn_of_wp_marks FG rfl h11 ?_ hro
  simp only [SlBodyZ.n11_ntmps ρ, List.size_toArray, List.length_cons, List.length_nil, Nat.reduceAdd, Nat.reduceSub, Array.replicate_succ, Array.replicate_zero, List.push_toArray, List.append_toArray, List.nil_append, List.cons_append]
  gi_wp2
  refine wpIn_rangeFunc ?_
  intro fn hfn
  rw [hro]
  obtain ⟨W0, hW0⟩ : ∃ W0, w.alloc (.cells #[.slice none 0 0] (ρ.t 24)) = W0 := ⟨_, rfl⟩
  have hs0 : W0.heap.size = w.heap.size + 1 := by rw [← hW0]; simp
  have hv0 : W0.heap[w.heap.size]? = some (.cells #[.slice none 0 0] (ρ.t 24) (0, 0)) := by rw [← hW0]; exact World.alloc_heap_new w _
  have hb0 : Below w.heap.size w W0 := by rw [← hW0]; exact (Below.refl _ w).alloc (Nat.le_refl _) _
  rw [hW0]
  obtain ⟨W1, hW1⟩ : ∃ W1, (W0.alloc (.deferred (some []))).alloc (.loop (AnyZI.apRec ρ fn (.func (.func g) #[] lb) w.heap.size W0.heap.size .ready none)) = W1 := ⟨_, rfl⟩
  have hold : ∀ k, k < W0.heap.size → W1.heap[k]? = W0.heap[k]? := fun k hk => by
    rw [← hW1]; exact (Below.heap_alloc _ _ k (by simp; omega)).trans (Below.heap_alloc _ _ k hk)
  have hb1 : Below w.heap.size w W1 := by rw [← hW1]; exact (hb0.alloc hb0.size _).alloc (by have := hb0.size; simp; omega) _
  have hs1 : W1.heap.size = W0.heap.size + 2 := by rw [← hW1]; simp
  have hM : AnyZI.ApAt ρ w fn (.func (.func g) #[] lb) w.heap.size (W0.heap.size + 1) W0.heap.size [] W1 :=
    ⟨⟨_, (hold w.heap.size (by omega)).trans hv0, ⟨rfl, .inl ⟨rfl, rfl⟩⟩, by simp⟩,
     by rw [← hW1]; have := World.alloc_heap_new (W0.alloc (.deferred (some []))) (.loop (AnyZI.apRec ρ fn (.func (.func g) #[] lb) w.heap.size W0.heap.size .ready none)); rwa [World.size_alloc] at this,
     by rw [← hW1]; exact (Below.heap_alloc _ _ _ (by simp)).trans (World.alloc_heap_new W0 _), hb1⟩
  refine ⟨W0.heap.size + 1, [{ target := .collected W0.heap.size, args := #[] }], W1, { target := .fn (.func g) lb, args := #[.func (.yield (W0.heap.size + 1)) #[] #[]] }, W1, g,
    #[.func (.yield (W0.heap.size + 1)) #[] #[]] ++ lb, W1, ?_, ?_, ?_, ?_, fun _ => h1, ?_⟩
  · rw [← hW1]; exact run_enterLoop_outer _ _ _ _ _
  · simp [resolve, go_sem]
  · intro f' hf'; simp [Target.leads] at hf'; subst hf'; exact hFg
  · simp [invoke, go_sem, eg]
  · refine (hseq (W0.heap.size + 1) (AnyZI.ApAt ρ w fn (.func (.func g) #[] lb) w.heap.size (W0.heap.size + 1) W0.heap.size) W1 hb1 (AnyZI.ap_abides ρ _ _ _ _ _ _ _ hb1.size) (fun _ _ h => h.below)
      (fun pre x W hJ hl => AnyZI.apYield { L with } F (n - 1 - 1) w fn hfn _ w.heap.size (W0.heap.size + 1) W0.heap.size (by omega) (by omega) (by omega) (Nat.le_refl _) (by omega) N hN hNb pre x W hJ hl) hM).mono ?_
    rintro e W2 ⟨⟨v0, rfl⟩, ss, hS, h2⟩
    obtain ⟨v, hv, hrow, hnil⟩ := h2.box
    have hend := run_endLoop (P := P) h2.L (by simp [AnyZI.apRec])
    obtain ⟨W3, hW3⟩ : ∃ W3, W2.putObj (W0.heap.size + 1) (.loop { AnyZI.apRec ρ fn (.func (.func g) #[] lb) w.heap.size W0.heap.size .ready none with state := .exhausted }) = W3 := ⟨_, rfl⟩
    rw [hW3] at hend
    have hg3 : W2.grownBy W3 (some (W0.heap.size + 1)) := by rw [← hW3]; exact grownBy_putObj_a _ _ _
    have hv3 : W3.heap[w.heap.size]? = some (.cells #[v] (ρ.t 24) (0, 0)) := by rw [← hW3]; exact (World.putObj_heap_other (by omega)).trans hv
    have hK3 : W3.heap[W0.heap.size]? = some (.deferred (some [])) := by rw [← hW3]; exact (World.putObj_heap_other (by omega)).trans h2.K
    have hrow3 := hrow.kept hg3 (ownsRow_ne_a hrow h2.L (fun cur e => by first | cases e | exact hne (Obj.cells.inj e).2.1))
    have hb3 : Below w.heap.size w W3 := h2.below.grown hg3 h2.below.size (fun k e => by cases e; omega)
    obtain ⟨hc3, hf3⟩ := cell_of_box_a hv3
    clear hW3
    refine ⟨none, W3, hend, ?_⟩
    gi_wp2
    rw [← hs0]
    refine ⟨by simp, .inl ⟨_, _, rfl, run_takeDeferred hK3, ?_⟩⟩
    exact ⟨_, results_tmp rfl _ _ _, v, ss, rfl, hS, hrow3.kept (grownBy_putObj_a _ _ _) (ownsRow_ne_a hrow3 hK3 (fun cur e => by first | cases e | exact hne (Obj.cells.inj e).2.1)), hnil, hb3.grown (grownBy_putObj_a _ _ _) hb3.size (fun k e => by cases e; omega)⟩


set_option maxHeartbeats 1000000 in
theorem collectB (L : SlLaysZI.n8 P ρ) (F : Fence) (n : Nat) (h8 : F.fn (ρ.f 8)) (h11 : F.fn (ρ.f 11)) (hro : F.round = none) (hn : 3 ≤ n) (g : Nat) (lb : Array Value) (hFg : F.fn g) (eg : ∀ args w, (callFunc g args).run P w = .ok (.enter g args) w)
    (S : List Int → Prop) (N : Nat) (hN : N ≤ maxLen) (hNb : N * 8 ≤ 140737488355328) (w : World) (hseq : SeqG F (n - 1 - 1) P g lb S N w) :
    CallsIn F n P (ρ.f 8) #[.func (.func g) #[] lb] w fun e w' => ∃ (v : Value) (ss : List Int), e = .returned v ∧ S ss ∧ w'.ownsRow w.heap.size (ρ.t 26) 1 v ss.length (ss.map encZ) ∧ (v = .slice none 0 0 ↔ ss = []) ∧ Below w.heap.size w w' := by
  have h1 : 1 ≤ n := by omega
  have e11 : ∀ args w, (callFunc (ρ.f 11) args).run P w = .ok (.enter (ρ.f 11) args) w := L.f11.enters rfl
  have mixed := L.mixed; have t0 := L.t0; have a0 := L.a0; have z0 := L.z0; have v0 := L.v0; have t24 := L.t24; have a24 := L.a24; have z24 := L.z24; have v24 := L.v24; have t26 := L.t26; have a26 := L.a26; have z26 := L.z26; have v26 := L.v26; have t28 := L.t28; have a28 := L.a28; have z28 := L.z28; have v28 := L.v28
  have u0 := run_underlying L.t0; have u24 := run_underlying L.t24; have u26 := run_underlying L.t26; have u28 := run_underlying L.t28
  obtain ⟨_, _, FG⟩ := L.f8
  refine callsIn_of_wp FG rfl h8 ?_ hro
  simp only [SlBodyZ.n8_ntmps ρ, List.size_toArray, List.length_cons, List.length_nil, Nat.reduceAdd, Nat.reduceSub, Array.replicate_succ, Array.replicate_zero, List.push_toArray, List.append_toArray, List.nil_append, List.cons_append]
  gi_wp2_with (gi_at_fn (ρ.f 11); refine (appendSeqB { L with } F (n - 1) h11 hro (by omega) g lb hFg eg S N hN hNb _ hseq).mono ?_; rintro e w' ⟨v, ss, rfl, hS, hrow, hnil, hb⟩)
  go_ret
  exact ⟨v, ss, rfl, hS, hrow, hnil, hb⟩
end Go.Proofs.Vt
end
section
/- slices.Collect at this program: soundness. -/
namespace Go.Proofs.Vt
open Go Go.RowKit Go.Maps Go.Sort Go.Shelf Go.Proofs

def valInt : Value → Int | .int _ z => z | _ => 0
def upto {α : Type} (f : Nat → α) (k : Nat) : List α := (List.range k).map f
theorem upto_succ {α : Type} (f : Nat → α) (k : Nat) : upto f (k + 1) = upto f k ++ [f k] := by simp [upto, List.range_succ]
theorem upto_length {α : Type} (f : Nat → α) (k : Nat) : (upto f k).length = k := by simp [upto]
theorem upto_all (zs : List Int) : upto (fun j => zs[j]?.getD 0) zs.length = zs := by
  apply List.ext_getElem
  · simp [upto]
  · intro i h1 h2; simp [upto, h2]

set_option maxRecDepth 100000 in
set_option maxHeartbeats 2000000 in
/-- The closure of slices.Values, for a loop body that keeps what was there. (The guide's worked proof, turned.) -/
theorem values1 (F : Fence) (n : Nat) (h7 : F.fn 117) (hro : F.round = none) (hn : 1 ≤ n) (l Bs b off len cap : Nat) (zs : List Int) (hreach : len * 8 ≤ 140737488351232) (w : World) (hb : 0 < len → b < w.heap.size) (J : List Int → World → Prop) (hJB : ∀ ss W', J ss W' → Below w.heap.size w W')
    (hY : ∀ pre x W, J pre W → pre.length < len → YieldAt F (n - 1) Tryz.prog l #[.int .i64 x] W fun e W' => e = .returned (.bool true) ∧ J (pre ++ [x]) W' ∧ KeepsWalks W W')
    (W : World) (hBs : W.cell? ⟨Bs, 0, none⟩ = some (.slice (some ⟨b, off, none⟩) len cap)) (hc : ∀ j, j < len → w.cell? ⟨b, off + j, none⟩ = some (.int .i64 (zs[j]?.getD 0))) (h0 : J [] W) :
    CallsIn F n Tryz.prog 117 #[.func (.yield l) #[] #[], .pointer (some ⟨Bs, 0, none⟩)] W fun e W' => (∃ v, e = .returned v) ∧ ∃ ys, ys = upto (fun j => zs[j]?.getD 0) len ∧ J ys W' := by
  refine callsIn_of_wp Tryz.func117 rfl h7 ?_ hro
  simp only [Tryz.ntmps117, List.size_toArray, List.length_cons, List.length_nil, Nat.reduceAdd, Nat.reduceSub, Array.replicate_succ, Array.replicate_zero, List.push_toArray, List.append_toArray, List.nil_append, List.cons_append]
  gi_wp2
  gi_loopw [7] (fun i wr => ∃ k : Nat, k ≤ len ∧ i = .int .i64 k ∧ J (upto (fun j => zs[j]?.getD 0) k) wr)
    (fun i _ => len - (valInt i).toNat)
  case atStart => exact ⟨0, Nat.zero_le _, rfl, h0⟩
  case round =>
    obtain ⟨k, hk, rfl, hJs⟩ := hrel
    have hnx := hJB _ _ hJs
    have hcx : k < len → wr.cell? ⟨b, off + k, none⟩ = some (.int .i64 (zs[k]?.getD 0)) := fun h => (hnx.cell (p := ⟨b, off + k, none⟩) (hb (by omega))).trans (hc k h)
    by_cases hlt : k < len
    · obtain ⟨fn, tmps, assign, body, hy, hR⟩ := hY _ (zs[k]?.getD 0) wr hJs (by rw [upto_length]; exact hlt)
      have hcx' := hcx hlt
      gi_wp2
      refine hR.mono ?_
      rintro e W3 ⟨rfl, hJ3, _⟩
      gi_wp2
      go_roundw
      case rel => exact ⟨k + 1, by omega, by simp, by rw [upto_succ]; exact hJ3⟩
      case measure => simp [valInt]; omega
    · obtain rfl : k = len := by omega
      gi_wp2
      go_end0
      exact ⟨⟨_, rfl⟩, _, rfl, hJs⟩

set_option maxRecDepth 100000 in
set_option maxHeartbeats 1000000 in
theorem values1_nil (F : Fence) (n : Nat) (h7 : F.fn 117) (hro : F.round = none) (l Bs : Nat) (J : List Int → World → Prop) (W : World) (hBs : W.cell? ⟨Bs, 0, none⟩ = some (.slice none 0 0)) (h0 : J [] W) :
    CallsIn F n Tryz.prog 117 #[.func (.yield l) #[] #[], .pointer (some ⟨Bs, 0, none⟩)] W fun e W' => (∃ v, e = .returned v) ∧ J [] W' := by
  refine callsIn_of_wp Tryz.func117 rfl h7 ?_ hro
  simp only [Tryz.ntmps117, List.size_toArray, List.length_cons, List.length_nil, Nat.reduceAdd, Nat.reduceSub, Array.replicate_succ, Array.replicate_zero, List.push_toArray, List.append_toArray, List.nil_append, List.cons_append]
  gi_wp2
  gi_loopw [7] (fun i wr => i = .int .i64 0 ∧ J [] wr) (fun _ _ => 0)
  case atStart => exact ⟨rfl, h0⟩
  case round =>
    obtain ⟨rfl, hJs⟩ := hrel
    gi_wp2
    go_end0
    exact ⟨⟨_, rfl⟩, hJs⟩

/-- Where the library's texts lie in this program. -/
def colRen : Shelf.Ren where
  f x := match x with | 8 => 115 | 11 => 141 | n => n
  t x := match x with | 26 => 3 | 28 => 129 | 24 => 35 | 0 => 0 | 33 => 88 | 4 => 4 | n => n
  g n := n
def keyRen : Shelf.Ren where
  f x := match x with | 10 => 119 | n => n
  t x := match x with | 33 => 88 | 23 => 67 | 0 => 0 | 4 => 4 | 26 => 3 | 3 => 43 | n => n
  g n := n
theorem colLay : SlLaysZI.n8 Tryz.prog colRen where
  mixed := by kernel_rfl
  f8 := ⟨ "slices.Collect[int]", by decide, Tryz.func115.trans (by kernel_rfl)⟩
  f11 := ⟨ "slices.AppendSeq[[]int,int]", by decide, Tryz.func141.trans (by kernel_rfl)⟩
  t0 := Tryz.underlying0
  a0 := Tryz.isAgg0
  z0 := Tryz.sizeOf0
  v0 := Tryz.zeroValue0
  t24 := Tryz.underlying35
  a24 := Tryz.isAgg35
  z24 := Tryz.sizeOf35
  v24 := Tryz.zeroValue35
  t26 := Tryz.underlying3
  a26 := Tryz.isAgg3
  z26 := Tryz.sizeOf3
  v26 := Tryz.zeroValue3
  t28 := Tryz.underlying129
  a28 := Tryz.isAgg129
  z28 := Tryz.sizeOf129
  v28 := Tryz.zeroValue129
  i26 := by kernel_rfl
theorem keyLay : SlLaysZI.n10 Tryz.prog keyRen where
  mixed := by kernel_rfl
  f10 := ⟨ "maps.Keys[map[int]sealchain/api.Vote,int,sealchain/api.Vote]$1", by decide, Tryz.func119.trans (by kernel_rfl)⟩
  t0 := Tryz.underlying0
  a0 := Tryz.isAgg0
  z0 := Tryz.sizeOf0
  v0 := Tryz.zeroValue0
  t4 := Tryz.underlying4
  a4 := Tryz.isAgg4
  z4 := Tryz.sizeOf4
  v4 := Tryz.zeroValue4
  t23 := Tryz.underlying67
  a23 := Tryz.isAgg67
  z23 := Tryz.sizeOf67
  v23 := Tryz.zeroValue67
  t26 := Tryz.underlying3
  a26 := Tryz.isAgg3
  z26 := Tryz.sizeOf3
  v26 := Tryz.zeroValue3
  t33 := Tryz.underlying88
  a33 := Tryz.isAgg88
  z33 := Tryz.sizeOf88
  v33 := Tryz.zeroValue88

theorem cell_lt {w : World} {a : Addr} {v : Value} (h : w.cell? a = some v) : a.block < w.heap.size := by
  unfold World.cell? at h
  split at h
  · rename_i hh; exact (Array.getElem?_eq_some_iff.1 hh).1
  · simp at h
theorem valuesG (n Bs : Nat) (hn : 1 ≤ n) (w : World) (sv : Value) (zs : List Int) (hreach : zs.length * 8 ≤ 140737488351232) (hBs : Bs < w.heap.size) (hc : w.cell? ⟨Bs, 0, none⟩ = some sv)
    (hI : (sv = .slice none 0 0 ∧ zs = []) ∨ ∃ b off cap, sv = .slice (some ⟨b, off, none⟩) zs.length cap ∧ ∀ j, j < zs.length → w.cell? ⟨b, off + j, none⟩ = some (.int .i64 (zs[j]?.getD 0))) :
    SeqG Fence.wide n Tryz.prog 117 #[.pointer (some ⟨Bs, 0, none⟩)] (fun ss => ss = zs) zs.length w := fun l J W hW _ hJB hY h0 => by
  have hc' := (hW.cell (p := ⟨Bs, 0, none⟩) hBs).trans hc
  rcases hI with ⟨rfl, rfl⟩ | ⟨b, off, cap, rfl, hcs⟩
  · exact (values1_nil Fence.wide n trivial rfl l Bs J W hc' h0).mono fun e W' ⟨he, hj⟩ => ⟨he, _, rfl, hj⟩
  · refine (values1 Fence.wide n trivial rfl hn l Bs b off zs.length cap zs hreach w (fun h => cell_lt (hcs 0 h)) J hJB hY W hc' hcs h0).mono ?_
    rintro e W' ⟨he, ys, rfl, hj⟩
    exact ⟨he, _, upto_all zs, hj⟩
end Go.Proofs.Vt
end
section
/- slices.Collect: a sound side. -/
namespace Go.Proofs.Vt
open Go Go.RowKit Go.Maps Go.Sort Go.Shelf Go.Proofs Go.Rx
open Go.WideElems (Fit rd rg)
open Go.MapKept (Stamped)
set_option maxRecDepth 100000

/-- What a slice that was made anew is on the abstract side. -/
theorem seq_end {w0 : World} {ρ : Rx.Ren} {s : AS} {w w' : World} {K : K0} {ss : List Int} {v : Value} (h : Rel w0 ρ s w) (hrow : w'.ownsRow w.heap.size 3 1 v ss.length (ss.map encZ)) (hnil : v = .slice none 0 0 ↔ ss = []) (hb : Below w.heap.size w w')
    (hK : seqRes (ss.map fun z => V.int .i64 z) s K) : ∃ u s' ρ' v', Ending.returned v = .returned v' ∧ K u s' ∧ Ext ρ ρ' ∧ Rel w0 ρ' s' w' ∧ VR ρ' u v' := by
  cases ss with
  | nil =>
    have : v = .slice none 0 0 := hnil.2 rfl
    subst this
    exact ⟨_, _, ρ, _, rfl, hK, Ext.refl ρ, h.grow hb.os hb.tape hb.output hb.size hb.block, .nilslice _⟩
  | cons z r =>
    obtain ⟨_, hr | ⟨g, cap, cur, rfl, hg, hw, h1, h2, h3, h4⟩⟩ := hrow
    · exact absurd hr.2 (by simp)
    · rw [Nat.mul_one] at h3
      rw [Nat.mul_one] at h4
      have ho : ORel ρ cap (.cells ((z :: r).map fun z => V.int .i64 z) 1) (.cells cur 3) := by
        refine .cells (by simp at h1 ⊢; omega) (fun _ => by rw [h3]; omega) (fun i _ => by omega) ?_
        rw [List.length_map, h4]
        have : ∀ l : List Int, VRs ρ (l.map fun z => V.int .i64 z) (l.map encZ) := fun l => by
          induction l with
          | nil => exact .nil
          | cons a l ih => exact .cons (.int _ _) ih
        exact this _
      obtain ⟨hx, hr⟩ := h.adopt (κ := cap) hb.os hb.tape hb.output hb.size hb.block hg hw ho
      have hl : (r.map fun z => V.int .i64 z).length + 1 = (z :: r).length := by simp
      refine ⟨_, _, _, _, rfl, hK, hx, hr, ?_⟩
      rw [hl]
      refine .slice ⟨cap, by simp [ext1]⟩ (fun e => by cases e) (fun _ => ⟨h1, fun _ => rfl, s.next, cap, rfl, by simp [ext1], fun _ _ => rfl⟩)

theorem ints_of {l : List V} (h : intsV l = true) : l = (l.map zOfV).map fun z => V.int .i64 z := by
  rw [List.map_map]
  have : ∀ x ∈ l, ((fun z => V.int .i64 z) ∘ zOfV) x = x := fun x hx => by
    have := List.all_eq_true.1 h x hx
    split at this
    · rfl
    · simp at this
  rw [List.map_congr_left this, List.map_id']

def intOf' : Value → Int | .int _ z => z | _ => 0
theorem collect_sound : SoundF Tryz.prog 115 (F1 (collectM 117 119)) := by
  intro args s K h
  match args, h with
  | [q], h =>
  refine ⟨⟨Tryz.f115, Tryz.func115, by kernel_rfl, by kernel_rfl⟩, fun w0 ρ w args' hrel hargs => ?_⟩
  change collectM 117 119 q s K at h
  unfold collectM at h
  split at h
  · rename_i q f b
    split at h
    · rename_i x hld
      -- what came in
      obtain ⟨al⟩ := args'
      cases hargs with
      | cons hq ht =>
      cases ht
      cases hq with
      | func fn hf hc =>
      rename_i f' c'
      obtain ⟨f'⟩ := f'
      obtain ⟨c'⟩ := c'
      cases hf
      cases hc with
      | cons hp hpt =>
      cases hpt
      cases hp with
      | ptr hbr =>
      rename_i b'
      obtain ⟨xv, hcell, hxv⟩ := hrel.ldC hld hbr
      have hblt : b' < w.heap.size := cell_lt hcell
      unfold collectX at h
      split at h
      · rename_i hfv
        subst hfv
        split at h
        · rename_i a n c ex
          split at h
          · rename_i xs hsrc
            obtain ⟨⟨hints, hn⟩, hK⟩ := h
            rw [ints_of hints] at hK
            obtain ⟨zs, hzs⟩ : ∃ zs, zs = xs.map zOfV := ⟨_, rfl⟩
            rw [← hzs] at hK
            have hxz : xs = zs.map fun z => V.int .i64 z := by rw [hzs]; exact ints_of hints
            have hlen : xs.length = n := by have := (srcN_ok (P := Tryz.prog) hrel hsrc hxv).1; omega
            have hzl : zs.length = n := by rw [hzs, List.length_map, hlen]
            have hI : (xv = .slice none 0 0 ∧ zs = []) ∨ ∃ b off cap, xv = .slice (some ⟨b, off, none⟩) zs.length cap ∧ ∀ j, j < zs.length → w.cell? ⟨b, off + j, none⟩ = some (.int .i64 (zs[j]?.getD 0)) := by
              cases hxv with
              | nilslice => exact .inl ⟨rfl, List.eq_nil_of_length_eq_zero hzl⟩
              | hollow => simp [srcN] at hsrc
              | slice hb he hi =>
                rename_i bb bb' o o' c'
                refine .inr ⟨bb', o', c', by rw [hzl], fun j hj => ?_⟩
                · have h0 : ¬ n * 1 = 0 := by omega
                  simp only [srcN] at hsrc
                  rw [if_neg h0] at hsrc
                  split at hsrc
                  · rename_i hor
                    have ho : o' = o := by
                      rcases hor with e | e
                      · exact (he e).1
                      · cases hex : ex with
                        | true => exact (he hex).1
                        | false => exact (hi hex).2.1 e
                    subst ho
                    obtain ⟨_, cs', hcs, hget⟩ := hrel.ldN hsrc hb
                    have hzj : xs[j]? = some (V.int .i64 (zs[j]?.getD 0)) := by
                      rw [hxz, List.getElem?_map, List.getElem?_eq_getElem hj]; rfl
                    obtain ⟨v', hv', hvr⟩ := hcs.get hzj
                    cases hvr
                    have := hget j _ hv'
                    rw [add_mk] at this
                    exact this
                  · simp at hsrc
            have hseq := valuesG (5 - 1 - 1) b' (by omega) w xv zs (by omega) hblt hcell hI
            have hcol := collectB (ρ := colRen) colLay Fence.wide 5 trivial trivial rfl (by omega) 117 #[.pointer (some ⟨b', 0, none⟩)] trivial (enters_of Tryz.func117 (by kernel_rfl) rfl) (fun ss => ss = zs) zs.length (by unfold maxLen; omega) (by omega) w hseq
            refine (callsIn_wide.1 hcol).mono ?_
            rintro e w' ⟨v, ss, rfl, rfl, hrow, hnil, hb⟩
            exact seq_end hrel hrow hnil hb hK
          · exact h.elim
        · exact h.elim
      · split at h
        · rename_i hfk
          subst hfk
          split at h
          · rename_i k
            split at h
            · rename_i es clock hg
              obtain ⟨hko, hK⟩ := h
              cases hxv with
              | map hk =>
              rename_i b2 κ
              obtain ⟨b3, κ3, o', hk3, hw3, ho3⟩ := hrel.live k _ hg
              rw [hk] at hk3
              obtain ⟨rfl, rfl⟩ : b2 = b3 ∧ κ = κ3 := by simpa using hk3
              cases ho3 with
              | map her =>
              rename_i es'
              have hkey : ∀ e ∈ es, ∃ z : Int, e.1 = .int .i64 z ∧ -9223372036854775808 ≤ z ∧ z ≤ 9223372036854775807 := fun e he => by
                have := hko.ints e he
                unfold isInt64 at this
                split at this
                · rename_i z hz; simp at this; exact ⟨z, hz, this.1, this.2⟩
                · simp at this
              have hkey' : ∀ x ∈ es'.toList, ∃ z : Int, x.key = .int .i64 z ∧ -9223372036854775808 ≤ z ∧ z ≤ 9223372036854775807 := fun x hx => by
                obtain ⟨e, he, hr⟩ := her.mem hx
                obtain ⟨z, hz, h1, h2⟩ := hkey e he
                have h3 := hr.1
                rw [hz] at h3
                cases hh : x.key <;> rw [hh] at h3 <;> cases h3
                exact ⟨z, rfl, h1, h2⟩
              have hkeys : es'.toList.map (·.key) = (es.map fun e => zOfV e.1).map encZ ∧ es'.toList.map (·.born) = es.map (·.2.2) := by
                have : ∀ (l : List (V × V × Nat)) (l' : List MapEntry), EntsR ρ l l' → (∀ e ∈ l, ∃ z : Int, e.1 = .int .i64 z ∧ -9223372036854775808 ≤ z ∧ z ≤ 9223372036854775807) → l'.map (·.key) = (l.map fun e => zOfV e.1).map encZ ∧ l'.map (·.born) = l.map (·.2.2) := by
                  intro l l' hl
                  induction hl with
                  | nil => intro _; exact ⟨rfl, rfl⟩
                  | @cons e e' l l' he _ ih =>
                    intro hh
                    obtain ⟨i1, i2⟩ := ih fun x hx => hh x (List.mem_cons_of_mem _ hx)
                    obtain ⟨z, hz, _, _⟩ := hh e (List.mem_cons_self ..)
                    have h3 := he.1
                    rw [hz] at h3
                    have hk' : e'.key = encZ z := by cases hq : e'.key <;> rw [hq] at h3 <;> cases h3; rfl
                    refine ⟨?_, ?_⟩
                    · simp only [List.map_cons, i1, hk', hz, zOfV]
                    · simp only [List.map_cons, i2, he.2.2]
                exact this es es'.toList her hkey
              have hlen : es'.size = es.length := by have := congrArg List.length hkeys.2; simpa using this
              have hlen2 := hko.len
              have hst : Stamped es' clock := by
                refine ⟨fun x hx => ?_, ?_, ?_⟩
                · obtain ⟨e, he, hr⟩ := her.mem hx
                  rw [hr.2.2]; exact hko.lt e he
                · rw [hkeys.2]; exact hko.st
                · rw [hkeys.1]
                  have := hko.keys
                  rw [List.nodup_iff_pairwise_ne] at this ⊢
                  rw [List.pairwise_map]
                  exact this.imp fun h e => h (encZ_inj e)
              have hrd : ∀ x ∈ es'.toList, rd (H := Unit) Tryz.prog 3 (fun _ => some (.nil, [])) x = some (.int .i64 (intOf' x.key), .nil) := fun x hx => by
                obtain ⟨z, hz, h1, h2⟩ := hkey' x hx
                have hwf : (Lit.int .i64 z).wf = true := by
                  show (decide (IntKind.i64.min ≤ z) && decide (z ≤ IntKind.i64.max)) = true
                  rw [decide_eq_true (by simp [IntKind.min, IntKind.signed, IntKind.bits]; omega), decide_eq_true (by simp [IntKind.max, IntKind.signed, IntKind.bits]; omega)]; rfl
                unfold rd keyOf
                rw [Tryz.underlying3, hz]
                simp only [mapKey, Tryz.underlying3]
                rw [if_pos ⟨trivial, hwf⟩]; rfl
              have hfit : Fit (H := Unit) Tryz.prog 3 (fun _ => some (.nil, [])) es' clock := ⟨by rw [hlen]; unfold maxLen; omega, hst, fun x hx => ⟨_, hrd x hx⟩⟩
              have hown : w.ownsMap (H := Unit) Tryz.prog 3 (fun _ => some (.nil, [])) b2 es'.size (.map ((es'.toList.map (rg Tryz.prog 3 fun _ => some (.nil, []))).foldr DataW.insert [])) :=
                ⟨es', clock, hw3, hfit, Nat.le_refl _, rfl⟩
              have hsz : Maps.size (H := Unit) (.map ((es'.toList.map (rg Tryz.prog 3 fun _ => some (.nil, []))).foldr DataW.insert [])) = es'.size := by
                rw [Maps.size_eq, (Go.WideShapes.sorted_perm _).length_eq]; simp
              have hik : (intKeys (H := Unit) (.map ((es'.toList.map (rg Tryz.prog 3 fun _ => some (.nil, []))).foldr DataW.insert []))).Perm (es.map fun e => zOfV e.1) := by
                refine ((Go.WideShapes.sorted_perm _).map _).trans ?_
                rw [List.map_map]
                have e1 : es'.toList.map ((fun p : Lit × DataW Unit => intOf p.1) ∘ rg Tryz.prog 3 fun _ => some (.nil, [])) = es'.toList.map fun x => intOf' x.key := by
                  apply List.map_congr_left
                  intro x hx
                  show intOf (rg Tryz.prog 3 _ x).1 = _
                  unfold rg; rw [hrd x hx]; rfl
                rw [e1]
                have e2 : es'.toList.map (fun x => intOf' x.key) = (es'.toList.map (·.key)).map intOf' := by rw [List.map_map]; rfl
                rw [e2, hkeys.1, List.map_map]
                have e3 : (intOf' ∘ encZ) = id := rfl
                rw [e3, List.map_id]
              have hgives := AnyZI.keys_gives (ρ := keyRen) keyLay Fence.wide (5 - 1 - 1) trivial rfl (by omega) b' b2 es'.size _ w hblt hcell hown
              have hcol := collectB (ρ := colRen) colLay Fence.wide 5 trivial trivial rfl (by omega) 119 #[.pointer (some ⟨b', 0, none⟩)] trivial (enters_of Tryz.func119 (by kernel_rfl) rfl) _ _ (by rw [hsz, hlen]; unfold maxLen; omega) (by rw [hsz, hlen]; omega) w
                (fun l J W hW hJ _ hY h0 => hgives l J W hW hJ hY h0)
              refine (callsIn_wide.1 hcol).mono ?_
              rintro e w' ⟨v, ss, rfl, hS, hrow, hnil, hb⟩
              refine seq_end hrel hrow hnil hb (hK _ ?_)
              have hperm := (hS.trans hik).map fun z => V.int .i64 z
              rw [List.map_map] at hperm
              have e4 : es.map ((fun z => V.int .i64 z) ∘ fun e => zOfV e.1) = es.map (·.1) := by
                apply List.map_congr_left
                intro e he
                obtain ⟨z, hz, _⟩ := hkey e he
                show V.int .i64 (zOfV e.1) = e.1
                rw [hz]; rfl
              rw [e4] at hperm; exact hperm
            · exact h.elim
          · exact h.elim
        · exact h.elim
    · exact h.elim
  · exact h.elim

noncomputable def slices_CollectI : V → M := collectM 117 119
theorem slices_CollectI_s : SP Tryz.prog 115 (F1 slices_CollectI) :=
  ⟨collect_sound, fun args => match args with | [] | _ :: _ :: _ => prd_no | [q] => prd_collectM 117 119 q⟩
end Go.Proofs.Vt
end
