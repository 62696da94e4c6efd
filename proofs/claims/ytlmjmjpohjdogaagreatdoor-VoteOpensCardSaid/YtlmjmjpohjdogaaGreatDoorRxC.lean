/- A part of the proofs of the Vote laws: the evaluator is sound for regions, code and functions. -/
import Derived.Test.YtlmjmjpohjdogaaGreatDoorRxB
import Derived.Scope
import Derived.Tactics
set_option linter.unusedVariables false
set_option linter.unusedSimpArgs false
section
/- Soundness of every operation. -/
namespace Go.Rx
open Go

section
variable {P : Program} {w0 : World} {ρ : Ren} {s : AS} {w : World}

theorem EntsR.mem {l : List (V × V × Nat)} {l' : List MapEntry} (h : EntsR ρ l l') {e' : MapEntry} (he : e' ∈ l') : ∃ e ∈ l, entR ρ e e' := by
  induction h with
  | nil => simp at he
  | cons hh _ ih =>
    cases he with
    | head => exact ⟨_, by simp, hh⟩
    | tail _ hm => obtain ⟨e, h1, h2⟩ := ih hm; exact ⟨e, by simp [h1], h2⟩

theorem EntsR.mem' {l : List (V × V × Nat)} {l' : List MapEntry} (h : EntsR ρ l l') {e : V × V × Nat} (he : e ∈ l) : ∃ e' ∈ l', entR ρ e e' := by
  induction h with
  | nil => simp at he
  | cons hh _ ih =>
    cases he with
    | head => exact ⟨_, by simp, hh⟩
    | tail _ hm => obtain ⟨e, h1, h2⟩ := ih hm; exact ⟨e, by simp [h1], h2⟩

def stepOf (b' bm since clock : Nat) (seen : Array Nat) : Option MapEntry → Sem Value
  | some e => do
    setObj b' (.mapIter (some bm) since (seen.push e.born) clock)
    pure (.tuple #[.bool true, e.key, e.val])
  | none => pure (.tuple #[.bool false])

theorem next_run {b' bm since last clock : Nat} {seen : Array Nat} {es' : Array MapEntry} (hw : w.heap[b']? = some (.mapIter (some bm) since seen last)) (hwm : w.heap[bm]? = some (.map es' clock))
    (hcond : ¬ (!seen.isEmpty && !es'.isEmpty && es'.all (fun e => decide (e.born ≥ last))) = true) (t : TypeId) :
    ∃ w1, (w1 = w ∨ w1 = w.drew) ∧
      ((∃ e' ∈ es'.toList, seen.contains e'.born = false ∧ (Instr.next (.pointer (some ⟨b', 0, none⟩)) false t).run P w =
          (do setObj b' (.mapIter (some bm) since (seen.push e'.born) clock); pure (.tuple #[.bool true, e'.key, e'.val]) : Sem Value).run P w1) ∨
       ((∀ e' ∈ es'.toList, seen.contains e'.born = false → ¬ e'.born < since) ∧ (Instr.next (.pointer (some ⟨b', 0, none⟩)) false t).run P w = .ok (.tuple #[.bool false]) w1)) := by
  have hgo1 : (getObj b').run P w = .ok (.mapIter (some bm) since seen last) w := run_getObj hw (by intro _ _ _ e; cases e)
  have hgo2 : (getObj bm).run P w = .ok (.map es' clock) w := run_getObj hwm (by intro _ _ _ e; cases e)
  obtain ⟨left, hleft⟩ : ∃ left, left = es'.filter fun e => !seen.contains e.born := ⟨_, rfl⟩
  obtain ⟨old, hold⟩ : ∃ old, old = left.filter fun e => decide (e.born < since) := ⟨_, rfl⟩
  obtain ⟨new, hnew⟩ : ∃ new, new = left.filter fun e => decide (e.born ≥ since) := ⟨_, rfl⟩
  obtain ⟨cands, hcands⟩ : ∃ cands : Array (Option MapEntry), cands = (if old.isEmpty = true then #[none] else #[]) ++ (old ++ new).map some := ⟨_, rfl⟩
  have hpos : 0 < cands.size := by
    rw [hcands]
    by_cases ho : old.isEmpty = true
    · simp [ho]; omega
    · have : 0 < old.size := by
        rcases Nat.eq_zero_or_pos old.size with e | e
        · exact absurd (by simp [Array.isEmpty, e]) ho
        · exact e
      simp [ho]; omega
  have hch : ∃ n w1, (choose (.mapNext cands.size)).run P w = .ok n w1 ∧ n < cands.size ∧ (w1 = w ∨ w1 = w.drew) := by
    rw [run_choose]
    by_cases hf : (Question.mapNext cands.size).forced = true
    · exact ⟨0, w, by rw [if_pos hf], hpos, .inl rfl⟩
    · exact ⟨w.tape w.drawn (.mapNext cands.size) % cands.size, w.drew, by rw [if_neg hf]; rfl, Nat.mod_lt _ hpos, .inr rfl⟩
  obtain ⟨n, w1, hch, hn, hw1⟩ := hch
  obtain ⟨c, hc⟩ : ∃ c, cands[n]? = some c := ⟨cands[n], by simp [hn]⟩
  have hrun : (Instr.next (.pointer (some ⟨b', 0, none⟩)) false t).run P w = (stepOf b' bm since clock seen c).run P w1 := by
    unfold Instr.next
    dsimp only
    refine (run_step hgo1).trans ?_
    dsimp only
    refine (run_step hgo2).trans ?_
    dsimp only
    rw [if_neg hcond, ← hleft, ← hold, ← hnew, ← hcands]
    refine (run_step hch).trans ?_
    rw [hc]
    cases c <;> rfl
  refine ⟨w1, hw1, ?_⟩
  cases c with
  | none =>
    refine .inr ⟨?_, hrun⟩
    have ho : old.isEmpty = true := by
      by_cases ho : old.isEmpty = true
      · exact ho
      · exfalso
        rw [hcands] at hc
        simp only [ho, Bool.false_eq_true, if_false, Array.empty_append] at hc
        rw [Array.getElem?_map] at hc
        cases hx : (old ++ new)[n]? <;> simp [hx] at hc
    intro e' he' hs hlt
    have : e' ∈ old := by
      rw [hold, hleft, Array.mem_filter, Array.mem_filter]
      exact ⟨⟨by simpa using he', by simpa using hs⟩, by simpa using hlt⟩
    have h1 := Array.size_pos_of_mem this
    have h2 : old.size = 0 := by simpa [Array.isEmpty] using ho
    omega
  | some e' =>
    refine .inl ⟨e', ?_⟩
    have hm1 : some e' ∈ cands := Array.mem_of_getElem? hc
    rw [hcands, Array.mem_append] at hm1
    have hm2 : e' ∈ old ++ new := by
      rcases hm1 with hm1 | hm1
      · split at hm1 <;> simp at hm1
      · simpa using hm1
    have hm3 : e' ∈ left := by
      rw [Array.mem_append] at hm2
      rcases hm2 with hm2 | hm2
      · rw [hold] at hm2; exact (Array.mem_filter.1 hm2).1
      · rw [hnew] at hm2; exact (Array.mem_filter.1 hm2).1
    rw [hleft] at hm3
    have := Array.mem_filter.1 hm3
    exact ⟨by simpa using this.1, by simpa using this.2, hrun⟩

theorem nextM_ok (h : Rel w0 ρ s w) {it : V} {K : K0} (hK : nextM it s K) {it' : Value} (hi : VR ρ it it') (t : TypeId) : GoodV w0 ρ K ((Instr.next it' false t).run P w) := by
  unfold nextM at hK
  split at hK
  · rename_i r
    cases hi with
    | ptr hb =>
    rename_i b'
    obtain ⟨κ', hρ'⟩ := hb
    split at hK
    · rename_i since seen st hg
      obtain ⟨b1, κ, o', hρ1, hw, ho⟩ := h.live r _ hg
      rw [hρ'] at hρ1
      obtain ⟨rfl, rfl⟩ : b' = b1 ∧ κ' = κ := by simpa using hρ1
      cases ho
      refine ⟨.tuple #[.bool false], w, ?_, _, _, ρ, hK, Ext.refl ρ, h, .tuple (.cons (.bool _) .nil)⟩
      unfold Instr.next
      dsimp only
      exact (run_step (run_getObj hw (by intro _ _ _ e; cases e))).trans rfl
    · rename_i m since seen last hg
      obtain ⟨b1, κ, o', hρ1, hw, ho⟩ := h.live r _ hg
      rw [hρ'] at hρ1
      obtain ⟨rfl, rfl⟩ : b' = b1 ∧ κ' = κ := by simpa using hρ1
      cases ho with
      | miter hm =>
      rename_i bm κm
      split at hK
      · rename_i es clock hgm
        obtain ⟨b2, κ2, om, hρm, hwm, hom⟩ := h.live m _ hgm
        rw [hm] at hρm
        obtain ⟨rfl, rfl⟩ : bm = b2 ∧ κm = κ2 := by simpa using hρm
        cases hom with
        | map her =>
        rename_i es'
        split at hK
        · exact hK.elim
        · rename_i hcond
          obtain ⟨hover, hev⟩ := hK
          have hborn : (es'.toList.all fun e => decide (e.born ≥ last)) = (es.all fun e => decide (e.2.2 ≥ last)) := by
            rw [Bool.eq_iff_iff]
            simp only [List.all_eq_true]
            constructor
            · intro hh e he
              obtain ⟨e', he', hr⟩ := her.mem' he
              rw [← hr.2.2]; exact hh e' he'
            · intro hh e' he'
              obtain ⟨e, he, hr⟩ := her.mem he'
              rw [hr.2.2]; exact hh e he
          have hcond' : ¬ (!seen.toArray.isEmpty && !es'.isEmpty && es'.all (fun e => decide (e.born ≥ last))) = true := by
            have h1 : es'.isEmpty = es.isEmpty := by
              have := her.length
              cases hes : es with
              | nil => simp [hes] at this; simp [this]
              | cons => simp [hes] at this; simp [Array.isEmpty, this]
            rw [h1, ← Array.all_toList, hborn]
            simpa using hcond
          obtain ⟨w1, hw1, hres⟩ := next_run (P := P) hw hwm hcond' t
          have hrel1 : Rel w0 ρ s w1 := by rcases hw1 with rfl | rfl; exact h; exact h.drew
          have hw1' : w1.heap[b']? = w.heap[b']? := by rcases hw1 with rfl | rfl <;> rfl
          rcases hres with ⟨e', he', hs, hrun⟩ | ⟨hno, hrun⟩
          · obtain ⟨e, he, hr⟩ := her.mem he'
            have hKe := hev e he (by rw [← hr.2.2]; simpa using hs)
            have hrel2 := hrel1.setObj hg hρ' (o' := .mapIter (some bm) since (seen ++ [e.2.2]).toArray clock) (.miter hm)
            have e1 : seen.toArray.push e'.born = (seen ++ [e.2.2]).toArray := by rw [hr.2.2]; simp
            refine ⟨.tuple #[.bool true, e'.key, e'.val], _, ?_, _, _, ρ, hKe, Ext.refl ρ, hrel2, .tuple (.cons (.bool _) (.cons hr.1 (.cons hr.2.1 .nil)))⟩
            rw [hrun, e1]
            exact (run_step (run_setObj (by rw [hw1']; exact hw) (by intro _ _ _ e; cases e))).trans rfl
          · refine ⟨.tuple #[.bool false], w1, hrun, _, _, ρ, hover ?_, Ext.refl ρ, hrel1, .tuple (.cons (.bool _) .nil)⟩
            rw [List.filter_eq_nil_iff]
            intro e he hlt
            rw [List.mem_filter] at he
            obtain ⟨e', he', hr⟩ := her.mem' he.1
            refine hno e' he' ?_ ?_
            · rw [hr.2.2]; simpa using he.2
            · rw [hr.2.2]; simpa using hlt
      · exact hK.elim
    · exact hK.elim
  · exact hK.elim

theorem find_entR {ρ : Ren} {es : List (V × V × Nat)} {es' : List MapEntry} (h : EntsR ρ es es') {st : Nat} {e : V × V × Nat} (hf : es.find? (fun e => e.2.2 == st) = some e) : ∃ e', es'.find? (fun e => e.born == st) = some e' ∧ entR ρ e e' := by
  induction h with
  | nil => simp at hf
  | cons he ht ih =>
    rename_i a a' l l'
    simp only [List.find?_cons] at hf ⊢
    rw [he.2.2]
    cases hc : (a.2.2 == st) with
    | true => rw [hc] at hf; cases hf; exact ⟨a', rfl, he⟩
    | false => rw [hc] at hf; exact ih hf

theorem entryM_ok (h : Rel w0 ρ s w) {it : V} {K : K0} (hK : entryM it s K) {it' : Value} (hi : VR ρ it it') : GoodV w0 ρ K ((Instr.entry it').run P w) := by
  unfold entryM at hK
  split at hK
  · rename_i r
    cases hi with
    | ptr hb =>
    rename_i b'
    obtain ⟨κ', hρ'⟩ := hb
    split at hK
    · rename_i m since seen last hg
      obtain ⟨b1, κ, o', hρ1, hw, ho⟩ := h.live r _ hg
      rw [hρ'] at hρ1
      obtain ⟨rfl, rfl⟩ : b' = b1 ∧ κ' = κ := by simpa using hρ1
      cases ho with
      | miter hm =>
      rename_i bm κm
      split at hK
      · rename_i es clock hgm
        obtain ⟨b2, κ2, om, hρm, hwm, hom⟩ := h.live m _ hgm
        rw [hm] at hρm
        obtain ⟨rfl, rfl⟩ : bm = b2 ∧ κm = κ2 := by simpa using hρm
        cases hom with
        | map her =>
        rename_i es'
        split at hK
        · rename_i hcl
          split at hK
          · rename_i stamp hst
            split at hK
            · rename_i e hfe
              obtain ⟨e', hf', hr⟩ := find_entR her hfe
              refine ⟨.tuple #[e'.key, e'.val], w, ?_, _, _, ρ, hK, Ext.refl ρ, h, .tuple (.cons hr.1 (.cons hr.2.1 .nil))⟩
              unfold Instr.entry
              dsimp only
              refine (run_step (run_getObj hw (by intro _ _ _ e; cases e))).trans ?_
              have hb : seen.toArray.back? = some stamp := by rw [List.back?_toArray]; exact hst
              dsimp only
              rw [hb]
              dsimp only
              refine (run_step (run_getObj hwm (by intro _ _ _ e; cases e))).trans ?_
              have hf2 : es'.find? (fun e => e.born == stamp) = some e' := by rw [← Array.find?_toList]; exact hf'
              have hcl' : (clock != last) = false := by simp [hcl]
              dsimp only
              rw [hcl', hf2]
              rfl
            · exact hK.elim
          · exact hK.elim
        · exact hK.elim
      · exact hK.elim
    · exact hK.elim
  · exact hK.elim

/-! ### an operation -/
def CallOk (P : Program) (f : FuncId) : Prop := ∃ fn, P.funcs[f]? = some fn ∧ (fn.name == "runtime.NumGoroutine") = false ∧ fn.body.isNone = false

/-- What a function's abstract side promises of the function. -/
def SoundF (P : Program) (f : FuncId) (g : List V → M) : Prop :=
  ∀ (args : List V) (s : AS) (K : K0), g args s K → CallOk P f ∧ ∀ (w0 : World) (ρ : Ren) (w : World) (args' : Array Value), Rel w0 ρ s w → VRs ρ args args'.toList →
    Calls P f args' w fun e w' => ∃ v s' ρ' v', e = .returned v' ∧ K v s' ∧ Ext ρ ρ' ∧ Rel w0 ρ' s' w' ∧ VR ρ' v v'

structure EnvOk (P : Program) (E : Env) : Prop where
  ty : TyEnv P E.ty
  meth : ∀ t n g, E.meth t n = some g → methOf P t n = some g
  C : ∀ f, SoundF P f (E.C f)
  prd : EnvPrd E

/-- How a step of an operation may go. -/
def Good (w0 : World) (ρ : Ren) (E : Env) (K : K0) (r : Result Next) : Prop :=
  (∃ v' w', r = .ok (.value v') w' ∧ ∃ v s' ρ', K v s' ∧ Ext ρ ρ' ∧ Rel w0 ρ' s' w' ∧ VR ρ' v v') ∨
  (∃ w', r = .ok .skip w' ∧ ∃ s' ρ', K undefV s' ∧ Ext ρ ρ' ∧ Rel w0 ρ' s' w') ∨
  (∃ f args' w', r = .ok (.enter f args') w' ∧ ∃ args s', E.C f args s' K ∧ Rel w0 ρ s' w' ∧ VRs ρ args args'.toList)

theorem Good.ofV {E : Env} {K : K0} {x : Sem Value} (h : GoodV w0 ρ K (x.run P w)) : Good w0 ρ E K ((do pure (.value (← x)) : Sem Next).run P w) := by
  obtain ⟨v', w', hr, rest⟩ := h
  exact .inl ⟨v', w', (run_step hr).trans rfl, rest⟩

theorem Good.ofU {E : Env} {K : K0} {x : Sem Unit} (h : GoodU w0 ρ K (x.run P w)) : Good w0 ρ E K ((do x; pure .skip : Sem Next).run P w) := by
  obtain ⟨w', hr, rest⟩ := h
  exact .inr (.inl ⟨w', (run_step hr).trans rfl, rest⟩)

theorem callFunc_ok {f : FuncId} (h : CallOk P f) (args : Array Value) (w : World) : (callFunc f args).run P w = .ok (.enter f args) w := by
  obtain ⟨fn, hf, hn, hb⟩ := h
  unfold callFunc
  refine (run_step (run_program P w)).trans ?_
  simp only [hf, hn, Bool.false_eq_true, if_false, hb]
  rfl

def isPtrD : TypeDesc → Bool | .pointer _ => true | _ => false

theorem methOf_ok {t : TypeId} {n : String} {g : FuncId} (h : methOf P t n = some g) (v : Value) (k : Nat) (w : World) : (method (k + 1) t v n).run P w = .ok (g, v) w := by
  unfold methOf at h
  split at h
  · simp at h
  · rename_i i hi
    split at h
    · simp at h
    · rename_i m hm
      unfold method
      refine (run_step (run_info hi w)).trans ?_
      rw [hm]
      dsimp only
      cases hp : m.path.toList with
      | cons a b => simp [hp] at h
      | nil =>
        cases hf : m.func with
        | none => simp [hp, hf] at h
        | some fp =>
          obtain ⟨f, pr⟩ := fp
          cases hu : P.underlying t with
          | none => simp [hp, hf, hu] at h
          | some d =>
            refine (run_step (a := (t, Place.val v)) (w' := w) rfl).trans ?_
            dsimp only
            have hrec : ∀ wr, f = g → isPtrD d = pr → (receiverAt t (.val v) pr wr).run P w = .ok v w := by
              intro wr _ hd
              unfold receiverAt
              refine (run_step (run_under hu w)).trans ?_
              cases d <;> simp only [isPtrD] at hd <;> subst hd <;> rfl
            have hfg : f = g ∧ isPtrD d = pr := by
              simp only [hp, hf, hu] at h
              cases pr <;> cases d <;> simp at h <;> exact ⟨h, rfl⟩
            refine (run_step (hrec _ hfg.1 hfg.2)).trans ?_
            rw [hfg.1]
            rfl

theorem callV_ok {E : Env} (hE : EnvOk P E) (h : Rel w0 ρ s w) {f : V} {args : List V} {K : K0} (hK : callV E f args s K) {f' : Value} (hf : VR ρ f f') {args' : Array Value} (ha : VRs ρ args args'.toList) :
    Good w0 ρ E K ((do let d ← Deferred.ofValue f' args'; invoke d.target d.args : Sem Next).run P w) := by
  unfold callV at hK
  split at hK
  · rename_i g first captured
    cases hf with
    | func _ h1 h2 =>
    rename_i f1 c1
    have hc := (hE.C g _ _ _ hK).1
    refine .inr (.inr ⟨g, f1 ++ args' ++ c1, w, ?_, _, s, hK, h, ?_⟩)
    · refine (run_step (a := (⟨.fn (.func g) c1, f1 ++ args'⟩ : Deferred)) (w' := w) rfl).trans ?_
      exact callFunc_ok hc _ w
    · simp only [Array.toList_append]
      exact (h1.append ha).append h2
  · exact hK.elim

theorem invV_ok {E : Env} (hE : EnvOk P E) (h : Rel w0 ρ s w) {r : V} {name : String} {args : List V} {K : K0} (hK : invV E r name args s K) {r' : Value} (hr : VR ρ r r') {args' : Array Value} (ha : VRs ρ args args'.toList) :
    Good w0 ρ E K ((invoke (.fn (.method name) #[]) (#[r'] ++ args')).run P w) := by
  unfold invV at hK
  split at hK
  · rename_i t v
    cases hr with
    | iface _ hv =>
    rename_i v'
    split at hK
    · rename_i g hg
      have hc := (hE.C g _ _ _ hK).1
      have hm := hE.meth _ _ _ hg
      refine .inr (.inr ⟨g, #[v'] ++ args', w, ?_, _, s, hK, h, by simpa using VRs.cons hv ha⟩)
      unfold invoke
      have e0 : (#[Value.iface t v'] ++ args')[0]? = some (.iface t v') := by rw [Array.getElem?_append_left (by simp)]; rfl
      simp only [e0]
      unfold callMethod
      dsimp only
      refine (run_step (run_program P w)).trans ?_
      refine (run_step (a := (g, v')) (w' := w) ?_).trans ?_
      · have hd : 0 < Made.depth := by decide
        rw [show P.types.size + Made.depth = (P.types.size + Made.depth - 1) + 1 by omega]
        exact methOf_ok hm v' _ w
      · dsimp only
        have e1 : (#[Value.iface t v'] ++ args').extract 1 (#[Value.iface t v'] ++ args').size = args' := by
          apply Array.ext'; simp [List.extract_eq_take_drop]
        rw [e1]
        exact callFunc_ok hc _ w
    · exact hK.elim
  · exact hK.elim
end
end Go.Rx
end
section
/- Soundness of every operation: the theorem. -/
namespace Go.Rx
open Go

section
variable {P : Program} {w0 : World} {ρ : Ren} {s : AS} {w : World}

theorem parts_ok {ev : Ev} {ev' : Operand → Value} (hev : ∀ x, VR ρ (ev x) (ev' x)) (parts : Array (Nat × Operand)) (j i : Nat) (v : V)
    (hj : (parts.toList.map fun p => (p.1, ev p.2))[j]? = some (i, v)) : ∃ v', (parts.map fun (i, x) => (i, ev' x))[j]? = some (i, v') ∧ VR ρ v v' := by
  simp at hj
  obtain ⟨a, b, hab, rfl, rfl⟩ := hj
  exact ⟨ev' b, by simp [hab], hev b⟩

theorem evSlice_ok {E : Env} (hE : EnvOk P E) (h : Rel w0 ρ s w) {ev : Ev} {ev' : Operand → Value} (hev : ∀ x, VR ρ (ev x) (ev' x)) {K : K0} {t e : TypeId} {len : Nat} {parts : Array (Nat × Operand)} {i : TI}
    (hk : kd E.ty t = some (.slice e)) (hi : E.ty e = some i) (hl : len * i.size ≤ 16777216) {cs : List V}
    (hcs : fillV (fun j => some (j * i.size, i.size)) (zeros (cellsV i.zero) len) (parts.toList.map fun p => (p.1, ev p.2)) = some cs) (hc : (cellsV i.zero).length = i.size) (hK : newS cs len s K) :
    GoodV w0 ρ K ((Instr.buildSlice t len (parts.map fun (i, x) => (i, ev' x))).run P w) :=
  buildSlice_ok hE.ty h hk hi hl hcs hc hK (by rw [Array.size_map, List.length_map, Array.length_toList]) (parts_ok hev parts)

theorem two_args {ev : Ev} {args : Array Operand} {x y : V} (h : args.toList.map ev = [x, y]) : ∃ ax ay, args = #[ax, ay] ∧ x = ev ax ∧ y = ev ay := by
  match hl : args.toList, h with
  | [ax, ay], h => simp at h; exact ⟨ax, ay, Array.ext' hl, h.1.symm, h.2.symm⟩
  | [], h => simp at h
  | [_], h => simp at h
  | _ :: _ :: _ :: _, h => simp at h
theorem map2 (f : Operand → Value) (a b : Operand) : Array.map f #[a, b] = #[f a, f b] := by simp
theorem map1 (f : Operand → Value) (a : Operand) : Array.map f #[a] = #[f a] := by simp
theorem one_arg {ev : Ev} {args : Array Operand} {x : V} (h : args.toList.map ev = [x]) : ∃ ax, args = #[ax] ∧ x = ev ax := by
  match hl : args.toList, h with
  | [ax], h => simp at h; exact ⟨ax, Array.ext' hl, h.symm⟩
  | [], h => simp at h
  | _ :: _ :: _, h => simp at h

theorem evBuiltin_ok {E : Env} (hE : EnvOk P E) (h : Rel w0 ρ s w) {ev : Ev} {ev' : Operand → Value} (hev : ∀ x, VR ρ (ev x) (ev' x)) {K : K0} {b : Builtin} {args : Array Operand} {argTypes : Array TypeId}
    {dst : Option Tmp} {type : TypeId} {pos : String} {after : Array Edge} {guard : Option (Nat × Bool)} (hK : builtinOp E b argTypes.toList (args.toList.map ev) s K) :
    Good w0 ρ E K ((execOp ev' ⟨dst, .call ⟨.builtin b, args, argTypes⟩, type, pos, after, guard⟩).run P w) := by
  have hty := hE.ty
  have hb : ∀ (x : Sem Value), (∀ w, (builtin b argTypes type (args.map fun | .const _ => true | _ => false) (args.map ev')).run P w = (do pure (.value (← x)) : Sem Next).run P w) →
      GoodV w0 ρ K (x.run P w) → Good w0 ρ E K ((execOp ev' ⟨dst, .call ⟨.builtin b, args, argTypes⟩, type, pos, after, guard⟩).run P w) := by
    intro x hx hg
    have := Good.ofV (E := E) hg
    rw [← hx w] at this
    exact this
  unfold builtinOp at hK
  split at hK
  · rename_i t u ts x y hts hxy
    obtain ⟨ax, ay, rfl, rfl, rfl⟩ := two_args hxy
    have ht0 : argTypes[0]? = some t := by rw [← Array.getElem?_toList, hts]; rfl
    have ht1 : argTypes[1]? = some u := by rw [← Array.getElem?_toList, hts]; rfl
    split at hK
    · rename_i e k hk hu
      split at hK
      · exact hK.elim
      · rename_i hi hui
        split at hK
        · rename_i hz
          refine hb _ (fun w => rfl) (by rw [map2]; exact app_ok hty h hk hu (fun q e => hui q e) hi ht0 ht1 (by simpa using hz) hK (hev ax) (hev ay))
        · exact hK.elim
      · exact hK.elim
    · exact hK.elim
  · rename_i t ts x y hts hxy
    obtain ⟨ax, ay, rfl, rfl, rfl⟩ := two_args hxy
    have ht0 : argTypes[0]? = some t := by rw [← Array.getElem?_toList, hts]; rfl
    split at hK
    · rename_i e hk
      split at hK
      · rename_i i hi; exact hb _ (fun w => rfl) (by rw [map2]; exact cpy_ok hty h hk hi ht0 hK (hev ax) (hev ay))
      · exact hK.elim
    · exact hK.elim
  · rename_i t ts x hts hxy
    obtain ⟨ax, rfl, rfl⟩ := one_arg hxy
    have ht0 : argTypes[0]? = some t := by rw [← Array.getElem?_toList, hts]; rfl
    split at hK
    · rename_i e hk
      split at hK
      · rename_i i hi; exact hb _ (fun w => rfl) (by rw [map1]; exact clr_ok hty h hk hi ht0 hK (hev ax))
      · exact hK.elim
    · exact hK.elim
  · rename_i t ts x hts hxy
    obtain ⟨ax, rfl, rfl⟩ := one_arg hxy
    have ht0 : argTypes[0]? = some t := by rw [← Array.getElem?_toList, hts]; rfl
    split at hK
    · rename_i q e hk; exact hb _ (fun w => rfl) (by rw [map1]; exact mapLen_ok hty h hk ht0 hK (hev ax))
    · exact hK.elim
  · rename_i t ts x y hts hxy
    obtain ⟨ax, ay, rfl, rfl, rfl⟩ := two_args hxy
    have ht0 : argTypes[0]? = some t := by rw [← Array.getElem?_toList, hts]; rfl
    split at hK
    · rename_i q e hk
      split at hK
      · rename_i qk hq; exact hb _ (fun w => rfl) (by rw [map2]; exact mapDel_ok hty h hk hq ht0 hK (hev ax) (hev ay))
      · exact hK.elim
    · exact hK.elim
  · exact hK.elim

theorem evOp_ok {E : Env} (hE : EnvOk P E) (h : Rel w0 ρ s w) {o : Oper} {ev : Ev} {ev' : Operand → Value} (hev : ∀ x, VR ρ (ev x) (ev' x)) {K : K0} (hK : evOp E o.op ev s K) :
    Good w0 ρ E K ((execOp ev' o).run P w) := by
  have hty := hE.ty
  unfold evOp at hK
  split at hK
  · rename_i r hr
    unfold optK at hK
    split at hK
    · rename_i v
      obtain ⟨v', hv, hrun⟩ := pureOp_ok (P := P) hty hr hev
      exact .inl ⟨v', w, hrun w, v, s, ρ, hK, Ext.refl ρ, h, hv⟩
    · exact hK.elim
  · rename_i hpure
    obtain ⟨dst, op, type, pos, after, guard⟩ := o
    simp only at hK hpure
    split at hK
    · -- load
      rename_i t x
      split at hK
      · rename_i ti ht; exact Good.ofV (ldT_ok hty h ht hK (hev x))
      · exact hK.elim
    · -- store
      rename_i t a x
      split at hK
      · rename_i ti ht; exact Good.ofU (st_ok hty h ht hK (hev a) (hev x))
      · exact hK.elim
    · -- alloc
      rename_i t
      split at hK
      · rename_i ti ht; exact Good.ofV (alloc_ok hty h ht hK)
      · exact hK.elim
    · -- box
      rename_i t x
      split at hK
      · exact Good.ofV (boxV_ok h hK (hev x) t)
      · exact hK.elim
    · -- buildSlice
      rename_i t len parts
      split at hK
      · rename_i e hk
        split at hK
        · rename_i i hi
          split at hK
          · rename_i hl
            split at hK
            · rename_i cs hcs
              split at hK
              · rename_i hc
                exact Good.ofV (evSlice_ok hE h hev hk hi hl hcs hc.2 hK)
              · exact hK.elim
            · exact hK.elim
          · exact hK.elim
        · exact hK.elim
      · exact hK.elim
    · -- convert
      rename_i a b x
      split at hK
      · rename_i e hka hkb
        split at hK
        · rename_i hke
          obtain ⟨da, hda, hdka⟩ := kd_under hty hka
          obtain ⟨db, hdb, hdkb⟩ := kd_under hty hkb
          obtain ⟨de, hde, hdke⟩ := kd_under hty hke
          obtain rfl := kdOf_slice hdka
          obtain rfl := kdOf_str hdkb
          obtain rfl := kdOf_int hdke
          have hs := toStr_ok (P := P) h hK (hev x)
          refine Good.ofV (x := convert a b (ev' x)) ?_
          have hx := hev x
          have hrun : (convert a b (ev' x)).run P w = (Conv.bytesToString (ev' x)).run P w := by
            unfold convert
            refine (run_step (run_under hda w)).trans ?_
            refine (run_step (run_under hdb w)).trans ?_
            generalize ev' x = x' at *
            have : ∃ o n c, x' = .slice o n c := by
              unfold toStr at hK
              split at hK
              · rename_i heq; rw [heq] at hx; cases hx; exact ⟨_, _, _, rfl⟩
              · rename_i heq; rw [heq] at hx; cases hx; exact ⟨_, _, _, rfl⟩
              · exact hK.elim
            obtain ⟨o, n, c, rfl⟩ := this
            dsimp only
            refine (run_step (run_under hde w)).trans ?_
            rfl
          rw [hrun]; exact hs
        · exact hK.elim
      · rename_i e hka hkb
        split at hK
        · rename_i hke
          obtain ⟨da, hda, hdka⟩ := kd_under hty hka
          obtain ⟨db, hdb, hdkb⟩ := kd_under hty hkb
          obtain ⟨de, hde, hdke⟩ := kd_under hty hke
          obtain rfl := kdOf_str hdka
          obtain rfl := kdOf_slice hdkb
          obtain rfl := kdOf_int hdke
          have hx := hev x
          have : ∃ bs : List UInt8, ev' x = .string ⟨bs.toArray⟩ := by
            unfold toBytes at hK
            split at hK
            · rename_i bs heq; rw [heq] at hx; generalize ev' x = x' at *; cases hx; exact ⟨_, rfl⟩
            · exact hK.elim
          obtain ⟨bs, hbs⟩ := this
          rw [hbs] at hx
          have hs := toBytes_ok (P := P) hty h hke hK hx
          refine Good.ofV (x := convert a b (ev' x)) ?_
          have hrun : (convert a b (ev' x)).run P w = (Conv.stringToBytes e ⟨bs.toArray⟩).run P w := by
            unfold convert
            rw [hbs]
            refine (run_step (run_under hda w)).trans ?_
            refine (run_step (run_under hdb w)).trans ?_
            dsimp only
            refine (run_step (run_under hde w)).trans ?_
            rfl
          rw [hrun]; exact hs
        · exact hK.elim
      · exact hK.elim
    · -- makeSlice
      rename_i t l c
      split at hK
      · rename_i e hk
        split at hK
        · rename_i i hi; exact Good.ofV (mkSl_ok hty h hk hi hK (hev l) (hev c))
        · exact hK.elim
      · exact hK.elim
    · -- makeMap
      rename_i t r
      split at hK
      · exact Good.ofV (x := Instr.makeMap t none) (by
          have := mkMap_ok (P := P) h hK
          exact this)
      · rename_i x
        split at hK
        · rename_i q e k n hk hx
          obtain ⟨d, hd, hdk⟩ := kd_under hty hk
          obtain rfl := kdOf_map hdk
          have hxv := hev x
          rw [hx] at hxv
          refine Good.ofV (x := Instr.makeMap t (some (ev' x))) ?_
          generalize ev' x = x' at *
          cases hxv
          have := mkMap_ok (P := P) h hK
          have hrun : (Instr.makeMap t (some (.int k n))).run P w = (do pure (.map (some (← newObj (.map #[] 0)))) : Sem Value).run P w := by
            unfold Instr.makeMap
            dsimp only
            refine (run_step (run_under hd w)).trans ?_
            dsimp only
            refine (run_step (a := n) (w' := w) rfl).trans ?_
            rfl
          rw [hrun]; exact this
        · exact hK.elim
    · -- lookup
      rename_i t m k ok
      split at hK
      · rename_i q e hk
        split at hK
        · rename_i qk i hq hi; exact Good.ofV (lookV_ok hty h hk hq hi hK (hev m) (hev k))
        · exact hK.elim
      · exact hK.elim
    · -- mapUpdate
      rename_i t m k v
      split at hK
      · rename_i q e hk
        split at hK
        · rename_i qk hq; exact Good.ofU (mapSet_ok hty h hk hq hK (hev m) (hev k) (hev v))
        · exact hK.elim
      · exact hK.elim
    · -- insert
      rename_i t m k v
      split at hK
      · rename_i q e hk
        split at hK
        · rename_i qk hq; exact Good.ofU (mapSet_ok hty h hk hq hK (hev m) (hev k) (hev v))
        · exact hK.elim
      · exact hK.elim
    · -- range
      rename_i t x
      split at hK
      · rename_i q e hk; exact Good.ofV (rangeM_ok hty h hk hK (hev x))
      · rename_i hk; exact Good.ofV (rangeS_ok hty h hk hK (hev x))
      · exact hK.elim
    · -- next
      rename_i it isString
      split at hK
      · exact Good.ofV (nextM_ok h hK (hev it) type)
      · exact hK.elim
    · -- entry
      rename_i it
      exact Good.ofV (entryM_ok h hK (hev it))
    · -- call
      rename_i callee args argTypes
      split at hK
      · rename_i f
        exact callV_ok hE h hK (hev f) (args' := args.map ev') (by simpa using VRs.map_ev hev args.toList)
      · rename_i r name
        have := invV_ok (w := w) hE h hK (hev r) (args' := args.map ev') (by simpa using VRs.map_ev hev args.toList)
        exact this
      · rename_i b
        exact evBuiltin_ok hE h hev hK
    · exact hK.elim
end
end Go.Rx
end
section
/- A region whose order is open: what may be exchanged. -/
namespace Go.Rx
open Go

section congr
variable {ty : TypeId → Option TI}

theorem parts_congr {ev ev' : Ev} (ps : Array (Nat × Operand)) (h : ∀ x ∈ ps.toList.map (·.2), ev x = ev' x) :
    (ps.toList.map fun p => (p.1, ev p.2)) = ps.toList.map fun p => (p.1, ev' p.2) :=
  List.map_congr_left fun p hp => by rw [h p.2 (List.mem_map.2 ⟨p, hp, rfl⟩)]

theorem map_congr_op {ev ev' : Ev} (o : Option Operand) (h : ∀ x ∈ o.toArray, ev x = ev' x) : o.map ev = o.map ev' := by
  cases o with
  | none => rfl
  | some x => simp only [Option.map_some]; rw [h x (by simp)]

theorem pureOp_congr {ev ev' : Ev} {o : Op} (h : ∀ x ∈ o.operands, ev x = ev' x) : pureOp ty o ev = pureOp ty o ev' := by
  cases o <;> simp only [Op.operands] at h <;> simp only [pureOp]
  case build t ps => rw [parts_congr ps (fun x hx => h x (by simpa using hx))]
  case makeFunc fn a b =>
    rw [List.map_congr_left (l := a.toList) (fun x hx => h x (by simp at hx; simp [hx])), List.map_congr_left (l := b.toList) (fun x hx => h x (by simp at hx; simp [hx]))]
  case slice t x lo hi mx =>
    rw [h x (by simp), map_congr_op lo (fun y hy => h y (by simp; simp at hy; simp [hy])), map_congr_op hi (fun y hy => h y (by simp; simp at hy; simp [hy])), map_congr_op mx (fun y hy => h y (by simp; simp at hy; simp [hy]))]
  case call c =>
    obtain ⟨callee, args, ts⟩ := c
    cases callee <;> try rfl
    rename_i b
    have ha : ∀ x ∈ args.toList, ev x = ev' x := fun x hx => h x (by simp [Call.operands]; simpa using hx)
    simp only
    split
    · rename_i x t r hargs hts
      rw [ha x (by rw [hargs]; simp)]
    · rename_i x r hargs
      rw [ha x (by rw [hargs]; simp), List.map_congr_left (l := r) (fun y hy => ha y (by rw [hargs]; simp [hy]))]
    · rename_i x r hargs
      rw [ha x (by rw [hargs]; simp), List.map_congr_left (l := r) (fun y hy => ha y (by rw [hargs]; simp [hy]))]
    · rfl
  all_goals (first | rfl | (simp_all; done))

theorem evOp_congr {E : Env} {ev ev' : Ev} {o : Op} (h : ∀ x ∈ o.operands, ev x = ev' x) (s : AS) (K : K0) : evOp E o ev s K = evOp E o ev' s K := by
  unfold evOp
  rw [pureOp_congr (ty := E.ty) h]
  generalize pureOp E.ty o ev' = r
  cases r with
  | some r => rfl
  | none =>
    cases o <;> simp only [Op.operands] at h <;> simp only
    case buildSlice t n ps => rw [parts_congr ps (fun x hx => h x (by simpa using hx))]
    case makeMap t r =>
      cases r with
      | none => rfl
      | some x => simp only; rw [h x (by simp)]
    case call c =>
      obtain ⟨callee, args, ts⟩ := c
      have ha : args.toList.map ev = args.toList.map ev' := List.map_congr_left fun x hx => h x (by cases callee <;> simp [Call.operands] <;> simp at hx <;> simp [hx])
      cases callee with
      | value f => simp only; rw [ha, h f (by simp [Call.operands])]
      | invoke r m => simp only; rw [ha, h r (by simp [Call.operands])]
      | builtin b => simp only; rw [ha]
    all_goals (first | rfl | (simp_all; done))
end congr

/-! ### is an operation wanted? -/
def wantedV (all : List Oper) (g : Option (Nat × Bool)) (tm : TF) : Option Bool :=
  match g with
  | none => some true
  | some (j, want) => match (all[j]?).bind (·.dst) with
    | none => some false
    | some d => match tm.getD d .junk with
      | .bool b => some (b == want)
      | .tuple [] => some false
      | _ => none

theorem set_same {tm : TF} {d : Nat} {v : V} (h : tm.getD d .junk = v) (hv : v ≠ .junk) : tm.set d v = tm := by
  by_cases hd : d < tm.nt
  · rw [TF.getD_in hd] at h
    refine TF.ext' rfl fun i => ?_
    rw [TF.set_f]
    split
    · rename_i e; rw [e]; exact h.symm
    · rfl
  · rw [TF.getD_out hd] at h
    exact absurd h.symm hv

theorem evGuard_iff (all : List Oper) (g : Option (Nat × Bool)) (tm : TF) (X Y : TF → Prop) :
    evGuard all g tm X Y ↔ (wantedV all g tm = some true ∧ X tm) ∨ (wantedV all g tm = some false ∧ Y tm) := by
  unfold evGuard wantedV
  split
  · simp
  · rename_i j want
    split
    · rename_i hd; simp [hd]
    · rename_i d hd
      simp only [hd]
      generalize hv : tm.getD d .junk = v
      cases v with
      | bool b =>
        have hs : tm.set d (.bool b) = tm := set_same hv (by simp)
        cases b <;> cases want <;> simp [hs]
      | tuple l =>
        cases l with
        | nil =>
          have hs : tm.set d undefV = tm := set_same hv (by simp [undefV])
          simp [hs]
        | cons a l => simp
      | _ => simp

theorem wantedV_put {all : List Oper} {o : Oper} {tm : TF} {d : Option Tmp} {v : V} (h : ∀ e, d = some e → e ∉ lookT all o) : wantedV all o.guard (putT tm d v) = wantedV all o.guard tm := by
  cases d with
  | none => rfl
  | some e =>
    have he := h e rfl
    unfold wantedV
    split
    · rfl
    · rename_i j want hg
      split
      · rfl
      · rename_i t ht
        have hne : e ≠ t := by
          intro e2; subst e2
          apply he
          unfold lookT
          rw [hg]
          simp only [ht]
          simp
        simp only [putT]
        rw [TF.getD_set_ne hne]

theorem evO_put {tm : TF} {d : Option Tmp} {v : V} {x : Operand} (h : ∀ e, d = some e → x ≠ .tmp e) : evO (putT tm d v) x = evO tm x := by
  cases d with
  | none => rfl
  | some e =>
    cases x with
    | tmp t =>
      have hne : e ≠ t := fun e2 => h e rfl (by rw [e2])
      simp only [evO, putT]
      rw [TF.getD_set_ne hne]
    | _ => rfl

theorem evO_put_op {all : List Oper} {o : Oper} {tm : TF} {d : Option Tmp} {v : V} (h : ∀ e, d = some e → e ∉ lookT all o) : ∀ x ∈ o.op.operands, evO (putT tm d v) x = evO tm x := by
  intro x hx
  refine evO_put fun e he hxe => h e he ?_
  subst hxe
  unfold lookT
  exact List.mem_append_left _ (List.mem_filterMap.2 ⟨.tmp e, by simpa using hx, rfl⟩)

theorem putT_comm (tm : TF) {d e : Option Tmp} (v u : V) (h : ∀ x, d = some x → e ≠ some x) : putT (putT tm d v) e u = putT (putT tm e u) d v := by
  cases d with
  | none => rfl
  | some x =>
    cases e with
    | none => rfl
    | some y =>
      have hne : x ≠ y := fun e => h x rfl (by rw [e])
      simp only [putT]
      exact TF.set_comm _ _ _ hne

structure Apart (all : List Oper) (x y : Oper) : Prop where
  d1 : ∀ e, x.dst = some e → e ∉ lookT all y
  d2 : ∀ e, x.dst = some e → y.dst ≠ some e
  d3 : ∀ e, y.dst = some e → e ∉ lookT all x

theorem apartT_spec {all : List Oper} {x y : Oper} (h : apartT all x y = true) : Apart all x y := by
  unfold apartT at h
  rw [Bool.and_eq_true] at h
  obtain ⟨h1, h2⟩ := h
  refine ⟨fun e he => ?_, fun e he hy => ?_, fun e he => ?_⟩
  · rw [he] at h1; simp only [Bool.and_eq_true] at h1
    have := h1.1
    simp at this; exact this
  · rw [he, hy] at h1; simp at h1
  · rw [he] at h2; simp at h2; exact h2

theorem Apart.symm {all : List Oper} {x y : Oper} (h : Apart all x y) : Apart all y x := ⟨h.d3, fun e he hx => h.d2 e hx he, h.d1⟩

/-! ### one step -/
abbrev KD := TF → AS → List Ld → List Sn → Prop

def dstep (E : Env) (all : List Oper) (bs : List Nat) (o : Nat × Oper) (tm : TF) (s : AS) (L : List Ld) (S : List Sn) (k : KD) : Prop :=
  evGuard all o.2.guard tm
    (fun tm => match opClass E.ty o.2.op with
      | 0 => evOp E o.2.op (evO tm) s (fun v s' => k (putT tm o.2.dst v) s' L S)
      | 1 => match o.2.op with
        | .load t x => match E.ty t with
          | some ti => ldT ti (evO tm x) s (fun v s' => chkSns bs o.1 ti (evO tm x) v S (k (putT tm o.2.dst v) s' (⟨o.1, ti, evO tm x, v⟩ :: L) S))
          | none => False
        | _ => False
      | _ => evOp E o.2.op (evO tm) s (fun v s' => chkLds bs o.1 s' L (k (putT tm o.2.dst v) s' L (⟨o.1, s⟩ :: S))))
    (fun tm => k (putT tm o.2.dst undefV) s L S)

theorem evDraw_cons (E : Env) (all : List Oper) (bs : List Nat) (o : Nat × Oper) (l : List (Nat × Oper)) (tm : TF) (s : AS) (L : List Ld) (S : List Sn) (k : TF → AS → Prop) :
    evDraw E all bs (o :: l) tm s L S k = dstep E all bs o tm s L S (fun tm s L S => evDraw E all bs l tm s L S k) := rfl

theorem chkB_iff (b : Bool) (X : Prop) : chkB b X ↔ b = true ∧ X := by cases b <;> simp [chkB]

theorem chkLds_iff (bs : List Nat) (i : Nat) (s : AS) (L : List Ld) (X : Prop) : chkLds bs i s L X ↔ (∀ l ∈ L, unord bs l.i i = true → holds l.ti l.p s l.v = true) ∧ X := by
  induction L with
  | nil => simp [chkLds]
  | cons l L ih =>
    have e : chkLds bs i s (l :: L) X = (match unord bs l.i i with | true => chkB (holds l.ti l.p s l.v) (chkLds bs i s L X) | false => chkLds bs i s L X) := rfl
    rw [e]
    cases hu : unord bs l.i i
    · simp only [ih]; simp [hu]
    · simp only [chkB_iff, ih]; simp [hu, and_assoc]

theorem chkSns_iff (bs : List Nat) (i : Nat) (ti : TI) (p v : V) (S : List Sn) (X : Prop) : chkSns bs i ti p v S X ↔ (∀ l ∈ S, unord bs l.i i = true → holds ti p l.s v = true) ∧ X := by
  induction S with
  | nil => simp [chkSns]
  | cons l L ih =>
    have e : chkSns bs i ti p v (l :: L) X = (match unord bs l.i i with | true => chkB (holds ti p l.s v) (chkSns bs i ti p v L X) | false => chkSns bs i ti p v L X) := rfl
    rw [e]
    cases hu : unord bs l.i i
    · simp only [ih]; simp [hu]
    · simp only [chkB_iff, ih]; simp [hu, and_assoc]

theorem ldT_peek' {ti : TI} {p : V} {s : AS} {K : K0} : ldT ti p s K ↔ ∃ v, peek ti p s = some v ∧ K v s := by
  unfold ldT peek
  cases p with
  | ptr a =>
    cases a with
    | none => cases isAggK ti.kind <;> simp [ldA, ld1]
    | some a =>
      cases isAggK ti.kind with
      | true => simp only [ldA]; cases ldN s a ti.size <;> simp
      | false => simp only [ld1, optK]; cases ldC s a <;> simp
  | _ => cases isAggK ti.kind <;> simp [ldA, ld1]

/-- What an operation that changes no memory comes to. -/
inductive Det (E : Env) (all : List Oper) (bs : List Nat) (o : Nat × Oper) (tm : TF) (s : AS) (S : List Sn) : V → List Ld → Prop
  | no (h : wantedV all o.2.guard tm = some false) : Det E all bs o tm s S undefV []
  | pure {v : V} (h : wantedV all o.2.guard tm = some true) (hc : opClass E.ty o.2.op = 0) (hp : pureOp E.ty o.2.op (evO tm) = some (some v)) : Det E all bs o tm s S v []
  | load {v : V} {t : TypeId} {x : Operand} {ti : TI} (h : wantedV all o.2.guard tm = some true) (hc : opClass E.ty o.2.op = 1) (ho : o.2.op = .load t x) (ht : E.ty t = some ti)
      (hv : peek ti (evO tm x) s = some v) (hs : ∀ l ∈ S, unord bs l.i o.1 = true → holds ti (evO tm x) l.s v = true) : Det E all bs o tm s S v [⟨o.1, ti, evO tm x, v⟩]

theorem pure_of_class {ty : TypeId → Option TI} {o : Op} {ev : Ev} (h : opClass ty o = 0) : (∃ r, pureOp ty o ev = some r) ∨ ∀ (E : Env) s K, E.ty = ty → ¬ evOp E o ev s K := by
  unfold opClass at h
  split at h <;> first
    | (left; simp only [pureOp]; exact ⟨_, rfl⟩)
    | (simp at h; done)
    | skip
  · left; simp only [pureOp]; split <;> exact ⟨_, rfl⟩
  · left; simp only [pureOp]; split <;> exact ⟨_, rfl⟩
  · left; simp only [pureOp]
    split
    · split <;> exact ⟨_, rfl⟩
    · split <;> exact ⟨_, rfl⟩
    · split <;> exact ⟨_, rfl⟩
    · exact ⟨_, rfl⟩
  · left; simp only [pureOp]; split <;> exact ⟨_, rfl⟩
  · left; simp only [pureOp]; split <;> exact ⟨_, rfl⟩
  · left; simp only [pureOp]
    split
    · split <;> exact ⟨_, rfl⟩
    · split <;> exact ⟨_, rfl⟩
    · exact ⟨_, rfl⟩
  · left; simp only [pureOp]
    split
    · exact ⟨_, rfl⟩
    · split <;> exact ⟨_, rfl⟩
    · exact ⟨_, rfl⟩
  · left; simp only [pureOp]; split <;> exact ⟨_, rfl⟩
  · rename_i a b x
    split at h
    · rename_i q1 q2 ha hb
      by_cases hx : ∃ k n, ev x = .int k n
      · obtain ⟨k, n, hx⟩ := hx
        left; simp only [pureOp, convI, ha, hb, hx]; exact ⟨_, rfl⟩
      · right
        intro E s K hE hev
        subst hE
        have hp : pureOp E.ty (.convert a b x) ev = none := by
          simp only [pureOp, convI, ha, hb]
          cases hv : ev x <;> first | rfl | exact absurd ⟨_, _, hv⟩ hx
        unfold evOp at hev
        rw [hp] at hev
        simp only [ha, hb] at hev
    · simp at h
  · rename_i b args ts
    split at h
    · rename_i x t r hargs hts
      left
      simp only [pureOp, hargs, hts]
      split at h
      · rename_i hk; rw [hk]; exact ⟨_, rfl⟩
      · rename_i n e hk; rw [hk]; exact ⟨_, rfl⟩
      · rename_i e hk; rw [hk]; exact ⟨_, rfl⟩
      · simp at h
    · rename_i x r hargs
      left
      simp only [pureOp, hargs]; exact ⟨_, rfl⟩
    · rename_i x r hargs
      left
      simp only [pureOp, hargs]; exact ⟨_, rfl⟩
    · simp at h

theorem dstep_det {E : Env} {all : List Oper} {bs : List Nat} {o : Nat × Oper} {tm : TF} {s : AS} {L : List Ld} {S : List Sn} {k : KD} (hc : opClass E.ty o.2.op ≠ 2) :
    dstep E all bs o tm s L S k ↔ ∃ v La, Det E all bs o tm s S v La ∧ k (putT tm o.2.dst v) s (La ++ L) S := by
  unfold dstep
  rw [evGuard_iff]
  constructor
  · rintro (⟨hw, h⟩ | ⟨hw, h⟩)
    · split at h
      · rename_i h0
        rcases pure_of_class (ev := evO tm) h0 with ⟨r, hr⟩ | hn
        · unfold evOp at h
          rw [hr] at h
          cases r with
          | none => exact h.elim
          | some v => exact ⟨v, [], .pure hw h0 hr, h⟩
        · exact (hn E s _ rfl h).elim
      · rename_i h1
        split at h
        · rename_i t x ho
          split at h
          · rename_i ti ht
            obtain ⟨v, hv, hh⟩ := ldT_peek'.1 h
            rw [chkSns_iff] at hh
            exact ⟨v, _, .load hw h1 ho ht hv hh.1, hh.2⟩
          · exact h.elim
        · exact h.elim
      · rename_i h0 h1
        exfalso
        have : opClass E.ty o.2.op ≤ 2 := by
          unfold opClass
          split <;> first | omega | (split <;> first | omega | (split <;> omega)) | skip
        generalize opClass E.ty o.2.op = c at *
        match c, h0, h1, hc with
        | 0, h0, _, _ => exact h0 rfl
        | 1, _, h1, _ => exact h1 rfl
        | 2, _, _, hc => exact hc rfl
        | n + 3, _, _, _ => omega
    · exact ⟨undefV, [], .no hw, h⟩
  · rintro ⟨v, La, hd, h⟩
    cases hd with
    | no hw => exact .inr ⟨hw, h⟩
    | pure hw h0 hp =>
      refine .inl ⟨hw, ?_⟩
      rw [h0]
      simp only
      unfold evOp
      rw [hp]
      exact h
    | load hw h1 ho ht hv hs =>
      refine .inl ⟨hw, ?_⟩
      rw [h1, ho]
      simp only [ht]
      rw [ldT_peek']
      exact ⟨v, hv, (chkSns_iff _ _ _ _ _ _ _).2 ⟨hs, h⟩⟩

theorem dstep_chg {E : Env} {all : List Oper} {bs : List Nat} {o : Nat × Oper} {tm : TF} {s : AS} {L : List Ld} {S : List Sn} {k : KD} (hc : opClass E.ty o.2.op = 2) :
    dstep E all bs o tm s L S k ↔ (wantedV all o.2.guard tm = some false ∧ k (putT tm o.2.dst undefV) s L S) ∨
      (wantedV all o.2.guard tm = some true ∧ evOp E o.2.op (evO tm) s (fun v s' => (∀ l ∈ L, unord bs l.i o.1 = true → holds l.ti l.p s' l.v = true) ∧ k (putT tm o.2.dst v) s' L (⟨o.1, s⟩ :: S))) := by
  unfold dstep
  rw [evGuard_iff, hc]
  simp only
  have : (fun v s' => chkLds bs o.1 s' L (k (putT tm o.2.dst v) s' L (⟨o.1, s⟩ :: S))) = (fun v s' => (∀ l ∈ L, unord bs l.i o.1 = true → holds l.ti l.p s' l.v = true) ∧ k (putT tm o.2.dst v) s' L (⟨o.1, s⟩ :: S)) := by
    funext v s'
    exact propext (chkLds_iff _ _ _ _ _)
  rw [this]
  constructor
  · rintro (h | h)
    · exact .inr h
    · exact .inl h
  · rintro (h | h)
    · exact .inr h
    · exact .inl h
end Go.Rx
end
section
/- A region whose order is open: operations that may be exchanged are exchanged. -/
namespace Go.Rx
open Go

section
variable {E : Env} {all : List Oper} {bs : List Nat}

theorem same0_eq {a b : V} (h : same0 a b = true) : a = b := by
  unfold same0 at h
  split at h <;> simp_all

theorem all2_same0 {a b : List V} (h : all2 same0 a b = true) : a = b := by
  induction a generalizing b with
  | nil => cases b with | nil => rfl | cons => simp [all2] at h
  | cons x a ih =>
    cases b with
    | nil => simp [all2] at h
    | cons y b =>
      simp [all2] at h
      rw [same0_eq h.1, ih h.2]

theorem sameV_eq {a b : V} (h : sameV a b = true) : a = b := by
  unfold sameV at h
  split at h
  · rw [all2_same0 h]
  · simp at h; rw [h.1, same0_eq h.2]
  · simp at h; obtain ⟨⟨rfl, h1⟩, h2⟩ := h; rw [all2_same0 h1, all2_same0 h2]
  · exact same0_eq h

theorem holds_spec {ti : TI} {p : V} {s : AS} {v : V} (h : holds ti p s v = true) : peek ti p s = some v ∧ sameV v v = true := by
  unfold holds at h
  split at h
  · rename_i u hu
    have := sameV_eq h
    subst this
    exact ⟨hu, h⟩
  · simp at h

theorem holds_of {ti : TI} {p : V} {s : AS} {v : V} (h : peek ti p s = some v) (hv : sameV v v = true) : holds ti p s v = true := by
  unfold holds; rw [h]; exact hv

theorem unord_symm (bs : List Nat) (i j : Nat) (h : i ≠ j) : unord bs i j = unord bs j i := by
  unfold unord
  rcases Nat.lt_or_gt_of_ne h with h | h
  · have h1 : Nat.blt i j = true := by simp [Nat.blt_eq]; exact h
    have h2 : Nat.blt j i = false := by
      cases hb : Nat.blt j i with
      | false => rfl
      | true => rw [Nat.blt_eq] at hb; omega
    rw [h1, h2]
  · have h1 : Nat.blt j i = true := by simp [Nat.blt_eq]; exact h
    have h2 : Nat.blt i j = false := by
      cases hb : Nat.blt i j with
      | false => rfl
      | true => rw [Nat.blt_eq] at hb; omega
    rw [h1, h2]

def KMono (k : KD) : Prop := ∀ tm s L S L' S', (∀ x ∈ L', x ∈ L) → (∀ x ∈ S', x ∈ S) → k tm s L S → k tm s L' S'

theorem Det.mono {o : Nat × Oper} {tm : TF} {s : AS} {S S' : List Sn} {v : V} {La : List Ld} (h : Det E all bs o tm s S v La) (hS : ∀ x ∈ S', x ∈ S) : Det E all bs o tm s S' v La := by
  cases h with
  | no h => exact .no h
  | pure h hc hp => exact .pure h hc hp
  | load h hc ho ht hv hs => exact .load h hc ho ht hv (fun l hl => hs l (hS l hl))

theorem dstep_mono (hE : EnvPrd E) {o : Nat × Oper} {tm : TF} {s : AS} {L L' : List Ld} {S S' : List Sn} {k k' : KD} (hk : ∀ tm s L S, k tm s L S → k' tm s L S) (hm : KMono k')
    (hL : ∀ x ∈ L', x ∈ L) (hS : ∀ x ∈ S', x ∈ S) (h : dstep E all bs o tm s L S k) : dstep E all bs o tm s L' S' k' := by
  by_cases hc : opClass E.ty o.2.op = 2
  · rw [dstep_chg hc] at h ⊢
    rcases h with ⟨hw, h⟩ | ⟨hw, h⟩
    · exact .inl ⟨hw, hm _ _ _ _ _ _ hL hS (hk _ _ _ _ h)⟩
    · refine .inr ⟨hw, (prd_evOp hE _ _).mono _ _ _ (fun v s' hh => ⟨fun l hl => hh.1 l (hL l hl), hm _ _ _ _ _ _ hL ?_ (hk _ _ _ _ hh.2)⟩) h⟩
      intro x hx
      cases hx with
      | head => simp
      | tail _ hx => simp [hS x hx]
  · rw [dstep_det hc] at h ⊢
    obtain ⟨v, La, hd, h⟩ := h
    refine ⟨v, La, hd.mono hS, hm _ _ _ _ _ _ ?_ hS (hk _ _ _ _ h)⟩
    intro x hx
    rw [List.mem_append] at hx ⊢
    exact hx.imp id (hL x)

theorem evDraw_kmono (hE : EnvPrd E) (l : List (Nat × Oper)) (k : TF → AS → Prop) : KMono (fun tm s L S => evDraw E all bs l tm s L S k) := by
  induction l with
  | nil => intro tm s L S L' S' _ _ h; exact h
  | cons o l ih =>
    intro tm s L S L' S' hL hS h
    simp only [evDraw_cons] at h ⊢
    exact dstep_mono hE (fun _ _ _ _ h => h) ih hL hS h

theorem Det.put {o : Nat × Oper} {tm : TF} {s : AS} {S : List Sn} {v u : V} {La : List Ld} {d : Option Tmp} (hd : ∀ e, d = some e → e ∉ lookT all o.2) :
    Det E all bs o (putT tm d u) s S v La ↔ Det E all bs o tm s S v La := by
  have hw := wantedV_put (all := all) (o := o.2) (tm := tm) (v := u) hd
  have he := evO_put_op (all := all) (o := o.2) (tm := tm) (v := u) hd
  constructor
  · intro h
    cases h with
    | no h => exact .no (by rw [← hw]; exact h)
    | pure h hc hp => exact .pure (by rw [← hw]; exact h) hc (by rw [← pureOp_congr he]; exact hp)
    | load h hc ho ht hv hs =>
      rename_i t x ti
      have hx : evO (putT tm d u) x = evO tm x := he x (by rw [ho]; simp [Op.operands])
      rw [hx] at hv hs ⊢
      exact .load (by rw [← hw]; exact h) hc ho ht hv hs
  · intro h
    cases h with
    | no h => exact .no (by rw [hw]; exact h)
    | pure h hc hp => exact .pure (by rw [hw]; exact h) hc (by rw [pureOp_congr he]; exact hp)
    | load h hc ho ht hv hs =>
      rename_i t x ti
      have hx : evO (putT tm d u) x = evO tm x := he x (by rw [ho]; simp [Op.operands])
      rw [← hx] at hv hs ⊢
      exact .load (by rw [hw]; exact h) hc ho ht hv hs

theorem mem_perm2 {α : Type} {a b c : List α} : ∀ x ∈ a ++ (b ++ c), x ∈ b ++ (a ++ c) := by
  intro x hx; simp only [List.mem_append] at hx ⊢; rcases hx with h | h | h <;> simp [h]

theorem swap (hE : EnvPrd E) {a h : Nat × Oper} (hap : Apart all a.2 h.2) (hu : unord bs a.1 h.1 = true) (hne : a.1 ≠ h.1) (hcl : ¬ (opClass E.ty a.2.op = 2 ∧ opClass E.ty h.2.op = 2))
    {tm : TF} {s : AS} {L : List Ld} {S : List Sn} {k : KD} (hk : KMono k)
    (H : dstep E all bs a tm s L S (fun tm s L S => dstep E all bs h tm s L S k)) : dstep E all bs h tm s L S (fun tm s L S => dstep E all bs a tm s L S k) := by
  have hu' : unord bs h.1 a.1 = true := by rw [unord_symm bs _ _ hne.symm]; exact hu
  by_cases ha2 : opClass E.ty a.2.op = 2
  · have hh2 : opClass E.ty h.2.op ≠ 2 := fun e => hcl ⟨ha2, e⟩
    rw [dstep_chg ha2] at H
    rcases H with ⟨hw, H⟩ | ⟨hw, H⟩
    · rw [dstep_det hh2] at H ⊢
      obtain ⟨v, La, hd, H⟩ := H
      refine ⟨v, La, (Det.put hap.d1).1 hd, ?_⟩
      rw [dstep_chg ha2]
      refine .inl ⟨by rw [wantedV_put hap.d3]; exact hw, ?_⟩
      rw [← putT_comm _ _ _ hap.d2]; exact H
    · -- a changes memory
      obtain ⟨v1, s1, _, H1⟩ := (prd_evOp hE _ _).live _ _ H
      rw [dstep_det hh2] at H1 ⊢
      obtain ⟨vh, Lh, hd1, _⟩ := H1
      have hd1' := (Det.put hap.d1).1 hd1
      have hdh : Det E all bs h tm s S vh Lh ∧ ∀ l ∈ Lh, sameV l.v l.v = true := by
        cases hd1' with
        | no hw => exact ⟨.no hw, by simp⟩
        | pure hw hc hp => exact ⟨.pure hw hc hp, by simp⟩
        | load hw hc ho ht hv hs =>
          have h0 := holds_spec (hs ⟨a.1, s⟩ (by simp) hu)
          exact ⟨.load hw hc ho ht h0.1 (fun l hl => hs l (by simp [hl])), by simpa using h0.2⟩
      refine ⟨vh, Lh, hdh.1, ?_⟩
      rw [dstep_chg ha2]
      refine .inr ⟨by rw [wantedV_put hap.d3]; exact hw, ?_⟩
      rw [evOp_congr (evO_put_op hap.d3)]
      refine (prd_evOp hE _ _).mono _ _ _ (fun v s' hh => ?_) H
      obtain ⟨hL, hh⟩ := hh
      rw [dstep_det hh2] at hh
      obtain ⟨vh', Lh', hd2, hk2⟩ := hh
      have hd2' := (Det.put hap.d1).1 hd2
      have heq : vh' = vh ∧ Lh' = Lh ∧ ∀ l ∈ Lh, holds l.ti l.p s' l.v = true := by
        have hsv := hdh.2
        cases hdh.1 with
        | no hw1 =>
          cases hd2' with
          | no _ => exact ⟨rfl, rfl, by simp⟩
          | pure hw2 _ _ => rw [hw1] at hw2; simp at hw2
          | load hw2 _ _ _ _ _ => rw [hw1] at hw2; simp at hw2
        | pure hw1 hc1 hp1 =>
          cases hd2' with
          | no hw2 => rw [hw1] at hw2; simp at hw2
          | pure _ _ hp2 => rw [hp1] at hp2; simp at hp2; exact ⟨hp2.symm, rfl, by simp⟩
          | load _ hc2 _ _ _ _ => rw [hc1] at hc2; simp at hc2
        | load hw1 hc1 ho1 ht1 hv1 hs1 =>
          cases hd2' with
          | no hw2 => rw [hw1] at hw2; simp at hw2
          | pure _ hc2 _ => rw [hc1] at hc2; simp at hc2
          | load _ _ ho2 ht2 hv2 hs2 =>
            rw [ho1] at ho2
            simp at ho2
            obtain ⟨rfl, rfl⟩ := ho2
            rw [ht1] at ht2
            simp at ht2
            subst ht2
            have h0 := holds_spec (hs2 ⟨a.1, s⟩ (by simp) hu)
            rw [hv1] at h0
            have : vh = vh' := by simpa using h0.1
            subst this
            refine ⟨rfl, rfl, ?_⟩
            intro l hl
            simp at hl
            subst hl
            exact holds_of hv2 h0.2
      obtain ⟨rfl, rfl, hhold⟩ := heq
      refine ⟨?_, ?_⟩
      · intro l hl hul
        rw [List.mem_append] at hl
        rcases hl with hl | hl
        · exact hhold l hl
        · exact hL l hl hul
      · rw [← putT_comm _ _ _ hap.d2]
        exact hk2
  · rw [dstep_det ha2] at H
    obtain ⟨va, La, hda, H⟩ := H
    by_cases hh2 : opClass E.ty h.2.op = 2
    · rw [dstep_chg hh2] at H ⊢
      rcases H with ⟨hw, H⟩ | ⟨hw, H⟩
      · refine .inl ⟨by rw [← hw, wantedV_put hap.d1], ?_⟩
        rw [dstep_det ha2]
        refine ⟨va, La, (Det.put hap.d3).2 hda, ?_⟩
        rw [← putT_comm _ _ _ hap.d2]; exact H
      · refine .inr ⟨by rw [← hw, wantedV_put hap.d1], ?_⟩
        rw [← evOp_congr (evO_put_op (v := va) hap.d1)]
        refine (prd_evOp hE _ _).mono _ _ _ (fun v s' hh => ?_) H
        obtain ⟨hL, hh⟩ := hh
        refine ⟨fun l hl => hL l (by simp [hl]), ?_⟩
        rw [dstep_det ha2]
        refine ⟨va, La, ?_, ?_⟩
        · rw [Det.put hap.d3]
          cases hda with
          | no hw2 => exact .no hw2
          | pure hw2 hc hp => exact .pure hw2 hc hp
          | load hw2 hc ho ht hv hs =>
            rename_i t x ti
            have h0 := holds_spec (hL ⟨a.1, ti, evO tm x, va⟩ (by simp) hu)
            refine .load hw2 hc ho ht h0.1 (fun l hl hul => ?_)
            cases hl with
            | head => exact holds_of hv h0.2
            | tail _ hl => exact hs l hl hul
        · rw [← putT_comm _ _ _ hap.d2]; exact hh
    · rw [dstep_det hh2] at H ⊢
      obtain ⟨vh, Lh, hdh, H⟩ := H
      refine ⟨vh, Lh, (Det.put hap.d1).1 hdh, ?_⟩
      rw [dstep_det ha2]
      refine ⟨va, La, (Det.put hap.d3).2 hda, ?_⟩
      rw [← putT_comm _ _ _ hap.d2]
      exact hk _ _ _ _ _ _ mem_perm2 (fun _ h => h) H

/-- What nothing ahead of it binds, may come first. -/
theorem move_front (hE : EnvPrd E) (h : Nat × Oper) (post : List (Nat × Oper)) (k : TF → AS → Prop) : ∀ (pre : List (Nat × Oper)),
    (∀ a ∈ pre, Apart all a.2 h.2 ∧ unord bs a.1 h.1 = true ∧ a.1 ≠ h.1 ∧ ¬ (opClass E.ty a.2.op = 2 ∧ opClass E.ty h.2.op = 2)) →
    ∀ tm s L S, evDraw E all bs (pre ++ h :: post) tm s L S k → evDraw E all bs (h :: (pre ++ post)) tm s L S k := by
  intro pre
  induction pre with
  | nil => intro _ tm s L S H; exact H
  | cons a pre ih =>
    intro hp tm s L S H
    have hp' := fun b hb => hp b (List.mem_cons_of_mem _ hb)
    obtain ⟨h1, h2, h3, h4⟩ := hp a (by simp)
    have H1 : dstep E all bs a tm s L S (fun tm s L S => dstep E all bs h tm s L S (fun tm s L S => evDraw E all bs (pre ++ post) tm s L S k)) := by
      have H0 : dstep E all bs a tm s L S (fun tm s L S => evDraw E all bs (pre ++ h :: post) tm s L S k) := H
      refine dstep_mono hE (fun tm s L S hh => ?_) ?_ (fun _ h => h) (fun _ h => h) H0
      · exact ih hp' tm s L S hh
      · exact evDraw_kmono hE (h :: (pre ++ post)) k
    exact swap hE h1 h2 h3 h4 (evDraw_kmono hE (pre ++ post) k) H1
end
end Go.Rx
end
section
/- Soundness of regions. -/
namespace Go.Rx
open Go

structure TR (nt : Nat) (ρ : Ren) (tm : TF) (tmps : Array Value) : Prop where
  len : tm.nt = nt
  size : tmps.size = tm.nt
  get : ∀ t, VR ρ (tm.getD t .junk) (tmps.getD t undef)

section
variable {P : Program} {w0 : World} {ρ : Ren} {s : AS} {w : World} {tm : TF} {nt : Nat}

theorem TR.mono {ρ' : Ren} {tmps : Array Value} (h : TR nt ρ tm tmps) (hx : Ext ρ ρ') : TR nt ρ' tm tmps := ⟨h.len, h.size, fun t => (h.get t).mono hx⟩

theorem TR.eval {a : Act} (h : TR nt ρ tm a.tmps) (x : Operand) : VR ρ (evO tm x) (a.eval x) := by
  cases x with
  | tmp t => exact h.get t
  | const v => exact ofV_VR ρ v
  | global g => exact .ptr (b' := g) rfl
  | func f => exact .func _ .nil .nil

theorem TR.put {a : Act} (h : TR nt ρ tm a.tmps) {v : V} {v' : Value} (hv : VR ρ v v') (d : Option Tmp) : TR nt ρ (putT tm d v) (a.put d v').tmps := by
  cases d with
  | none => exact h
  | some d =>
    refine ⟨h.len, by simp only [Act.put, Array.size_setIfInBounds]; exact h.size, fun t => ?_⟩
    simp only [putT, Act.put]
    rw [Array.getD_eq_getD_getElem?, Array.getElem?_setIfInBounds]
    by_cases hdt : d = t
    · subst hdt
      by_cases hlt : d < tm.nt
      · have hlt' : d < a.tmps.size := by rw [h.size]; exact hlt
        rw [TF.getD_set_eq hlt]
        simp [hlt']; exact hv
      · have hlt' : ¬ d < a.tmps.size := by rw [h.size]; exact hlt
        rw [TF.getD_out (by rw [TF.set_nt]; exact hlt)]
        exact .junk _
    · rw [TF.getD_set_ne hdt]
      simp only [hdt, if_false]
      have := h.get t
      rwa [Array.getD_eq_getD_getElem?] at this

theorem wanted_ok {ops : Array Oper} {o : Oper} {a : Act} (h : TR nt ρ tm a.tmps) {b : Bool} (hw : wantedV ops.toList o.guard tm = some b) : Region.wanted o (yielded ops a.tmps) = b := by
  unfold wantedV at hw
  unfold Region.wanted
  split at hw
  · rename_i hg; rw [hg]; simpa using hw
  · rename_i j want hg
    rw [hg]
    simp only
    have hy : yielded ops a.tmps j = (match ((ops[j]?).bind (·.dst)).bind (a.tmps[·]?) with | some (.bool b) => some b | _ => none) := rfl
    rw [hy]
    simp only [Array.getElem?_toList] at hw
    split at hw
    · rename_i hd
      rw [hd]; simp at hw; subst hw; cases want <;> rfl
    · rename_i d hd
      rw [hd]
      have hg2 := h.get d
      have hin : tm.getD d .junk ≠ .junk → a.tmps[d]? = some (a.tmps.getD d undef) := by
        intro hne
        have hlt : d < a.tmps.size := by
          rw [h.size]
          by_cases hl : d < tm.nt
          · exact hl
          · exact absurd (TF.getD_out hl _) hne
        rw [Array.getD_eq_getD_getElem?]
        simp [hlt]
      split at hw
      · rename_i b0 hb
        rw [hb] at hg2 hin
        simp only [Option.bind_some]
        rw [hin (by simp)]
        generalize a.tmps.getD d undef = v' at hg2
        cases hg2
        simp only
        simp at hw; subst hw
        cases b0 <;> cases want <;> rfl
      · rename_i hb
        rw [hb] at hg2 hin
        simp only [Option.bind_some]
        rw [hin (by simp)]
        generalize a.tmps.getD d undef = v' at hg2
        cases hg2
        simp at hw; subst hw
        cases want <;> rfl
      · simp at hw

/-- One operation of a region. -/
theorem opStep {E : Env} (hE : EnvOk P E) {ops : Array Oper} {i : Nat} {o : Oper} (hi : ops[i]? = some o) {a : Act} (ht : TR nt ρ tm a.tmps) (hr : Rel w0 ρ s w) {k : TF → AS → Prop}
    (H : (wantedV ops.toList o.guard tm = some true ∧ evOp E o.op (evO tm) s (fun v s' => k (putT tm o.dst v) s')) ∨ (wantedV ops.toList o.guard tm = some false ∧ k (putT tm o.dst undefV) s))
    {Q : Exit → Act → World → Prop} {K' : Act → World → Prop}
    (hk : ∀ tm' s' a' w' ρ', k tm' s' → TR nt ρ' tm' a'.tmps → Rel w0 ρ' s' w' → a'.defers = a.defers → Ext ρ ρ' → K' a' w') : wpOp P ops Q i K' a w := by
  have hdef : ∀ d v, (a.put d v).defers = a.defers := fun d v => by cases d <;> rfl
  unfold wpOp
  simp only [hi]
  rcases H with ⟨hw, H⟩ | ⟨hw, H⟩
  · rw [if_pos (wanted_ok ht hw)]
    refine .inl ?_
    unfold Oper.wp
    rcases evOp_ok hE hr (ht.eval) H with ⟨v', w', hrun, v, s', ρ', hK, hx, hrel, hv⟩ | ⟨w', hrun, s', ρ', hK, hx, hrel⟩ | ⟨f, args', w', hrun, args, s', hC, hrel, hargs⟩
    · rw [hrun]
      simp only [Oper.upon]
      exact hk _ _ _ _ ρ' hK ((ht.mono hx).put hv _) hrel (hdef _ _) hx
    · rw [hrun]
      simp only [Oper.upon]
      exact hk _ _ _ _ ρ' hK ((ht.mono hx).put (.tuple .nil) _) hrel (hdef _ _) hx
    · rw [hrun]
      simp only [Oper.upon]
      refine ((hE.C f _ _ _ hC).2 w0 ρ w' args' hrel hargs).mono ?_
      rintro e w'' ⟨v, s'', ρ', v', rfl, hK, hx, hrel', hv⟩
      exact hk _ _ _ _ ρ' hK ((ht.mono hx).put hv _) hrel' (hdef _ _) hx
  · rw [if_neg (by rw [wanted_ok ht hw]; simp)]
    exact hk _ _ _ _ ρ H (ht.put (.tuple .nil) _) hr (hdef _ _) (Ext.refl ρ)

theorem evOps_ok {E : Env} (hE : EnvOk P E) {ops : Array Oper} {Q : Exit → Act → World → Prop} {k : TF → AS → Prop} : ∀ (l : List Oper) (n : Nat), (∀ j, l[j]? = ops[n + j]?) → ∀ (tm : TF) (s : AS) (a : Act) (w : World) (ρ : Ren),
    evOps E ops.toList l tm s k → TR nt ρ tm a.tmps → Rel w0 ρ s w →
    (∀ tm' s' a' w' ρ', k tm' s' → TR nt ρ' tm' a'.tmps → Rel w0 ρ' s' w' → a'.defers = a.defers → Ext ρ ρ' → Q .normal a' w') →
    wpOps P ops Q (List.range' n l.length) a w := by
  intro l
  induction l with
  | nil =>
    intro n _ tm s a w ρ h ht hr hk
    simp [wpOps]
    exact hk tm s a w ρ h ht hr rfl (Ext.refl ρ)
  | cons o l ih =>
    intro n hl tm s a w ρ h ht hr hk
    have hi : ops[n]? = some o := by have := hl 0; simpa using this.symm
    have hl' : ∀ j, l[j]? = ops[n + 1 + j]? := fun j => by have := hl (j + 1); rw [show n + (j + 1) = n + 1 + j by omega] at this; simpa using this
    have h' : evGuard ops.toList o.guard tm (fun tm => evOp E o.op (evO tm) s (fun v s' => evOps E ops.toList l (putT tm o.dst v) s' k)) (fun tm => evOps E ops.toList l (putT tm o.dst undefV) s k) := h
    rw [evGuard_iff] at h'
    simp only [List.length_cons, List.range'_succ]
    rw [wpOps_cons]
    refine opStep hE hi ht hr (k := fun tm s => evOps E ops.toList l tm s k) h' ?_
    intro tm' s' a' w' ρ' hk' ht' hr' hd' hx'
    exact ih (n + 1) hl' tm' s' a' w' ρ' hk' ht' hr' (fun tm2 s2 a2 w2 ρ2 h1 h2 h3 h4 h5 => hk tm2 s2 a2 w2 ρ2 h1 h2 h3 (h4.trans hd') (hx'.trans h5))

theorem evOp_load {E : Env} {t : TypeId} {x : Operand} {ev : Ev} {K : K0} : evOp E (.load t x) ev s K ↔ ∃ ti, E.ty t = some ti ∧ ldT ti (ev x) s K := by
  unfold evOp
  simp only [pureOp]
  cases E.ty t with
  | none => simp
  | some ti => simp

theorem dstep_step {E : Env} (hp : EnvPrd E) {all : List Oper} {bs : List Nat} {o : Nat × Oper} {L : List Ld} {S : List Sn} {k : KD} (h : dstep E all bs o tm s L S k) :
    (wantedV all o.2.guard tm = some true ∧ evOp E o.2.op (evO tm) s (fun v s' => ∃ L S, k (putT tm o.2.dst v) s' L S)) ∨ (wantedV all o.2.guard tm = some false ∧ ∃ L S, k (putT tm o.2.dst undefV) s L S) := by
  by_cases hc : opClass E.ty o.2.op = 2
  · rw [dstep_chg hc] at h
    rcases h with ⟨hw, h⟩ | ⟨hw, h⟩
    · exact .inr ⟨hw, _, _, h⟩
    · exact .inl ⟨hw, (prd_evOp hp _ _).mono _ _ _ (fun v s' hh => ⟨_, _, hh.2⟩) h⟩
  · rw [dstep_det hc] at h
    obtain ⟨v, La, hd, h⟩ := h
    cases hd with
    | no hw => exact .inr ⟨hw, _, _, h⟩
    | pure hw h0 hp =>
      refine .inl ⟨hw, ?_⟩
      unfold evOp
      rw [hp]
      exact ⟨_, _, h⟩
    | load hw h1 ho ht hv hs =>
      refine .inl ⟨hw, ?_⟩
      rw [ho, evOp_load]
      exact ⟨_, ht, ldT_peek'.2 ⟨v, hv, _, _, h⟩⟩

/-! ### what binds what -/
theorem testBit_lor_pow (a n j : Nat) : (Nat.lor a (2 ^ n)).testBit j = (a.testBit j || decide (j = n)) := by
  show (a ||| 2 ^ n).testBit j = _
  rw [Nat.testBit_or, Nat.testBit_two_pow]
  by_cases h : n = j
  · subst h; simp
  · have : ¬ j = n := fun e => h e.symm
    simp [h, this]

theorem fold_bits (acc : List Nat) (es : List Edge) : ∀ (b j : Nat), (es.foldl (fun s e => if Region.binds .any e then Nat.lor (Nat.lor s (2 ^ e.on)) (acc.getD e.on 0) else s) b).testBit j = true →
    b.testBit j = true ∨ ∃ e ∈ es, Region.binds .any e = true ∧ (j = e.on ∨ (acc.getD e.on 0).testBit j = true) := by
  induction es with
  | nil => intro b j h; exact .inl h
  | cons e es ih =>
    intro b j h
    simp only [List.foldl_cons] at h
    rcases ih _ j h with h1 | ⟨e', he', hb, hj⟩
    · by_cases hb : Region.binds .any e = true
      · rw [if_pos hb] at h1
        have h2 : (Nat.lor (Nat.lor b (2 ^ e.on)) (acc.getD e.on 0)).testBit j = ((Nat.lor b (2 ^ e.on)).testBit j || (acc.getD e.on 0).testBit j) := Nat.testBit_or _ _ _
        rw [h2, testBit_lor_pow] at h1
        simp only [Bool.or_eq_true, decide_eq_true_eq] at h1
        rcases h1 with (h1 | h1) | h1
        · exact .inl h1
        · exact .inr ⟨e, by simp, hb, .inl h1⟩
        · exact .inr ⟨e, by simp, hb, .inr h1⟩
      · rw [if_neg hb] at h1; exact .inl h1
    · exact .inr ⟨e', by simp [he'], hb, hj⟩

def bitsOf (acc : List Nat) (o : Oper) : Nat := o.after.toList.foldl (fun s e => if Region.binds .any e then Nat.lor (Nat.lor s (2 ^ e.on)) (acc.getD e.on 0) else s) 0

theorem befs_snoc (l : List Oper) (o : Oper) : befs (l ++ [o]) = befs l ++ [bitsOf (befs l) o] := by
  unfold befs; rw [List.foldl_append]; rfl

theorem fold_length (l : List Oper) : ∀ acc : List Nat, (l.foldl (fun acc o => acc ++ [bitsOf acc o]) acc).length = acc.length + l.length := by
  induction l with
  | nil => intro acc; rfl
  | cons o l ih => intro acc; rw [List.foldl_cons, ih]; simp; omega

theorem fold_getD (l : List Oper) : ∀ (acc : List Nat) (i : Nat), i < acc.length → (l.foldl (fun acc o => acc ++ [bitsOf acc o]) acc).getD i 0 = acc.getD i 0 := by
  induction l with
  | nil => intro acc i _; rfl
  | cons o l ih =>
    intro acc i hi
    rw [List.foldl_cons, ih _ _ (by simp; omega), List.getD_eq_getElem?_getD, List.getElem?_append_left hi, ← List.getD_eq_getElem?_getD]

theorem befs_length (l : List Oper) : (befs l).length = l.length := by
  have := fold_length l []
  rw [List.length_nil, Nat.zero_add] at this
  exact this

theorem befs_append (l r : List Oper) (i : Nat) (h : i < l.length) : (befs (l ++ r)).getD i 0 = (befs l).getD i 0 := by
  have : befs (l ++ r) = r.foldl (fun acc o => acc ++ [bitsOf acc o]) (befs l) := by
    unfold befs; rw [List.foldl_append]; rfl
  rw [this]
  exact fold_getD r _ _ (by rw [befs_length]; exact h)

theorem befs_spec (ops : List Oper) (i j : Nat) (o : Oper) (hi : ops[i]? = some o) (h : ((befs ops).getD i 0).testBit j = true) :
    ∃ e ∈ o.after.toList, Region.binds .any e = true ∧ (j = e.on ∨ ((befs ops).getD e.on 0).testBit j = true) := by
  have hlt : i < ops.length := (List.getElem?_eq_some_iff.1 hi).1
  have hsplit : ops = (ops.take i ++ [o]) ++ ops.drop (i + 1) := by
    have h1 := List.take_append_drop i ops
    have h2 : ops.drop i = o :: ops.drop (i + 1) := by
      rw [List.drop_eq_getElem_cons hlt]
      congr 1
      exact (List.getElem?_eq_some_iff.1 hi).2
    rw [h2] at h1
    simpa using h1.symm
  have hl : (ops.take i).length = i := by simp; omega
  have h0 : (befs ops).getD i 0 = bitsOf (befs (ops.take i)) o := by
    have e1 : (befs ops).getD i 0 = (befs ((ops.take i ++ [o]) ++ ops.drop (i + 1))).getD i 0 := congrArg (fun l => (befs l).getD i 0) hsplit
    rw [e1, befs_append _ _ _ (by simp; omega), befs_snoc, List.getD_eq_getElem?_getD, List.getElem?_append_right (by rw [befs_length, hl]; exact Nat.le_refl _), befs_length, hl]
    simp
  rw [h0] at h
  rcases fold_bits _ _ 0 j h with h1 | ⟨e, he, hb, hj⟩
  · simp at h1
  · refine ⟨e, he, hb, ?_⟩
    rcases hj with hj | hj
    · exact .inl hj
    · refine .inr ?_
      by_cases hel : e.on < i
      · have e1 : (befs ops).getD e.on 0 = (befs ((ops.take i ++ [o]) ++ ops.drop (i + 1))).getD e.on 0 := congrArg (fun l => (befs l).getD e.on 0) hsplit
        rw [e1, List.append_assoc, befs_append _ _ _ (by rw [hl]; exact hel)]; exact hj
      · exfalso
        rw [List.getD_eq_getElem?_getD, List.getElem?_eq_none (by rw [befs_length, hl]; omega)] at hj
        simp at hj

/-! ### any order -/
def isListed (listed : Array Bool) (i : Nat) : Bool := listed.getD i false

def remOps (ops : List Oper) (listed : Array Bool) : List (Nat × Oper) := ((List.range ops.length).zip ops).filter fun x => !(isListed listed x.1)

theorem mem_rem {ops : List Oper} {listed : Array Bool} {x : Nat × Oper} (h : x ∈ remOps ops listed) : ops[x.1]? = some x.2 ∧ isListed listed x.1 = false := by
  unfold remOps at h
  rw [List.mem_filter] at h
  refine ⟨?_, by simpa using h.2⟩
  obtain ⟨i, hi⟩ := List.getElem?_of_mem h.1
  rw [List.getElem?_zip_eq_some] at hi
  obtain ⟨h1, h2⟩ := hi
  rw [List.getElem?_range (by have := (List.getElem?_eq_some_iff.1 h2).1; exact this)] at h1
  cases h1
  exact h2

theorem rem_mem {ops : List Oper} {listed : Array Bool} {i : Nat} {o : Oper} (h : ops[i]? = some o) (hl : isListed listed i = false) : (i, o) ∈ remOps ops listed := by
  unfold remOps
  rw [List.mem_filter]
  refine ⟨?_, by simpa using hl⟩
  have hlt := (List.getElem?_eq_some_iff.1 h).1
  apply List.mem_of_getElem? (i := i)
  rw [List.getElem?_zip_eq_some]
  exact ⟨List.getElem?_range hlt, h⟩

theorem rem_split {ops : List Oper} {listed : Array Bool} (hsz : listed.size = ops.length) {i : Nat} {o : Oper} (h : ops[i]? = some o) (hl : isListed listed i = false) :
    ∃ pre post, remOps ops listed = pre ++ (i, o) :: post ∧ remOps ops (listed.setIfInBounds i true) = pre ++ post ∧ ∀ x ∈ pre, x.1 < i := by
  have hlt := (List.getElem?_eq_some_iff.1 h).1
  have hzip : (List.range ops.length).zip ops = ((List.range ops.length).zip ops).take i ++ (i, o) :: ((List.range ops.length).zip ops).drop (i + 1) := by
    have h1 := List.take_append_drop i ((List.range ops.length).zip ops)
    have h2 : ((List.range ops.length).zip ops).drop i = (i, o) :: ((List.range ops.length).zip ops).drop (i + 1) := by
      rw [List.drop_eq_getElem_cons (by simp; exact hlt)]
      congr 1
      have : ((List.range ops.length).zip ops)[i]? = some (i, o) := by
        rw [List.getElem?_zip_eq_some]; exact ⟨List.getElem?_range hlt, h⟩
      exact (List.getElem?_eq_some_iff.1 this).2
    rw [h2] at h1
    exact h1.symm
  have hidx : ∀ (j : Nat) (x : Nat × Oper), ((List.range ops.length).zip ops)[j]? = some x → x.1 = j := by
    intro j x hx
    rw [List.getElem?_zip_eq_some] at hx
    have hj := (List.getElem?_eq_some_iff.1 hx.2).1
    rw [List.getElem?_range hj] at hx
    simpa using hx.1.symm
  have hpre : ∀ x ∈ ((List.range ops.length).zip ops).take i, x.1 < i := by
    intro x hx
    obtain ⟨j, hj⟩ := List.getElem?_of_mem hx
    rw [List.getElem?_take] at hj
    split at hj
    · rw [hidx j x hj]; assumption
    · simp at hj
  have hpost : ∀ x ∈ ((List.range ops.length).zip ops).drop (i + 1), i < x.1 := by
    intro x hx
    obtain ⟨j, hj⟩ := List.getElem?_of_mem hx
    rw [List.getElem?_drop] at hj
    rw [hidx _ x hj]; omega
  have hset : ∀ j, j ≠ i → isListed (listed.setIfInBounds i true) j = isListed listed j := by
    intro j hj
    unfold isListed
    rw [Array.getD_eq_getD_getElem?, Array.getD_eq_getD_getElem?, Array.getElem?_setIfInBounds_ne (fun e => hj e.symm)]
  have hset2 : isListed (listed.setIfInBounds i true) i = true := by
    unfold isListed
    rw [Array.getD_eq_getD_getElem?, Array.getElem?_setIfInBounds_self_of_lt (by omega)]; rfl
  refine ⟨(((List.range ops.length).zip ops).take i).filter (fun x => !(isListed listed x.1)), (((List.range ops.length).zip ops).drop (i + 1)).filter (fun x => !(isListed listed x.1)), ?_, ?_, ?_⟩
  · refine (congrArg (List.filter fun x => !(isListed listed x.1)) hzip).trans ?_
    rw [List.filter_append, List.filter_cons]
    simp only [hl, Bool.not_false, if_true]
  · refine (congrArg (List.filter fun x => !(isListed (listed.setIfInBounds i true) x.1)) hzip).trans ?_
    rw [List.filter_append, List.filter_cons]
    simp only [hset2, Bool.not_true, Bool.false_eq_true, if_false]
    congr 1
    · apply List.filter_congr
      intro x hx
      rw [hset x.1 (by have := hpre x hx; omega)]
    · apply List.filter_congr
      intro x hx
      rw [hset x.1 (by have := hpost x hx; omega)]
  · intro x hx
    exact hpre x (List.mem_filter.1 hx).1

structure RegFacts (ty : TypeId → Option TI) (ops : List Oper) (md : Region.Mode) : Prop where
  pairs : ∀ i j x y, i < j → ops[i]? = some x → ops[j]? = some y → ((befs ops).getD j 0).testBit i = true ∨ (Apart ops x y ∧ ¬ (opClass ty x.op = 2 ∧ opClass ty y.op = 2))
  stuck : ∀ listed : Array Bool, listed.size = ops.length → Region.ready md ops.toArray listed = [] → ∀ i, i < ops.length → isListed listed i = true
  sub : ∀ e, Region.binds .any e = true → Region.binds md e = true

def Closed (ops : List Oper) (listed : Array Bool) : Prop := ∀ i j, isListed listed i = true → ((befs ops).getD i 0).testBit j = true → isListed listed j = true

theorem ready_spec {md : Region.Mode} {ops : Array Oper} {listed : Array Bool} {i : Nat} (h : i ∈ Region.ready md ops listed) (hsz : listed.size = ops.size) :
    ∃ o, ops[i]? = some o ∧ isListed listed i = false ∧ ∀ e ∈ o.after.toList, Region.binds md e = true → isListed listed e.on = true := by
  unfold Region.ready at h
  rw [List.mem_filter, Bool.and_eq_true] at h
  obtain ⟨h1, h2, h3⟩ := h
  rw [List.mem_range] at h1
  cases ho : ops[i]? with
  | none => rw [ho] at h3; simp at h3
  | some o =>
    rw [ho] at h3
    simp only [Option.map_some, Option.getD_some] at h3
    refine ⟨o, rfl, ?_, ?_⟩
    · unfold isListed
      have hlt : i < listed.size := by rw [hsz]; exact h1
      rw [Array.getD_eq_getD_getElem?] at h2 ⊢
      simp [hlt] at h2 ⊢
      exact h2
    · intro e he hb
      rw [← Array.all_toList, List.all_eq_true] at h3
      have := h3 e he
      rw [hb] at this
      simpa [isListed] using this

theorem draw_any {E : Env} (hE : EnvOk P E) {ops : Array Oper} {md : Region.Mode} (hf : RegFacts E.ty ops.toList md) {Q : Exit → Act → World → Prop} {k : TF → AS → Prop} :
    ∀ (fuel : Nat) (listed : Array Bool) (tm : TF) (s : AS) (L : List Ld) (S : List Sn) (a : Act) (w : World) (ρ : Ren),
    listed.size = ops.size → Closed ops.toList listed → (remOps ops.toList listed).length ≤ fuel →
    evDraw E ops.toList (befs ops.toList) (remOps ops.toList listed) tm s L S k → TR nt ρ tm a.tmps → Rel w0 ρ s w →
    (∀ tm' s' a' w' ρ', k tm' s' → TR nt ρ' tm' a'.tmps → Rel w0 ρ' s' w' → a'.defers = a.defers → Ext ρ ρ' → Q .normal a' w') →
    wpAny P md ops Q fuel listed a w := by
  intro fuel
  have fin : ∀ (listed : Array Bool) (tm : TF) (s : AS) (L : List Ld) (S : List Sn) (a : Act) (w : World) (ρ : Ren),
      listed.size = ops.size → evDraw E ops.toList (befs ops.toList) (remOps ops.toList listed) tm s L S k → TR nt ρ tm a.tmps → Rel w0 ρ s w →
      (∀ tm' s' a' w' ρ', k tm' s' → TR nt ρ' tm' a'.tmps → Rel w0 ρ' s' w' → a'.defers = a.defers → Ext ρ ρ' → Q .normal a' w') →
      Region.ready md ops listed = [] → Q .normal a w := by
    intro listed tm s L S a w ρ hsz h ht hr hk hready
    have hall := hf.stuck listed (by simpa using hsz) (by simpa using hready)
    have hnil : remOps ops.toList listed = [] := by
      cases hrem : remOps ops.toList listed with
      | nil => rfl
      | cons x l =>
        have hx := mem_rem (x := x) (by rw [hrem]; simp)
        have := hall x.1 (by have := (List.getElem?_eq_some_iff.1 hx.1).1; exact this)
        rw [hx.2] at this; simp at this
    rw [hnil] at h
    exact hk tm s a w ρ h ht hr rfl (Ext.refl ρ)
  induction fuel with
  | zero =>
    intro listed tm s L S a w ρ hsz hcl hlen h ht hr hk
    have hnil : remOps ops.toList listed = [] := List.eq_nil_of_length_eq_zero (by omega)
    have hready : Region.ready md ops listed = [] := by
      cases hrd : Region.ready md ops listed with
      | nil => rfl
      | cons i l =>
        obtain ⟨o, ho, hl, _⟩ := ready_spec (by rw [hrd]; simp : i ∈ _) hsz
        have := rem_mem (ops := ops.toList) (by simpa using ho) hl
        rw [hnil] at this; simp at this
    exact ⟨hready, fin listed tm s L S a w ρ hsz h ht hr hk hready⟩
  | succ fuel ih =>
    intro listed tm s L S a w ρ hsz hcl hlen h ht hr hk
    refine ⟨fin listed tm s L S a w ρ hsz h ht hr hk, ?_⟩
    intro i hi
    obtain ⟨o, ho, hl, hedges⟩ := ready_spec hi hsz
    have hol : ops.toList[i]? = some o := by simpa using ho
    obtain ⟨pre, post, hsplit, hsplit2, hpre⟩ := rem_split (ops := ops.toList) (by simpa using hsz) hol hl
    have hnotbit : ∀ j, isListed listed j = false → ((befs ops.toList).getD i 0).testBit j = false := by
      intro j hj
      cases hb : ((befs ops.toList).getD i 0).testBit j with
      | false => rfl
      | true =>
        exfalso
        obtain ⟨e, he, hbind, hje⟩ := befs_spec _ i j o hol hb
        have hlist := hedges e he (hf.sub e hbind)
        rcases hje with rfl | hje
        · rw [hj] at hlist; simp at hlist
        · have := hcl e.on j hlist hje
          rw [hj] at this; simp at this
    have hmove := move_front (all := ops.toList) (bs := befs ops.toList) hE.prd (i, o) post k pre (by
      intro x hx
      have hxm := mem_rem (ops := ops.toList) (listed := listed) (x := x) (by rw [hsplit]; simp [hx])
      have hlt := hpre x hx
      have hnb := hnotbit x.1 hxm.2
      rcases hf.pairs x.1 i x.2 o hlt hxm.1 hol with hb | hb
      · rw [hnb] at hb; simp at hb
      · refine ⟨hb.1, ?_, by simp; omega, hb.2⟩
        unfold unord
        have h1 : Nat.blt x.1 (i, o).1 = true := by rw [Nat.blt_eq]; exact hlt
        rw [h1]
        simp only [hnb]; rfl) tm s L S (by rw [← hsplit]; exact h)
    have hmove' : dstep E ops.toList (befs ops.toList) (i, o) tm s L S (fun tm s L S => evDraw E ops.toList (befs ops.toList) (pre ++ post) tm s L S k) := hmove
    have hstep := dstep_step hE.prd hmove'
    refine opStep hE ho ht hr (k := fun tm s => ∃ L S, evDraw E ops.toList (befs ops.toList) (pre ++ post) tm s L S k) hstep ?_
    rintro tm' s' a' w' ρ' ⟨L', S', hk'⟩ ht' hr' hd' hx'
    refine ih (listed.setIfInBounds i true) tm' s' L' S' a' w' ρ' (by simpa using hsz) ?_ ?_ (by rw [hsplit2]; exact hk') ht' hr'
      (fun tm2 s2 a2 w2 ρ2 h1 h2 h3 h4 h5 => hk tm2 s2 a2 w2 ρ2 h1 h2 h3 (h4.trans hd') (hx'.trans h5))
    · intro p q hp hq
      have hset : ∀ j, j ≠ i → isListed (listed.setIfInBounds i true) j = isListed listed j := by
        intro j hj
        unfold isListed
        rw [Array.getD_eq_getD_getElem?, Array.getD_eq_getD_getElem?, Array.getElem?_setIfInBounds_ne (fun e => hj e.symm)]
      have hlisted : ∀ j, isListed listed j = true → isListed (listed.setIfInBounds i true) j = true := by
        intro j hj
        by_cases e : j = i
        · subst e; rw [hl] at hj; simp at hj
        · rw [hset j e]; exact hj
      by_cases e : p = i
      · subst e
        cases hq2 : isListed listed q with
        | true => exact hlisted q hq2
        | false => rw [hnotbit q hq2] at hq; simp at hq
      · rw [hset p e] at hp
        exact hlisted q (hcl p q hp hq)
    · rw [hsplit2]; rw [hsplit] at hlen; simp at hlen ⊢; omega
end
end Go.Rx
end
section
/- Soundness of regions, code and functions. -/
namespace Go.Rx
open Go

section
variable {P : Program} {w0 : World} {ρ : Ren} {s : AS} {w : World} {tm : TF} {nt : Nat}

theorem stuck_of_ord {md : Region.Mode} {ops : List Oper} {ord : List Nat} (h1 : ∀ i, i < ops.length → i ∈ ord)
    (h2 : ∀ (p q : Nat), (ord[p]? : Option Nat) = some q → ∃ o, ops[q]? = some o ∧ ∀ e ∈ o.after.toList, Region.binds md e = true → e.on ∈ ord.take p)
    {listed : Array Bool} (hsz : listed.size = ops.length) (hr : Region.ready md ops.toArray listed = []) : ∀ i, i < ops.length → isListed listed i = true := by
  have key : ∀ (p q : Nat), (ord[p]? : Option Nat) = some q → isListed listed q = true := by
    intro p
    induction p using Nat.strongRecOn with
    | _ p ih =>
      intro q hq
      obtain ⟨o, ho, he⟩ := h2 p q hq
      cases hl : isListed listed q with
      | true => rfl
      | false =>
        exfalso
        have hlt : q < ops.length := (List.getElem?_eq_some_iff.1 ho).1
        have : q ∈ Region.ready md ops.toArray listed := by
          unfold Region.ready
          rw [List.mem_filter]
          refine ⟨by simp; exact hlt, ?_⟩
          rw [Bool.and_eq_true]
          constructor
          · have hlt2 : q < listed.size := by omega
            unfold isListed at hl
            rw [Array.getD_eq_getD_getElem?] at hl ⊢
            simp [hlt2] at hl ⊢
            exact hl
          · have : ops.toArray[q]? = some o := by simpa using ho
            rw [this]
            simp only [Option.map_some, Option.getD_some]
            rw [← Array.all_toList, List.all_eq_true]
            intro e hee
            cases hb : Region.binds md e with
            | false => simp
            | true =>
              have hin := he e hee hb
              obtain ⟨j, hj⟩ := List.getElem?_of_mem hin
              rw [List.getElem?_take] at hj
              split at hj
              · rename_i hjp
                have := ih j hjp e.on hj
                simpa [isListed] using this
              · simp at hj
        rw [hr] at this
        simp at this
  intro i hi
  obtain ⟨p, hp⟩ := List.getElem?_of_mem (h1 i hi)
  exact key p i hp

theorem ord_spec {md : Region.Mode} {ops : List Oper} {ord : List Nat} (h : ordOk md ops ord = true) :
    (∀ i, i < ops.length → i ∈ ord) ∧ ∀ (p q : Nat), (ord[p]? : Option Nat) = some q → ∃ o, ops[q]? = some o ∧ ∀ e ∈ o.after.toList, Region.binds md e = true → e.on ∈ ord.take p := by
  unfold ordOk at h
  rw [Bool.and_eq_true, Bool.and_eq_true] at h
  obtain ⟨⟨h1, h2⟩, h3⟩ := h
  refine ⟨fun i hi => ?_, fun p q hq => ?_⟩
  · have := List.all_eq_true.1 h2 i (by simpa using hi)
    simpa using this
  · have hp : p < ord.length := (List.getElem?_eq_some_iff.1 hq).1
    have := List.all_eq_true.1 h3 p (by simpa using hp)
    have hg : ord.getD p 0 = q := by rw [List.getD_eq_getElem?_getD, hq]; rfl
    rw [hg] at this
    cases ho : ops[q]? with
    | none => rw [ho] at this; simp at this
    | some o =>
      rw [ho] at this
      refine ⟨o, rfl, fun e he hb => ?_⟩
      have := List.all_eq_true.1 this e he
      rw [hb] at this
      simpa using this

theorem regFacts {ty : TypeId → Option TI} {ops : List Oper} (h : regOk ty ops = true) (md : Region.Mode) (hmd : md = .any ∨ Region.departs ops.toArray = true) : RegFacts ty ops md := by
  unfold regOk at h
  simp only [Bool.and_eq_true] at h
  obtain ⟨⟨⟨hup, hpairs⟩, _⟩, hord⟩ := h
  have sub : ∀ md e, Region.binds .any e = true → Region.binds md e = true := by
    intro md e he
    unfold Region.binds at he ⊢
    cases hg : e.ground <;> rw [hg] at he <;> first | rfl | (exact absurd (show false = true from he) (by decide))
  refine ⟨?_, ?_, sub md⟩
  · intro i j x y hij hx hy
    unfold pairsOk at hpairs
    have hj : j < ops.length := (List.getElem?_eq_some_iff.1 hy).1
    have h1 := List.all_eq_true.1 hpairs j (by simpa using hj)
    have h2 := List.all_eq_true.1 h1 i (by simpa using hij)
    rw [hx, hy] at h2
    simp only [Bool.or_eq_true, Bool.and_eq_true] at h2
    rcases h2 with h2 | ⟨h2, h3⟩
    · exact .inl h2
    · refine .inr ⟨apartT_spec h2, ?_⟩
      rintro ⟨e1, e2⟩
      rw [e1, e2] at h3
      simp at h3
  · intro listed hsz hr
    have upOrd : edgesUp md ops = true → ∀ i, i < ops.length → isListed listed i = true := by
      intro hup
      refine stuck_of_ord (ord := List.range ops.length) (fun i hi => by simpa using hi) ?_ hsz hr
      intro p q hq
      have hp : p < ops.length := by have := (List.getElem?_eq_some_iff.1 hq).1; simpa using this
      rw [List.getElem?_range hp] at hq
      cases hq
      refine ⟨ops[p], by simp [hp], fun e he hb => ?_⟩
      unfold edgesUp at hup
      have h1 := List.all_eq_true.1 hup (ops[p], p) (by
        rw [List.mem_zipIdx_iff_getElem?]; simp [hp])
      have h2 := List.all_eq_true.1 h1 e he
      rw [hb] at h2
      simp at h2
      rw [List.take_range]
      simp; omega
    rcases hmd with e | hd
    · subst e; exact upOrd hup
    · rw [hd] at hord
      simp only [Bool.not_true, Bool.false_or, Bool.and_eq_true, Bool.or_eq_true] at hord
      cases md with
      | any => exact upOrd hup
      | text =>
        rcases hord.1 with h | h
        · exact upOrd h
        · obtain ⟨a, b⟩ := ord_spec h; exact stuck_of_ord a b hsz hr
      | gc =>
        rcases hord.2 with h | h
        · exact upOrd h
        · obtain ⟨a, b⟩ := ord_spec h; exact stuck_of_ord a b hsz hr

theorem isListed_none (n i : Nat) : isListed (Array.replicate n false) i = false := by
  unfold isListed
  rw [Array.getD_eq_getD_getElem?, Array.getElem?_replicate]
  split <;> rfl

theorem region_ok {E : Env} (hE : EnvOk P E) {id : Nat} {ops : Array Oper} {draw : Bool} {Q : Exit → Act → World → Prop} {k : TF → AS → Prop} {a : Act}
    (h : evReg E ops.toList draw tm s k) (ht : TR nt ρ tm a.tmps) (hr : Rel w0 ρ s w)
    (hk : ∀ tm' s' a' w' ρ', k tm' s' → TR nt ρ' tm' a'.tmps → Rel w0 ρ' s' w' → a'.defers = a.defers → Ext ρ ρ' → Q .normal a' w') : (Code.region id ops draw).wp P Q a w := by
  cases draw with
  | false =>
    refine wp_region ?_
    have := evOps_ok (P := P) hE (ops := ops) (Q := Q) (k := k) ops.toList 0 (fun j => by simp) tm s a w ρ h ht hr hk
    rw [List.range_eq_range']
    simpa using this
  | true =>
    have h' : chkB (regOk E.ty ops.toList) (evDraw E ops.toList (befs ops.toList) ((List.range ops.toList.length).zip ops.toList) tm s [] [] k) := h
    rw [chkB_iff] at h'
    obtain ⟨hok, hd⟩ := h'
    have hrem : remOps ops.toList (Array.replicate ops.size false) = (List.range ops.toList.length).zip ops.toList := by
      unfold remOps
      rw [List.filter_eq_self]
      intro x _
      rw [isListed_none]; rfl
    have any : ∀ md, (md = .any ∨ Region.departs ops = true) → ∀ w', Rel w0 ρ s w' → wpAny P md ops Q ops.size (Array.replicate ops.size false) a w' := by
      intro md hmd w' hr'
      have hf : RegFacts E.ty ops.toList md := regFacts hok md (by simpa using hmd)
      refine draw_any hE hf ops.size _ tm s [] [] a w' ρ (by simp) (fun i j hi => by rw [isListed_none] at hi; simp at hi) ?_ (by rw [hrem]; exact hd) ht hr' hk
      rw [hrem]
      simp
    refine wp_region_draw fun t => ?_
    unfold Region.schedule
    have lin : ∀ md, (md = .any ∨ Region.departs ops = true) → ∀ t', wpOps P ops Q (Region.linearise md ops t') a w.drew := by
      intro md hmd t'
      exact wpAny_sound ops.size t' _ a _ (any md hmd _ hr.drew)
    split
    · exact lin .any (.inl rfl) t
    · rename_i hc
      have hdep : Region.departs ops = true := by
        cases hdp : Region.departs ops with
        | true => rfl
        | false => rw [hdp] at hc; simp at hc
      exact lin _ (.inr hdep) _

/-! ### code -/
def ER : Ex → Exit
  | .nrm => .normal
  | .exit id => .exit id
  | .ret => .ret

/-- What code must come to, for what comes behind it. -/
def QOk (nt : Nat) (w0 : World) (ρ : Ren) (ds : List Deferred) (K : KF) (Q : Exit → Act → World → Prop) : Prop :=
  ∀ e tm s a w ρ', K e tm s → TR nt ρ' tm a.tmps → Rel w0 ρ' s w → a.defers = ds → Ext ρ ρ' → Q (ER e) a w

theorem QOk.ext {ρ ρ' : Ren} {ds : List Deferred} {K : KF} {Q : Exit → Act → World → Prop} (h : QOk nt w0 ρ ds K Q) (hx : Ext ρ ρ') : QOk nt w0 ρ' ds K Q :=
  fun e tm s a w ρ2 h1 h2 h3 h4 h5 => h e tm s a w ρ2 h1 h2 h3 h4 (hx.trans h5)

theorem TR.scrub {tmps : Array Value} (h : TR nt ρ tm tmps) (keep : List Nat) : TR nt ρ (.ofL nt (scrub nt keep tm)) tmps := by
  have hl : (Rx.scrub nt keep tm).length = nt := scrubK_length nt tm keep 0 (Nat.zero_le _)
  refine ⟨rfl, h.size.trans h.len, fun t => ?_⟩
  have hg : (Rx.scrub nt keep tm).getD t .junk = .junk ∨ (Rx.scrub nt keep tm).getD t .junk = tm.getD t .junk := by
    have := scrubK_get nt tm keep 0 t
    rw [Nat.zero_add] at this
    exact this
  rw [TF.getD_ofL _ hl]
  rcases hg with e | e
  · rw [e]; exact .junk _
  · rw [e]; exact h.get t

/-- What a loop comes to, from the head of a round on. -/
def LW (P : Program) (c : Code) (Q : Exit → Act → World → Prop) (a : Act) (w : World) : Prop :=
  ∀ (b : Frame) (k : List Item) (cs : List Frame), ∃ e a' w', Q e a' w' ∧ Arrives P (lone (b.at a (.code c :: .inLoop c :: k)) cs w) b k cs e a' w'

theorem LW.wp {c : Code} {Q : Exit → Act → World → Prop} {a : Act} (h : LW P c Q a w) : (Code.loop c).wp P Q a w := by
  intro b k cs
  obtain ⟨e, a', w', hq, harr⟩ := h b k cs
  exact ⟨e, a', w', hq, .of_steps (.one step_loop) harr⟩

theorem LW.step {c : Code} {Q : Exit → Act → World → Prop} {a : Act} (h : c.wp P (Exit.then (LW P c Q) Q) a w) : LW P c Q a w := by
  intro b k cs
  obtain ⟨e, a₁, w₁, hq, harr⟩ := h b (.inLoop c :: k) cs
  cases e with
  | normal =>
    obtain ⟨e₂, a₂, w₂, hq₂, harr₂⟩ := hq b k cs
    exact ⟨e₂, a₂, w₂, hq₂, .of_steps (Steps.trans harr (.one step_inLoop)) harr₂⟩
  | exit id => exact ⟨_, a₁, w₁, hq, .pass (x := .inLoop c) rfl (fun _ _ => .inl (by simp)) harr⟩
  | goto l => exact ⟨_, a₁, w₁, hq, .pass (x := .inLoop c) rfl (fun _ _ => .inl (by simp)) harr⟩
  | ret => exact ⟨_, a₁, w₁, hq, .pass (x := .inLoop c) rfl (fun _ _ => .inl (by simp)) harr⟩
  | panic ch => exact ⟨_, a₁, w₁, hq, .pass (x := .inLoop c) rfl (fun _ _ => .inl (by simp)) harr⟩
  | outgrown => exact ⟨_, a₁, w₁, hq, .pass (x := .inLoop c) rfl (fun _ _ => .inl (by simp)) harr⟩

theorem evC_ok {E : Env} (hE : EnvOk P E) (c : Code) : ∀ (tm : TF) (s : AS) (K : KF) (a : Act) (w : World) (ρ : Ren) (Q : Exit → Act → World → Prop),
    evC E nt c tm s K → TR nt ρ tm a.tmps → Rel w0 ρ s w → QOk nt w0 ρ a.defers K Q → c.wp P Q a w := by
  induction c with
  | skip => intro tm s K a w ρ Q h ht hr hq; exact wp_skip (hq .nrm tm s a w ρ h ht hr rfl (Ext.refl ρ))
  | region id ops draw =>
    intro tm s K a w ρ Q h ht hr hq
    exact region_ok hE h ht hr (fun tm' s' a' w' ρ' h1 h2 h3 h4 h5 => hq .nrm tm' s' a' w' ρ' h1 h2 h3 h4 h5)
  | seq x y ihx ihy =>
    intro tm s K a w ρ Q h ht hr hq
    refine wp_seq (ihx tm s _ a w ρ _ h ht hr ?_)
    intro e tm' s' a' w' ρ' h1 h2 h3 h4 h5
    cases e with
    | nrm => exact ihy tm' s' K a' w' ρ' Q h1 h2 h3 (by rw [h4]; exact hq.ext h5)
    | exit id => exact hq (.exit id) tm' s' a' w' ρ' h1 h2 h3 h4 h5
    | ret => exact hq .ret tm' s' a' w' ρ' h1 h2 h3 h4 h5
  | cond c x y ihx ihy =>
    intro tm s K a w ρ Q h ht hr hq
    have hc := ht.eval c
    have h' : condV (evO tm c) (evC E nt x tm s K) (evC E nt y tm s K) := h
    unfold condV at h'
    split at h'
    · rename_i hv
      rw [hv] at hc
      generalize hcv : a.eval c = c' at hc
      cases hc
      exact wp_cond_true hcv (ihx tm s _ a w ρ Q h' ht hr hq)
    · rename_i hv
      rw [hv] at hc
      generalize hcv : a.eval c = c' at hc
      cases hc
      exact wp_cond_false hcv (ihy tm s _ a w ρ Q h' ht hr hq)
    · exact h'.elim
  | block id b ih =>
    intro tm s K a w ρ Q h ht hr hq
    refine wp_block (ih tm s _ a w ρ _ h ht hr ?_)
    intro e tm' s' a' w' ρ' h1 h2 h3 h4 h5
    cases e with
    | nrm => exact hq .nrm tm' s' a' w' ρ' h1 h2 h3 h4 h5
    | exit j =>
      simp only [ER, Exit.inBlock]
      simp only [blockK] at h1
      by_cases hj : j = id
      · subst hj
        simp at h1
        rw [if_pos rfl]
        exact hq .nrm tm' s' a' w' ρ' h1 h2 h3 h4 h5
      · have : (j == id) = false := by simpa using hj
        rw [this] at h1
        rw [if_neg hj]
        exact hq (.exit j) tm' s' a' w' ρ' h1 h2 h3 h4 h5
    | ret => exact hq .ret tm' s' a' w' ρ' h1 h2 h3 h4 h5
  | loop b ih =>
    intro tm s K a w ρ Q h ht hr hq
    refine LW.wp ?_
    have h' : loopN LOOPS (fun (tm : Tm) s K => evC E nt b (.ofL nt (scrub nt (E.kl (firstReg b)) (.ofL nt tm))) s (bodyK nt (E.kl (firstReg b)) (E.kc (firstReg b)) K)) (scrub nt (E.kl (firstReg b)) tm) s (exitK nt (E.kc (firstReg b)) K) := h
    have key : ∀ (n : Nat) (tm : Tm) (s : AS) (a : Act) (w : World) (ρ : Ren), loopN n (fun (tm : Tm) s K => evC E nt b (.ofL nt (scrub nt (E.kl (firstReg b)) (.ofL nt tm))) s (bodyK nt (E.kl (firstReg b)) (E.kc (firstReg b)) K)) tm s (exitK nt (E.kc (firstReg b)) K) → TR nt ρ (.ofL nt tm) a.tmps → Rel w0 ρ s w → QOk nt w0 ρ a.defers K Q → LW P b Q a w := by
      intro n
      induction n with
      | zero => intro tm s a w ρ h; exact h.elim
      | succ n ihn =>
        intro tm s a w ρ h ht hr hq
        refine LW.step (ih _ s _ a w ρ _ h (ht.scrub _) hr ?_)
        intro e tm' s' a' w' ρ' h1 h2 h3 h4 h5
        cases e with
        | nrm => exact ihn _ s' a' w' ρ' h1 (h2.scrub _) h3 (by rw [h4]; exact hq.ext h5)
        | exit id => exact hq (.exit id) _ s' a' w' ρ' h1 ((h2.scrub _).scrub _) h3 h4 h5
        | ret => exact hq .ret _ s' a' w' ρ' h1 ((h2.scrub _).scrub _) h3 h4 h5
    exact key LOOPS _ s a w ρ h' (ht.scrub _) hr hq
  | rangeFunc f ps x y ihx ihy => intro tm s K a w ρ Q h; exact h.elim
  | exit id => intro tm s K a w ρ Q h ht hr hq; exact wp_exit (hq (.exit id) tm s a w ρ h ht hr rfl (Ext.refl ρ))
  | scope b ih =>
    intro tm s K a w ρ Q h ht hr hq
    refine wp_scope_straight (ih tm s K a w ρ _ h ht hr ?_)
    intro e tm' s' a' w' ρ' h1 h2 h3 h4 h5
    cases e with
    | nrm => exact hq .nrm tm' s' a' w' ρ' h1 h2 h3 h4 h5
    | exit id => exact hq (.exit id) tm' s' a' w' ρ' h1 h2 h3 h4 h5
    | ret => exact hq .ret tm' s' a' w' ρ' h1 h2 h3 h4 h5
  | label l => intro tm s K a w ρ Q h ht hr hq; exact wp_label (hq .nrm tm s a w ρ h ht hr rfl (Ext.refl ρ))
  | goto l => intro tm s K a w ρ Q h; exact h.elim
  | ret => intro tm s K a w ρ Q h ht hr hq; exact wp_ret (hq .ret tm s a w ρ h ht hr rfl (Ext.refl ρ))
  | refuse w => intro tm s K a w ρ Q h; exact h.elim
end
end Go.Rx
end
section
/- Soundness of functions; and that code is monotone and has outcomes. -/
namespace Go.Rx
open Go

/-! ### monotone, with outcomes -/
theorem prd_ldT (ti : TI) (p : V) : Prd (ldT ti p) := Prd.of_det (det_ldT ti p)

theorem evOps_mono {E : Env} (hE : EnvPrd E) (all : List Oper) (ops : List Oper) : ∀ (tm : TF) (s : AS) (k k' : TF → AS → Prop), (∀ tm s, k tm s → k' tm s) → evOps E all ops tm s k → evOps E all ops tm s k' := by
  induction ops with
  | nil => intro tm s k k' hk h; exact hk _ _ h
  | cons o l ih =>
    intro tm s k k' hk h
    have h' : evGuard all o.guard tm (fun tm => evOp E o.op (evO tm) s (fun v s' => evOps E all l (putT tm o.dst v) s' k)) (fun tm => evOps E all l (putT tm o.dst undefV) s k) := h
    show evGuard all o.guard tm (fun tm => evOp E o.op (evO tm) s (fun v s' => evOps E all l (putT tm o.dst v) s' k')) (fun tm => evOps E all l (putT tm o.dst undefV) s k')
    rw [evGuard_iff] at h' ⊢
    rcases h' with ⟨a, b⟩ | ⟨a, b⟩
    · exact .inl ⟨a, (prd_evOp hE _ _).mono _ _ _ (fun v s' => ih _ _ _ _ hk) b⟩
    · exact .inr ⟨a, ih _ _ _ _ hk b⟩

theorem evOps_live {E : Env} (hE : EnvPrd E) (all : List Oper) (ops : List Oper) : ∀ (tm : TF) (s : AS) (k : TF → AS → Prop), evOps E all ops tm s k → ∃ tm s, k tm s := by
  induction ops with
  | nil => intro tm s k h; exact ⟨_, _, h⟩
  | cons o l ih =>
    intro tm s k h
    have h' : evGuard all o.guard tm (fun tm => evOp E o.op (evO tm) s (fun v s' => evOps E all l (putT tm o.dst v) s' k)) (fun tm => evOps E all l (putT tm o.dst undefV) s k) := h
    rw [evGuard_iff] at h'
    rcases h' with ⟨a, b⟩ | ⟨a, b⟩
    · obtain ⟨v, s', h2⟩ := (prd_evOp hE _ _).live _ _ b
      exact ih _ _ _ h2
    · exact ih _ _ _ b

theorem dstep_mono' {E : Env} (hE : EnvPrd E) (all : List Oper) (bs : List Nat) (o : Nat × Oper) (tm : TF) (s : AS) (L : List Ld) (S : List Sn) (k k' : KD) (hk : ∀ a b c d, k a b c d → k' a b c d) (h : dstep E all bs o tm s L S k) : dstep E all bs o tm s L S k' := by
  unfold dstep at h ⊢
  rw [evGuard_iff] at h ⊢
  rcases h with ⟨a, b⟩ | ⟨a, b⟩
  · refine .inl ⟨a, ?_⟩
    split
    · rename_i hc
      rw [hc] at b
      exact (prd_evOp hE _ _).mono _ _ _ (fun v s' => hk _ _ _ _) b
    · rename_i hc
      rw [hc] at b
      simp only at b
      split
      · rename_i t x ho
        rw [ho] at b
        simp only at b
        split
        · rename_i ti ht
          rw [ht] at b
          refine (prd_ldT _ _).mono _ _ _ (fun v s' hh => ?_) b
          rw [chkSns_iff] at hh ⊢
          exact ⟨hh.1, hk _ _ _ _ hh.2⟩
        · rename_i ht
          rw [ht] at b
          exact b
      · rename_i hno
        split at b
        · rename_i t x ho; exact absurd ho (hno t x)
        · exact b
    · rename_i h0 h1
      split at b
      · rename_i hc; exact absurd hc h0
      · rename_i hc; exact absurd hc h1
      · refine (prd_evOp hE _ _).mono _ _ _ (fun v s' hh => ?_) b
        rw [chkLds_iff] at hh ⊢
        exact ⟨hh.1, hk _ _ _ _ hh.2⟩
  · exact .inr ⟨a, hk _ _ _ _ b⟩

theorem dstep_live {E : Env} (hE : EnvPrd E) (all : List Oper) (bs : List Nat) (o : Nat × Oper) (tm : TF) (s : AS) (L : List Ld) (S : List Sn) (k : KD) (h : dstep E all bs o tm s L S k) : ∃ a b c d, k a b c d := by
  unfold dstep at h
  rw [evGuard_iff] at h
  rcases h with ⟨a, b⟩ | ⟨a, b⟩
  · split at b
    · obtain ⟨v, s', h2⟩ := (prd_evOp hE _ _).live _ _ b
      exact ⟨_, _, _, _, h2⟩
    · split at b
      · split at b
        · obtain ⟨v, s', h2⟩ := (prd_ldT _ _).live _ _ b
          rw [chkSns_iff] at h2
          exact ⟨_, _, _, _, h2.2⟩
        · exact b.elim
      · exact b.elim
    · obtain ⟨v, s', h2⟩ := (prd_evOp hE _ _).live _ _ b
      rw [chkLds_iff] at h2
      exact ⟨_, _, _, _, h2.2⟩
  · exact ⟨_, _, _, _, b⟩

theorem evDraw_mono {E : Env} (hE : EnvPrd E) (all : List Oper) (bs : List Nat) (ops : List (Nat × Oper)) : ∀ (tm : TF) (s : AS) (L : List Ld) (S : List Sn) (k k' : TF → AS → Prop), (∀ tm s, k tm s → k' tm s) → evDraw E all bs ops tm s L S k → evDraw E all bs ops tm s L S k' := by
  induction ops with
  | nil => intro tm s L S k k' hk h; exact hk _ _ h
  | cons o l ih =>
    intro tm s L S k k' hk h
    rw [evDraw_cons] at h ⊢
    exact dstep_mono' hE _ _ _ _ _ _ _ _ _ (fun a b c d => ih a b c d k k' hk) h

theorem evDraw_live {E : Env} (hE : EnvPrd E) (all : List Oper) (bs : List Nat) (ops : List (Nat × Oper)) : ∀ (tm : TF) (s : AS) (L : List Ld) (S : List Sn) (k : TF → AS → Prop), evDraw E all bs ops tm s L S k → ∃ tm s, k tm s := by
  induction ops with
  | nil => intro tm s L S k h; exact ⟨_, _, h⟩
  | cons o l ih =>
    intro tm s L S k h
    rw [evDraw_cons] at h
    obtain ⟨a, b, c, d, h⟩ := dstep_live hE _ _ _ _ _ _ _ _ h
    exact ih _ _ _ _ _ h

theorem evReg_mono {E : Env} (hE : EnvPrd E) {ops : List Oper} {draw : Bool} {tm : TF} {s : AS} {k k' : TF → AS → Prop} (hk : ∀ tm s, k tm s → k' tm s) (h : evReg E ops draw tm s k) : evReg E ops draw tm s k' := by
  cases draw with
  | false => exact evOps_mono hE _ _ _ _ _ _ hk h
  | true =>
    have h' : chkB (regOk E.ty ops) (evDraw E ops (befs ops) ((List.range ops.length).zip ops) tm s [] [] k) := h
    show chkB (regOk E.ty ops) (evDraw E ops (befs ops) ((List.range ops.length).zip ops) tm s [] [] k')
    rw [chkB_iff] at h' ⊢
    exact ⟨h'.1, evDraw_mono hE _ _ _ _ _ _ _ _ _ hk h'.2⟩

theorem evReg_live {E : Env} (hE : EnvPrd E) {ops : List Oper} {draw : Bool} {tm : TF} {s : AS} {k : TF → AS → Prop} (h : evReg E ops draw tm s k) : ∃ tm s, k tm s := by
  cases draw with
  | false => exact evOps_live hE _ _ _ _ _ h
  | true =>
    have h' : chkB (regOk E.ty ops) (evDraw E ops (befs ops) ((List.range ops.length).zip ops) tm s [] [] k) := h
    rw [chkB_iff] at h'
    exact evDraw_live hE _ _ _ _ _ _ _ _ h'.2

structure PrdC {T : Type} (m : T → AS → (Ex → T → AS → Prop) → Prop) : Prop where
  mono : ∀ tm s (K K' : Ex → T → AS → Prop), (∀ e tm s, K e tm s → K' e tm s) → m tm s K → m tm s K'
  live : ∀ tm s (K : Ex → T → AS → Prop), m tm s K → ∃ e tm s, K e tm s

theorem prdC_loopN {B : Tm → AS → KX → Prop} (h : PrdC B) : ∀ n, PrdC (loopN n B) := by
  intro n
  induction n with
  | zero => exact ⟨fun _ _ _ _ _ h => h, fun _ _ _ h => h.elim⟩
  | succ n ih =>
    refine ⟨fun tm s K K' hk hh => ?_, fun tm s K hh => ?_⟩
    · refine h.mono tm s _ _ (fun e tm s h1 => ?_) hh
      cases e with
      | nrm => exact ih.mono _ _ _ _ hk h1
      | exit id => exact hk _ _ _ h1
      | ret => exact hk _ _ _ h1
    · obtain ⟨e, tm', s', h1⟩ := h.live tm s _ hh
      cases e with
      | nrm => exact ih.live _ _ _ h1
      | exit id => exact ⟨_, _, _, h1⟩
      | ret => exact ⟨_, _, _, h1⟩

theorem thenK_live {next : TF → AS → Prop} {K : KF} (hn : ∀ tm s, next tm s → ∃ e tm s, K e tm s) {e : Ex} {tm : TF} {s : AS} (h : thenK next K e tm s) : ∃ e tm s, K e tm s := by
  cases e with
  | nrm => exact hn _ _ h
  | exit id => exact ⟨_, _, _, h⟩
  | ret => exact ⟨_, _, _, h⟩

theorem exitK_mono {nt : Nat} {o : List Nat} {K K' : KF} (hk : ∀ e tm s, K e tm s → K' e tm s) {e : Ex} {tm : Tm} {s : AS} (h : exitK nt o K e tm s) : exitK nt o K' e tm s := by
  cases e with
  | nrm => exact h
  | exit j => exact hk _ _ _ h
  | ret => exact hk _ _ _ h

theorem exitK_live {nt : Nat} {o : List Nat} {K : KF} {e : Ex} {tm : Tm} {s : AS} (h : exitK nt o K e tm s) : ∃ e tm s, K e tm s := by
  cases e with
  | nrm => exact h.elim
  | exit j => exact ⟨_, _, _, h⟩
  | ret => exact ⟨_, _, _, h⟩

theorem bodyK_mono {nt : Nat} {o x : List Nat} {K K' : KX} (hk : ∀ e tm s, K e tm s → K' e tm s) {e : Ex} {tm : TF} {s : AS} (h : bodyK nt o x K e tm s) : bodyK nt o x K' e tm s := by
  cases e <;> exact hk _ _ _ h

theorem bodyK_live {nt : Nat} {o x : List Nat} {K : KX} {e : Ex} {tm : TF} {s : AS} (h : bodyK nt o x K e tm s) : ∃ e tm s, K e tm s := by
  cases e <;> exact ⟨_, _, _, h⟩

theorem prdC_evC {E : Env} (hE : EnvPrd E) (nt : Nat) (c : Code) : PrdC (evC E nt c) := by
  induction c with
  | skip => exact ⟨fun tm s K K' hk h => hk _ _ _ h, fun tm s K h => ⟨_, _, _, h⟩⟩
  | region id ops draw =>
    exact ⟨fun tm s K K' hk h => evReg_mono hE (hk .nrm) h, fun tm s K h => by obtain ⟨a, b, c⟩ := evReg_live hE h; exact ⟨_, _, _, c⟩⟩
  | seq x y ihx ihy =>
    refine ⟨fun tm s K K' hk h => ihx.mono _ _ _ _ (fun e tm s h1 => ?_) h, fun tm s K h => ?_⟩
    · cases e with
      | nrm => exact ihy.mono _ _ _ _ hk h1
      | exit id => exact hk _ _ _ h1
      | ret => exact hk _ _ _ h1
    · obtain ⟨e, tm', s', h1⟩ := ihx.live _ _ _ h
      exact thenK_live (fun tm s h2 => ihy.live _ _ _ h2) h1
  | cond c x y ihx ihy =>
    refine ⟨fun tm s K K' hk h => ?_, fun tm s K h => ?_⟩
    · have h' : condV (evO tm c) (evC E nt x tm s K) (evC E nt y tm s K) := h
      show condV (evO tm c) (evC E nt x tm s K') (evC E nt y tm s K')
      unfold condV at h' ⊢
      split at h'
      · exact ihx.mono _ _ _ _ hk h'
      · exact ihy.mono _ _ _ _ hk h'
      · exact h'.elim
    · have h' : condV (evO tm c) (evC E nt x tm s K) (evC E nt y tm s K) := h
      unfold condV at h'
      split at h'
      · exact ihx.live _ _ _ h'
      · exact ihy.live _ _ _ h'
      · exact h'.elim
  | block id b ih =>
    refine ⟨fun tm s K K' hk h => ih.mono _ _ _ _ (fun e tm s h1 => ?_) h, fun tm s K h => ?_⟩
    · cases e with
      | nrm => exact hk _ _ _ h1
      | exit j =>
        simp only [blockK] at h1 ⊢
        cases hj : (j == id) <;> rw [hj] at h1 <;> exact hk _ _ _ h1
      | ret => exact hk _ _ _ h1
    · obtain ⟨e, tm', s', h1⟩ := ih.live _ _ _ h
      cases e with
      | nrm => exact ⟨_, _, _, h1⟩
      | exit j =>
        simp only [blockK] at h1
        split at h1 <;> exact ⟨_, _, _, h1⟩
      | ret => exact ⟨_, _, _, h1⟩
  | loop b ih =>
    have hb : PrdC (fun (tm : Tm) s K => evC E nt b (.ofL nt (scrub nt (E.kl (firstReg b)) (.ofL nt tm))) s (bodyK nt (E.kl (firstReg b)) (E.kc (firstReg b)) K)) := ⟨fun tm s K K' hk h => ih.mono _ _ _ _ (fun e tm s => bodyK_mono hk) h, fun tm s K h => by obtain ⟨e, tm', s', h1⟩ := ih.live _ _ _ h; exact bodyK_live h1⟩
    have hl := prdC_loopN hb LOOPS
    refine ⟨fun tm s K K' hk h => ?_, fun tm s K h => ?_⟩
    · have h' : loopN LOOPS (fun (tm : Tm) s K => evC E nt b (.ofL nt (scrub nt (E.kl (firstReg b)) (.ofL nt tm))) s (bodyK nt (E.kl (firstReg b)) (E.kc (firstReg b)) K)) (scrub nt (E.kl (firstReg b)) tm) s (exitK nt (E.kc (firstReg b)) K) := h
      show loopN LOOPS (fun (tm : Tm) s K => evC E nt b (.ofL nt (scrub nt (E.kl (firstReg b)) (.ofL nt tm))) s (bodyK nt (E.kl (firstReg b)) (E.kc (firstReg b)) K)) (scrub nt (E.kl (firstReg b)) tm) s (exitK nt (E.kc (firstReg b)) K')
      exact hl.mono _ _ _ _ (fun e tm s => exitK_mono hk) h'
    · have h' : loopN LOOPS (fun (tm : Tm) s K => evC E nt b (.ofL nt (scrub nt (E.kl (firstReg b)) (.ofL nt tm))) s (bodyK nt (E.kl (firstReg b)) (E.kc (firstReg b)) K)) (scrub nt (E.kl (firstReg b)) tm) s (exitK nt (E.kc (firstReg b)) K) := h
      obtain ⟨e, tm', s', h1⟩ := hl.live _ _ _ h'
      exact exitK_live h1
  | rangeFunc f ps x y ihx ihy => exact ⟨fun _ _ _ _ _ h => h, fun _ _ _ h => h.elim⟩
  | exit id => exact ⟨fun tm s K K' hk h => hk _ _ _ h, fun tm s K h => ⟨_, _, _, h⟩⟩
  | scope b ih => exact ih
  | label l => exact ⟨fun tm s K K' hk h => hk _ _ _ h, fun tm s K h => ⟨_, _, _, h⟩⟩
  | goto l => exact ⟨fun _ _ _ _ _ h => h, fun _ _ _ h => h.elim⟩
  | ret => exact ⟨fun tm s K K' hk h => hk _ _ _ h, fun tm s K h => ⟨_, _, _, h⟩⟩
  | refuse w => exact ⟨fun _ _ _ _ _ h => h, fun _ _ _ h => h.elim⟩

theorem finK_mono {ty : TypeId → Option TI} {rs : List ResultVar} {K K' : K0} (hk : ∀ v s, K v s → K' v s) {e : Ex} {tm : TF} {s : AS} (h : finK ty rs K e tm s) : finK ty rs K' e tm s := by
  unfold finK at h ⊢
  split at h
  · split at h
    · exact hk _ _ h
    · exact h.elim
  · split at h
    · exact hk _ _ h
    · exact h.elim
  · exact h.elim

theorem finK_live {ty : TypeId → Option TI} {rs : List ResultVar} {K : K0} {e : Ex} {tm : TF} {s : AS} (h : finK ty rs K e tm s) : ∃ v s, K v s := by
  unfold finK at h
  split at h
  · split at h
    · exact ⟨_, _, h⟩
    · exact h.elim
  · split at h
    · exact ⟨_, _, h⟩
    · exact h.elim
  · exact h.elim

theorem prd_evF {E : Env} (hE : EnvPrd E) (fn : Func) (args : List V) : Prd (evF E fn args) := by
  constructor
  · intro s K K' hk h
    unfold evF at h ⊢
    split at h
    · exact (prdC_evC hE _ _).mono _ _ _ _ (fun e tm s => finK_mono hk) h
    · exact h.elim
  · intro s K h
    unfold evF at h
    split at h
    · obtain ⟨e, tm, s', h1⟩ := (prdC_evC hE _ _).live _ _ _ h
      exact finK_live h1
    · exact h.elim

/-! ### functions are sound -/
section
variable {P : Program} {w0 : World} {ρ : Ren} {s : AS} {w : World} {tm : TF} {nt : Nat}

theorem TR.of_VRs {l : List V} {l' : Array Value} (h : VRs ρ l l'.toList) : TR l.length ρ (.ofL l.length l) l' := by
  refine ⟨rfl, (by simpa using h.length : l'.size = l.length), fun t => ?_⟩
  rw [TF.getD_ofL _ rfl, List.getD_eq_getElem?_getD, Array.getD_eq_getD_getElem?]
  cases hv : l[t]? with
  | none => simp only [Option.getD_none]; exact .junk _
  | some v =>
    obtain ⟨v', h1, h2⟩ := h.get hv
    have : l'[t]? = some v' := by simpa using h1
    rw [this]
    exact h2

theorem results_list {ty : TypeId → Option TI} (hty : TyEnv P ty) (hr : Rel w0 ρ s w) {tmps : Array Value} (ht : TR nt ρ tm tmps) : ∀ (rs : List ResultVar) (vs : List V), resAll ty tm s rs = some vs →
    ∃ vs' : List Value, VRs ρ vs vs' ∧ ∀ (f : ResultVar → Sem Value), (∀ t, f (.tmp t) = pure (tmps.getD t undef)) → (∀ a t, f (.cell a t) = (do loadVar t (← asAddr (tmps.getD a undef)))) → (rs.mapM f).run P w = .ok vs' w
  | [], vs, h => by cases h; exact ⟨[], .nil, fun f _ _ => rfl⟩
  | r :: rs, vs, h => by
    unfold resAll at h
    split at h
    · rename_i v hv
      split at h
      · rename_i us hus
        cases h
        obtain ⟨vs', h1, h2⟩ := results_list hty hr ht rs us hus
        have one : ∃ v', VR ρ v v' ∧ ∀ (f : ResultVar → Sem Value), (∀ t, f (.tmp t) = pure (tmps.getD t undef)) → (∀ a t, f (.cell a t) = (do loadVar t (← asAddr (tmps.getD a undef)))) → (f r).run P w = .ok v' w := by
          cases r with
          | tmp t =>
            simp only [resOne] at hv
            cases hv
            exact ⟨_, ht.get t, fun f h1 _ => by rw [h1]; rfl⟩
          | cell a t =>
            simp only [resOne] at hv
            split at hv
            · rename_i ti hti
              obtain ⟨ad, v', e, hvr, hrun⟩ := peek_ok hty hr hti hv (ht.get a)
              refine ⟨v', hvr, fun f _ h2 => ?_⟩
              rw [h2, e]
              exact (run_step (a := ad) (w' := w) rfl).trans hrun
            · simp at hv
        obtain ⟨v', hvr, hone⟩ := one
        refine ⟨v' :: vs', .cons hvr h1, fun f hf1 hf2 => ?_⟩
        rw [List.mapM_cons]
        refine (run_step (hone f hf1 hf2)).trans ?_
        exact (run_step (h2 f hf1 hf2)).trans rfl
      · simp at h
    · simp at h

theorem results_ok {ty : TypeId → Option TI} (hty : TyEnv P ty) (hr : Rel w0 ρ s w) {tmps : Array Value} (ht : TR nt ρ tm tmps) {fn : Func} {vs : List V} (h : resAll ty tm s fn.results.toList = some vs) :
    ∃ v', VR ρ (resV vs) v' ∧ (results fn tmps).run P w = .ok v' w := by
  obtain ⟨vs', h1, h2⟩ := results_list hty hr ht _ _ h
  unfold results
  have : (fn.results.mapM fun | .tmp t => pure (tmps.getD t undef) | .cell a t => do loadVar t (← asAddr (tmps.getD a undef)) : Sem (Array Value)).run P w = .ok vs'.toArray w := by
    rw [Array.mapM_eq_mapM_toList, Sem.run_map, h2 _ (fun _ => rfl) (fun _ _ => rfl)]
    rfl
  have step := run_step (f := fun vs : Array Value => (pure (if h : vs.size = 1 then vs[0] else .tuple vs) : Sem Value)) this
  refine ⟨if h : vs'.toArray.size = 1 then vs'.toArray[0] else .tuple vs'.toArray, ?_, step.trans rfl⟩
  cases h1 with
  | nil => simp [resV]; exact .tuple .nil
  | cons hv ht =>
    cases ht with
    | nil => simpa [resV] using hv
    | cons hv2 ht2 =>
      simp [resV]
      exact .tuple (by simpa using VRs.cons hv (.cons hv2 ht2))

theorem undef_VR (ρ : Ren) : VR ρ undefV undef := .tuple .nil

theorem evF_ok {E : Env} (hE : EnvOk P E) {f : FuncId} {fn : Func} (hf : P.funcs[f]? = some fn) (hn : (fn.name == "runtime.NumGoroutine") = false) : SoundF P f (fun args => evF E fn args) := by
  intro args s K h
  have h0 : evF E fn args s K := h
  unfold evF at h0
  split at h0
  · rename_i c hc
    refine ⟨⟨fn, hf, hn, by rw [hc]; rfl⟩, fun w0 ρ w args' hr ha => ?_⟩
    refine calls_of_wp hf hc ?_
    have hlen := ha.length
    have ht : TR (args ++ List.replicate (fn.ntmps - args.length) undefV).length ρ (.ofL (args ++ List.replicate (fn.ntmps - args.length) undefV).length (args ++ List.replicate (fn.ntmps - args.length) undefV)) (args' ++ Array.replicate (fn.ntmps - args'.size) undef) := by
      have hh : VRs ρ (args ++ List.replicate (fn.ntmps - args.length) undefV) (args' ++ Array.replicate (fn.ntmps - args'.size) undef).toList := by
        simp only [Array.toList_append, Array.toList_replicate]
        have : fn.ntmps - args'.size = fn.ntmps - args.length := by
          rw [← hlen]; rfl
        rw [this]
        exact ha.append (VRs.replicate (undef_VR ρ) _)
      exact TR.of_VRs hh
    refine evC_ok hE c _ s _ _ w ρ _ h0 ht hr ?_
    intro e tm' s' a' w' ρ' h1 h2 h3 h4 h5
    have fin : (match resAll E.ty tm' s' fn.results.toList with | some vs => K (resV vs) s' | none => False) → ∃ v, (results fn a'.tmps).run P w' = .ok v w' ∧ ∃ v0 s1 ρ1 v1, Ending.returned v = .returned v1 ∧ K v0 s1 ∧ Ext ρ ρ1 ∧ Rel w0 ρ1 s1 w' ∧ VR ρ1 v0 v1 := by
      intro hh
      split at hh
      · rename_i vs hvs
        obtain ⟨v', hv, hrun⟩ := results_ok hE.ty h3 h2 hvs
        exact ⟨v', hrun, _, s', ρ', v', rfl, hh, h5, h3, hv⟩
      · exact hh.elim
    cases e with
    | nrm => exact ⟨h4, fin h1⟩
    | exit id => exact h1.elim
    | ret => exact ⟨h4, fin h1⟩
  · exact h0.elim
end
end Go.Rx
end
section
/- The shallow side: what generated texts are made of. -/
namespace Go.Rx
open Go

def no : M := fun _ _ => False
theorem prd_no : Prd no := ⟨fun _ _ _ _ h => h, fun _ _ h => h.elim⟩

def grd (v : V) (A B Z : Prop) : Prop := match v with | .bool true => A | .bool false => B | .tuple [] => Z | _ => False
def cvt (a b : Kd) (x : V) : M := fun s K => match convI (some a) (some b) x with | some r => optK r s K | none => False
def cvtS (a : Kd) (x : V) : M := fun s K => match convI (some a) (some .str) x with | some r => optK r s K | none => toStr x s K
def lenM (x : V) : M := fun s K => match (match x with | .map none => some (some (V.int .i64 0)) | _ => none) with | some r => optK r s K | none => mapLen x s K
def bsl (size : Nat) (z : List V) (len : Nat) (parts : List (Nat × V)) : M := fun s K =>
  match fillV (fun j => some (j * size, size)) (zeros z len) parts with
  | some cs => if cs.all flatV = true ∧ z.length = size then newS cs len s K else False
  | none => False
def fp (off : Nat) (x : V) : Option V := match x with | .ptr (some a) => some (.ptr (some (add a off))) | _ => none
def aggO (o : Option (List V)) : Option V := match o with | some cs => some (.agg cs) | none => none
def rcons (o : Option V) (r : Option (List V)) : Option (List V) := match o with | some v => (match r with | some vs => some (v :: vs) | none => none) | none => none
def rfin (o : Option (List V)) (s : AS) (K : K0) : Prop := match o with | some vs => K (resV vs) s | none => False
def exB (b : Bool) (X Y : Prop) : Prop := match b with | true => X | false => Y
def exX (e : Ex) (X : Nat → Prop) (R : Prop) : Prop := match e with | .nrm => False | .exit j => X j | .ret => R

def F0 (f : M) : List V → M := fun args => match args with | [] => f | _ => no
def F1 (f : V → M) : List V → M := fun args => match args with | [a] => f a | _ => no
def F2 (f : V → V → M) : List V → M := fun args => match args with | [a, b] => f a b | _ => no
def F3 (f : V → V → V → M) : List V → M := fun args => match args with | [a, b, c] => f a b c | _ => no
def F4 (f : V → V → V → V → M) : List V → M := fun args => match args with | [a, b, c, d] => f a b c d | _ => no
def F5 (f : V → V → V → V → V → M) : List V → M := fun args => match args with | [a, b, c, d, e] => f a b c d e | _ => no
def tabC (l : List (Nat × (List V → M))) (g : Nat) : List V → M :=
  match l with
  | [] => fun _ => no
  | p :: r => match Nat.beq p.1 g with | true => p.2 | false => tabC r g
def tabL (l : List (Nat × List Nat)) (g : Nat) : List Nat :=
  match l with
  | [] => []
  | p :: r => match Nat.beq p.1 g with | true => p.2 | false => tabL r g
def tabT (l : List (Option TI)) (g : Nat) : Option TI := match l[g]? with | some o => o | none => none
def tabM (l : List (Nat × String × Nat)) (t : Nat) (n : String) : Option Nat :=
  match l with
  | [] => none
  | p :: r => match Nat.beq p.1 t && (p.2.1 == n) with | true => some p.2.2 | false => tabM r t n

structure SP (P : Program) (i : Nat) (g : List V → M) : Prop where
  s : SoundF P i g
  p : ∀ args, Prd (g args)

def AllS (P : Program) : List (Nat × (List V → M)) → Prop
  | [] => True
  | p :: r => SP P p.1 p.2 ∧ AllS P r

theorem tabC_s {P : Program} {l : List (Nat × (List V → M))} (h : AllS P l) : ∀ g, SP P g (tabC l g) := by
  induction l with
  | nil => intro g; exact ⟨fun _ _ _ h => h.elim, fun _ => prd_no⟩
  | cons p r ih =>
    intro g
    unfold tabC
    cases hb : Nat.beq p.1 g with
    | true => have := Nat.eq_of_beq_eq_true hb; subst this; exact h.1
    | false => exact ih h.2 g

/-- A program's types and methods, as a table says them. -/
structure TabOk (P : Program) (ty : TypeId → Option TI) (meth : TypeId → String → Option FuncId) : Prop where
  ty : TyEnv P ty
  meth : ∀ t n g, meth t n = some g → methOf P t n = some g

theorem mkEnv {P : Program} {ty : TypeId → Option TI} {meth : TypeId → String → Option FuncId} (ht : TabOk P ty meth) {L : List (Nat × (List V → M))} (hL : AllS P L) {kl kc : Nat → List Nat} : EnvOk P ⟨ty, tabC L, meth, kl, kc⟩ :=
  ⟨ht.ty, ht.meth, fun f => (tabC_s hL f).s, ⟨fun f args => (tabC_s hL f).p args⟩⟩

theorem mkS {P : Program} {E : Env} (hE : EnvOk P E) {i : Nat} {fn : Func} (hf : P.funcs[i]? = some fn) (hn : (fn.name == "runtime.NumGoroutine") = false) {g : List V → M}
    (hg : ∀ args, g args = no ∨ g args = evF E fn args) : SP P i g := by
  refine ⟨fun args s K h => ?_, fun args => ?_⟩
  · rcases hg args with e | e
    · rw [e] at h; exact h.elim
    · rw [e] at h; exact evF_ok hE hf hn args s K h
  · rcases hg args with e | e
    · rw [e]; exact prd_no
    · rw [e]; exact prd_evF hE.prd fn args

section
variable {P : Program} {E : Env} {i : Nat} {fn : Func}
theorem mk0 (hE : EnvOk P E) (hf : P.funcs[i]? = some fn) (hn : (fn.name == "runtime.NumGoroutine") = false) {f : M} (e : f = evF E fn []) : SP P i (F0 f) :=
  mkS hE hf hn fun args => match args with | [] => .inr e | _ :: _ => .inl rfl
theorem mk1 (hE : EnvOk P E) (hf : P.funcs[i]? = some fn) (hn : (fn.name == "runtime.NumGoroutine") = false) {f : V → M} (e : ∀ a, f a = evF E fn [a]) : SP P i (F1 f) :=
  mkS hE hf hn fun args => match args with | [] | _ :: _ :: _ => .inl rfl | [a] => .inr (e a)
theorem mk2 (hE : EnvOk P E) (hf : P.funcs[i]? = some fn) (hn : (fn.name == "runtime.NumGoroutine") = false) {f : V → V → M} (e : ∀ a b, f a b = evF E fn [a, b]) : SP P i (F2 f) :=
  mkS hE hf hn fun args => match args with | [] | [_] | _ :: _ :: _ :: _ => .inl rfl | [a, b] => .inr (e a b)
theorem mk3 (hE : EnvOk P E) (hf : P.funcs[i]? = some fn) (hn : (fn.name == "runtime.NumGoroutine") = false) {f : V → V → V → M} (e : ∀ a b c, f a b c = evF E fn [a, b, c]) : SP P i (F3 f) :=
  mkS hE hf hn fun args => match args with | [] | [_] | [_, _] | _ :: _ :: _ :: _ :: _ => .inl rfl | [a, b, c] => .inr (e a b c)
theorem mk4 (hE : EnvOk P E) (hf : P.funcs[i]? = some fn) (hn : (fn.name == "runtime.NumGoroutine") = false) {f : V → V → V → V → M} (e : ∀ a b c d, f a b c d = evF E fn [a, b, c, d]) : SP P i (F4 f) :=
  mkS hE hf hn fun args => match args with | [] | [_] | [_, _] | [_, _, _] | _ :: _ :: _ :: _ :: _ :: _ => .inl rfl | [a, b, c, d] => .inr (e a b c d)
theorem mk5 (hE : EnvOk P E) (hf : P.funcs[i]? = some fn) (hn : (fn.name == "runtime.NumGoroutine") = false) {f : V → V → V → V → V → M} (e : ∀ a b c d g, f a b c d g = evF E fn [a, b, c, d, g]) : SP P i (F5 f) :=
  mkS hE hf hn fun args => match args with | [] | [_] | [_, _] | [_, _, _] | [_, _, _, _] | _ :: _ :: _ :: _ :: _ :: _ :: _ => .inl rfl | [a, b, c, d, g] => .inr (e a b c d g)
end
end Go.Rx
end
section
/- Tables of types and methods. -/
namespace Go.Rx
open Go
def AllT (P : Program) : Nat → List (Option TI) → Prop
  | _, [] => True
  | i, none :: r => True ∧ AllT P (i + 1) r
  | i, some ti :: r => tiOf P i = some ti ∧ AllT P (i + 1) r
def AllM (P : Program) : List (Nat × String × Nat) → Prop
  | [] => True
  | p :: r => methOf P p.1 p.2.1 = some p.2.2 ∧ AllM P r

theorem allT_get {P : Program} : ∀ (l : List (Option TI)) (i t : Nat) (ti : TI), AllT P i l → l[t]? = some (some ti) → tiOf P (i + t) = some ti
  | [], _, _, _, _, h => by simp at h
  | o :: r, i, 0, ti, ha, h => by
    simp at h; subst h
    exact ha.1
  | o :: r, i, t + 1, ti, ha, h => by
    have hr : AllT P (i + 1) r := by cases o <;> exact ha.2
    have := allT_get r (i + 1) t ti hr (by simpa using h)
    rwa [show i + (t + 1) = i + 1 + t by omega]

theorem allM_get {P : Program} {l : List (Nat × String × Nat)} (h : AllM P l) {t : Nat} {n : String} {g : Nat} (hg : tabM l t n = some g) : methOf P t n = some g := by
  induction l with
  | nil => cases hg
  | cons p r ih =>
    unfold tabM at hg
    cases hb : (Nat.beq p.1 t && (p.2.1 == n)) with
    | true =>
      rw [hb] at hg
      rw [Bool.and_eq_true] at hb
      have h1 := Nat.eq_of_beq_eq_true hb.1
      have h2 : p.2.1 = n := by simpa using hb.2
      cases hg
      rw [← h1, ← h2]
      exact h.1
    | false =>
      rw [hb] at hg
      exact ih h.2 hg

theorem mkTab {P : Program} {l : List (Option TI)} {m : List (Nat × String × Nat)} (hl : AllT P 0 l) (hm : AllM P m) : TabOk P (tabT l) (tabM m) := by
  refine ⟨fun t ti h => ?_, fun t n g h => allM_get hm h⟩
  unfold tabT at h
  split at h
  · rename_i o ho
    subst h
    have := allT_get l 0 t ti hl ho
    rwa [Nat.zero_add] at this
  · cases h
end Go.Rx
end
section
/- How one reasons with the shallow side. -/
namespace Go.Rx
open Go

/-- From this memory on it comes to this value and that memory, whatever follows. -/
def Runs (m : M) (s : AS) (v : V) (s' : AS) : Prop := ∀ K : K0, K v s' → m s K

/-- From this memory on it comes to a value and a memory of which this holds. -/
def Ens (m : M) (s : AS) (Q : V → AS → Prop) : Prop := ∀ K : K0, (∀ v s', Q v s' → K v s') → m s K
theorem Runs.ens {m : M} {s s' : AS} {v : V} {Q : V → AS → Prop} (h : Runs m s v s') (q : Q v s') : Ens m s Q := fun K hk => h K (hk _ _ q)
theorem Ens.mono {m : M} {s : AS} {Q Q' : V → AS → Prop} (h : Ens m s Q) (hq : ∀ v s', Q v s' → Q' v s') : Ens m s Q' := fun K hk => h K fun v s' q => hk v s' (hq v s' q)

@[simp] theorem optK_some (v : V) (s : AS) (K : K0) : optK (some v) s K = K v s := rfl
@[simp] theorem condV_true (X Y : Prop) : condV (.bool true) X Y = X := rfl
@[simp] theorem condV_false (X Y : Prop) : condV (.bool false) X Y = Y := rfl
@[simp] theorem grd_true (A B Z : Prop) : grd (.bool true) A B Z = A := rfl
@[simp] theorem grd_false (A B Z : Prop) : grd (.bool false) A B Z = B := rfl
@[simp] theorem nilV_ptr (a : Ad) : nilV (.ptr (some a)) = some (.ptr (some a)) := rfl
@[simp] theorem nilV_slice (a n c e) : nilV (.slice a n c e) = some (.slice a n c e) := rfl
@[simp] theorem fp_ptr (o : Nat) (b : Blk) (n : Nat) : fp o (.ptr (some ⟨b, n⟩)) = some (.ptr (some ⟨b, n + o⟩)) := rfl
@[simp] theorem pickV_true (a b : V) : pickV (.bool true) a b = some a := rfl
@[simp] theorem pickV_false (a b : V) : pickV (.bool false) a b = some b := rfl
@[simp] theorem ext0 (vs : List V) (i : Nat) : extractV (.tuple vs) i = vs[i]? := rfl
@[simp] theorem lenV_slice (e : TypeId) (a n c x) : lenV (some (.slice e)) (.slice a n c x) = some (.int .i64 n) := rfl
@[simp] theorem chkB_true (X : Prop) : chkB true X = X := rfl

@[simp] theorem bin_add (k c q a b) : binV .add k c (.int q a) (.int q b) = some (.int q (q.wrap (a + b))) := by simp [binV, intV]
@[simp] theorem bin_sub (k c q a b) : binV .sub k c (.int q a) (.int q b) = some (.int q (q.wrap (a - b))) := by simp [binV, intV]
@[simp] theorem bin_mul (k c q a b) : binV .mul k c (.int q a) (.int q b) = some (.int q (q.wrap (a * b))) := by simp [binV, intV]
@[simp] theorem bin_rem (k c q a b) : binV .rem k c (.int q a) (.int q b) = if b = 0 then none else some (.int q (a.tmod b)) := by simp [binV, intV]
@[simp] theorem bin_quo (k c q a b) : binV .quo k c (.int q a) (.int q b) = if b = 0 then none else some (.int q (q.wrap (a.tdiv b))) := by simp [binV, intV]
@[simp] theorem bin_eql (k c q a b) : binV .eql k c (.int q a) (.int q b) = some (.bool (a == b)) := by simp [binV, intV]
@[simp] theorem bin_neq (k c q a b) : binV .neq k c (.int q a) (.int q b) = some (.bool (a != b)) := by simp [binV, intV]
@[simp] theorem bin_lss (k c q a b) : binV .lss k c (.int q a) (.int q b) = some (.bool (decide (a < b))) := by simp [binV, intV]
@[simp] theorem bin_leq (k c q a b) : binV .leq k c (.int q a) (.int q b) = some (.bool (decide (a ≤ b))) := by simp [binV, intV]
@[simp] theorem bin_gtr (k c q a b) : binV .gtr k c (.int q a) (.int q b) = some (.bool (decide (a > b))) := by simp [binV, intV]
@[simp] theorem bin_geq (k c q a b) : binV .geq k c (.int q a) (.int q b) = some (.bool (decide (a ≥ b))) := by simp [binV, intV]
@[simp] theorem bin_ptr_nil (e c) (a : Option Ad) : binV .eql (some (.ptr e)) c (.ptr a) (.ptr none) = some (.bool a.isNone) := by cases a <;> simp [binV, eqV, bothNil]
@[simp] theorem bin_ptr_nnil (e c) (a : Option Ad) : binV .neq (some (.ptr e)) c (.ptr a) (.ptr none) = some (.bool a.isSome) := by cases a <;> simp [binV, eqV, bothNil]
@[simp] theorem bin_func_nil (c f x y) : binV .eql (some .func) c (.func f x y) .nilFunc = some (.bool false) := by simp [binV, eqV, bothNil]
@[simp] theorem bin_nilfunc_nil (c) : binV .eql (some .func) c .nilFunc .nilFunc = some (.bool true) := by simp [binV, eqV, bothNil]
@[simp] theorem un_not (b) : unV .not (.bool b) = some (.bool (!b)) := rfl

theorem wrap64 {z : Int} (h1 : -9223372036854775808 ≤ z) (h2 : z ≤ 9223372036854775807) : IntKind.i64.wrap z = z := by
  have e : IntKind.i64.wrap z = (if z % 18446744073709551616 ≥ 9223372036854775808 then z % 18446744073709551616 - 18446744073709551616 else z % 18446744073709551616) := by
    simp [IntKind.wrap, IntKind.signed, IntKind.bits]
  rw [e]
  split <;> omega
theorem wrapu32 {z : Int} (h1 : 0 ≤ z) (h2 : z < 4294967296) : IntKind.u32.wrap z = z := by
  have e : IntKind.u32.wrap z = z % 4294967296 := by simp [IntKind.wrap, IntKind.signed, IntKind.bits]
  rw [e]; omega
theorem wrapu64 {z : Int} (h1 : 0 ≤ z) (h2 : z < 18446744073709551616) : IntKind.u64.wrap z = z := by
  have e : IntKind.u64.wrap z = z % 18446744073709551616 := by simp [IntKind.wrap, IntKind.signed, IntKind.bits]
  rw [e]; omega

theorem ld1_new {s : AS} {k o : Nat} {cs : List V} {u : Nat} (h : s.get k = some (.cells cs u)) (K : K0) : ld1 (.ptr (some ⟨.new k, o⟩)) s K = optK cs[o]? s K := by
  simp [ld1, ldC, cellsAt, h]
theorem ldA_new {s : AS} {k o n : Nat} {cs : List V} {u : Nat} (h : s.get k = some (.cells cs u)) (hn : o + n ≤ cs.length) (K : K0) : ldA n (.ptr (some ⟨.new k, o⟩)) s K = K (.agg ((cs.drop o).take n)) s := by
  simp [ldA, ldN, cellsAt, h, hn]
theorem st1_new {s : AS} {k o : Nat} {cs : List V} {u : Nat} (h : s.get k = some (.cells cs u)) (ho : o < cs.length) {v : V} (hv : flatV v = true) (K : K0) :
    st 1 (.ptr (some ⟨.new k, o⟩)) v s K = K undefV (s.put k (some (.cells (cs.set o v) u))) := by
  have hc : cellsV v = [v] := by cases v <;> simp_all [cellsV, flatV]
  have hs : spl cs o [v] = cs.set o v := by
    unfold spl
    rw [List.set_eq_take_append_cons_drop]
    simp [ho]
  have e : st 1 (.ptr (some ⟨.new k, o⟩)) v s K = (match setN s ⟨.new k, o⟩ [v] with | some s' => K undefV s' | none => False) := by
    cases v <;> first | rfl | (simp [flatV] at hv)
  have hle : o + 1 ≤ cs.length := ho
  rw [e]
  simp [setN, h, hle, hv, hs]

/-- What a round is given to go on with. -/
def nx (Kn : Tm → AS → Prop) (K : KX) : KX := fun e tm s => match e with | .nrm => Kn tm s | e => K e tm s
@[simp] theorem nx_nrm (Kn : Tm → AS → Prop) (K : KX) (tm : Tm) (s : AS) : nx Kn K .nrm tm s = Kn tm s := rfl
@[simp] theorem nx_exit (Kn : Tm → AS → Prop) (K : KX) (j : Nat) (tm : Tm) (s : AS) : nx Kn K (.exit j) tm s = K (.exit j) tm s := rfl
@[simp] theorem nx_ret (Kn : Tm → AS → Prop) (K : KX) (tm : Tm) (s : AS) : nx Kn K .ret tm s = K .ret tm s := rfl
@[simp] theorem exX_exit (j : Nat) (X : Nat → Prop) (R : Prop) : exX (.exit j) X R = X j := rfl
@[simp] theorem exX_ret (X : Nat → Prop) (R : Prop) : exX .ret X R = R := rfl
@[simp] theorem exB_true (X Y : Prop) : exB true X Y = X := rfl
@[simp] theorem exB_false (X Y : Prop) : exB false X Y = Y := rfl

/-- A loop, by what holds at its head, with a measure that falls. -/
theorem loop_rule {B : Tm → AS → KX → Prop} {K : KX} (I : Nat → Tm → AS → Prop)
    (h : ∀ (m : Nat) (tm : Tm) (s : AS) (Kn : Tm → AS → Prop), I m tm s → (∀ m' tm' s', m' < m → I m' tm' s' → Kn tm' s') → B tm s (nx Kn K))
    {m : Nat} {tm : Tm} {s : AS} (hm : m < 1099511627776) (hi : I m tm s) : loopN LOOPS B tm s K := by
  have key : ∀ (N m : Nat) (tm : Tm) (s : AS), m < N → I m tm s → loopN N B tm s K := by
    intro N
    induction N with
    | zero => intro m tm s h; omega
    | succ N ih =>
      intro m tm s hlt hi
      exact h m tm s (fun tm' s' => loopN N B tm' s' K) hi (fun m' tm' s' hl hi' => ih m' tm' s' (by omega) hi')
  rw [LOOPS_eq]
  exact key _ _ _ _ hm hi
end Go.Rx
end
