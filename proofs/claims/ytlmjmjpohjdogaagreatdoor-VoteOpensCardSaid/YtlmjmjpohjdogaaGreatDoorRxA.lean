/- A part of the proofs of the Vote laws: abstract values, abstract memory and pure operations of the evaluator over the model. -/
import Derived.Calls
import Derived.Orders
import Derived.Laws.Append
import Derived.Laws.World
import Derived.Laws.Sem
import Derived.Laws.Entries
import Derived.Laws.Strings
import Derived.Laws.Slices
set_option linter.unusedVariables false
set_option linter.unusedSimpArgs false
section
/- The abstract side: values, memory, and how they stand to the model's world. -/
namespace Go.Rx

inductive Blk where
  | old (b : Nat)
  | new (k : Nat)
  deriving DecidableEq

structure Ad where
  blk : Blk
  off : Nat
  deriving DecidableEq

inductive V where
  | junk
  | bool (b : Bool)
  | int (k : IntKind) (n : Int)
  | str (s : List UInt8)
  | ptr (a : Option Ad)
  | slice (a : Option Ad) (len cap : Nat) (ex : Bool)
  | map (r : Option Nat)
  | chan (r : Option Nat)
  | func (fn : Fn) (first captured : List V)
  | nilFunc
  | iface (t : TypeId) (v : V)
  | nilIface
  | agg (cells : List V)
  | tuple (vs : List V)
  | opq

/-- 'unit': of an array that may have more room than we know of, how many cells an element has; 0: it has none. -/
inductive AObj where
  | cells (c : List V) (unit : Nat)
  | map (es : List (V × V × Nat)) (clock : Nat)
  | miter (m : Option Nat) (since : Nat) (seen : List Nat) (stepped : Nat)
  | siter (s : List UInt8) (pos : Nat)

/-! ### the heap: a trie over numbers -/
inductive T where
  | nil
  | node (l : T) (v : Option AObj) (r : T)

def T.get : T → Nat → Option AObj
  | .nil, _ => none
  | .node l v r, n => if n = 0 then v else if n % 2 = 1 then l.get ((n - 1) / 2) else r.get ((n - 1) / 2)

def T.put : Nat → T → Nat → Option AObj → T
  | 0, t, _, _ => t
  | f + 1, t, n, o =>
    let (l, v, r) := match t with | .nil => (T.nil, none, T.nil) | .node l v r => (l, v, r)
    if n = 0 then .node l o r
    else if n % 2 = 1 then .node (T.put f l ((n - 1) / 2) o) v r
    else .node l v (T.put f r ((n - 1) / 2) o)

theorem T.get_put (o : Option AObj) : ∀ (f : Nat) (t : T) (n m : Nat), n < f → (T.put f t n o).get m = if m = n then o else t.get m := by
  intro f
  induction f with
  | zero => intro t n m h; omega
  | succ f ih =>
    intro t n m h
    simp only [T.put]
    generalize hl : (match t with | .nil => (T.nil, none, T.nil) | .node l v r => (l, v, r) : T × Option AObj × T) = x
    obtain ⟨l, v, r⟩ := x
    have hg : t.get m = if m = 0 then v else if m % 2 = 1 then l.get ((m - 1) / 2) else r.get ((m - 1) / 2) := by
      cases t with
      | nil => simp at hl; obtain ⟨rfl, rfl, rfl⟩ := hl; simp [T.get]
      | node a b c => simp at hl; obtain ⟨rfl, rfl, rfl⟩ := hl; rfl
    simp only []
    by_cases hn : n = 0
    · subst hn
      rw [if_pos rfl, T.get, hg]
      by_cases hm : m = 0 <;> simp [hm]
    · rw [if_neg hn]
      by_cases hp : n % 2 = 1
      · rw [if_pos hp, T.get, hg]
        by_cases hm : m = 0
        · rw [if_pos hm, if_pos hm, if_neg (by omega)]
        · rw [if_neg hm, if_neg hm]
          by_cases hq : m % 2 = 1
          · rw [if_pos hq, if_pos hq, ih _ _ _ (by omega)]
            by_cases he : m = n
            · rw [if_pos he, if_pos (by omega)]
            · rw [if_neg he, if_neg (by omega)]
          · rw [if_neg hq, if_neg hq, if_neg (by intro e; subst e; omega)]
      · rw [if_neg hp, T.get, hg]
        by_cases hm : m = 0
        · rw [if_pos hm, if_pos hm, if_neg (by omega)]
        · rw [if_neg hm, if_neg hm]
          by_cases hq : m % 2 = 1
          · rw [if_pos hq, if_pos hq, if_neg (by intro e; subst e; omega)]
          · rw [if_neg hq, if_neg hq, ih _ _ _ (by omega)]
            by_cases he : m = n
            · rw [if_pos he, if_pos (by omega)]
            · rw [if_neg he, if_neg (by omega)]

/-- The abstract state: new objects by number; how many numbers are taken; what old blocks hold. -/
structure AS where
  heap : T
  next : Nat
  old : Nat → Option (List V)

def AS.get (s : AS) (k : Nat) : Option AObj := s.heap.get k
def AS.put (s : AS) (k : Nat) (o : Option AObj) : AS := { s with heap := T.put (k + 1) s.heap k o }
def AS.alloc (s : AS) (o : AObj) : AS := { heap := T.put (s.next + 1) s.heap s.next (some o), next := s.next + 1, old := s.old }

theorem AS.get_put (s : AS) (k m : Nat) (o : Option AObj) : (s.put k o).get m = if m = k then o else s.get m := T.get_put o _ _ _ _ (by omega)
theorem AS.get_alloc (s : AS) (m : Nat) (o : AObj) : (s.alloc o).get m = if m = s.next then some o else s.get m := T.get_put _ _ _ _ _ (by omega)
@[simp] theorem AS.get_put_same (s : AS) (k : Nat) (o : Option AObj) : (s.put k o).get k = o := by rw [AS.get_put, if_pos rfl]
theorem AS.get_put_ne (s : AS) {k m : Nat} (o : Option AObj) (h : m ≠ k) : (s.put k o).get m = s.get m := by rw [AS.get_put, if_neg h]
@[simp] theorem AS.get_alloc_same (s : AS) (o : AObj) : (s.alloc o).get s.next = some o := by rw [AS.get_alloc, if_pos rfl]
theorem AS.get_alloc_ne (s : AS) {m : Nat} (o : AObj) (h : m ≠ s.next) : (s.alloc o).get m = s.get m := by rw [AS.get_alloc, if_neg h]
@[simp] theorem AS.next_put (s : AS) (k : Nat) (o : Option AObj) : (s.put k o).next = s.next := rfl
@[simp] theorem AS.old_put (s : AS) (k : Nat) (o : Option AObj) : (s.put k o).old = s.old := rfl
@[simp] theorem AS.next_alloc (s : AS) (o : AObj) : (s.alloc o).next = s.next + 1 := rfl
@[simp] theorem AS.old_alloc (s : AS) (o : AObj) : (s.alloc o).old = s.old := rfl

theorem AS.get_moved (s : AS) (k m : Nat) (o : AObj) : ((s.put k none).alloc o).get m = if m = s.next then some o else if m = k then none else s.get m := by
  by_cases h : m = s.next
  · rw [if_pos h, AS.get_alloc, AS.next_put, if_pos h]
  · rw [if_neg h, AS.get_alloc, AS.next_put, if_neg h, AS.get_put]

abbrev K0 := V → AS → Prop
abbrev M := AS → K0 → Prop

/-! ### how values stand to the model's -/
/-- A new object's block, and how many elements it really has room for. -/
abbrev Ren := Nat → Option (Nat × Nat)

def BR (ρ : Ren) : Blk → Nat → Prop
  | .old b, b' => b' = b
  | .new k, b' => ∃ κ, ρ k = some (b', κ)

mutual
inductive VR (ρ : Ren) : V → Value → Prop
  | junk (v : Value) : VR ρ .junk v
  | bool (b : Bool) : VR ρ (.bool b) (.bool b)
  | int (k : IntKind) (n : Int) : VR ρ (.int k n) (.int k n)
  | str (s : List UInt8) : VR ρ (.str s) (.string ⟨s.toArray⟩)
  | nilptr : VR ρ (.ptr none) (.pointer none)
  | ptr {b : Blk} {b' o : Nat} (h : BR ρ b b') : VR ρ (.ptr (some ⟨b, o⟩)) (.pointer (some ⟨b', o, none⟩))
  | nilslice (ex : Bool) : VR ρ (.slice none 0 0 ex) (.slice none 0 0)
  | hollow (a : Addr) : VR ρ (.slice none 0 1 true) (.slice (some a) 0 0)
  | slice {b : Blk} {b' o o' n c c' : Nat} {ex : Bool} (h : BR ρ b b') (he : ex = true → o' = o ∧ c' = c)
      (hi : ex = false → c ≤ c' ∧ (c ≠ 0 → o' = o) ∧ ∃ k κ, b = .new k ∧ ρ k = some (b', κ) ∧ (o = 0 → c ≠ 0 → c' = κ)) :
      VR ρ (.slice (some ⟨b, o⟩) n c ex) (.slice (some ⟨b', o', none⟩) n c')
  | nilmap : VR ρ (.map none) (.map none)
  | map {k b' κ : Nat} (h : ρ k = some (b', κ)) : VR ρ (.map (some k)) (.map (some b'))
  | nilchan : VR ρ (.chan none) (.chan none)
  | chan {k b' κ : Nat} (h : ρ k = some (b', κ)) : VR ρ (.chan (some k)) (.chan (some b'))
  | func (fn : Fn) {f c : List V} {f' c' : Array Value} (hf : VRs ρ f f'.toList) (hc : VRs ρ c c'.toList) : VR ρ (.func fn f c) (.func fn f' c')
  | nilFunc : VR ρ .nilFunc .nilFunc
  | iface (t : TypeId) {v : V} {v' : Value} (h : VR ρ v v') : VR ρ (.iface t v) (.iface t v')
  | nilIface : VR ρ .nilIface .nilIface
  | agg {c : List V} {c' : Array Value} (h : VRs ρ c c'.toList) : VR ρ (.agg c) (.agg c')
  | tuple {c : List V} {c' : Array Value} (h : VRs ρ c c'.toList) : VR ρ (.tuple c) (.tuple c')
  | opq {v : Value} (h : v.oneCell' = true) : VR ρ .opq v
inductive VRs (ρ : Ren) : List V → List Value → Prop
  | nil : VRs ρ [] []
  | cons {v : V} {v' : Value} {l : List V} {l' : List Value} (h : VR ρ v v') (t : VRs ρ l l') : VRs ρ (v :: l) (v' :: l')
end

def Ext (ρ ρ' : Ren) : Prop := ∀ k b, ρ k = some b → ρ' k = some b
theorem Ext.refl (ρ : Ren) : Ext ρ ρ := fun _ _ h => h
theorem Ext.trans {a b c : Ren} (h : Ext a b) (g : Ext b c) : Ext a c := fun k x e => g k x (h k x e)

theorem BR.mono {ρ ρ' : Ren} (h : Ext ρ ρ') {b : Blk} {b' : Nat} (hb : BR ρ b b') : BR ρ' b b' := by
  cases b with
  | old b => exact hb
  | new k => obtain ⟨κ, hk⟩ := hb; exact ⟨κ, h k _ hk⟩

mutual
theorem VR.mono {ρ ρ' : Ren} (h : Ext ρ ρ') : ∀ {v : V} {v' : Value}, VR ρ v v' → VR ρ' v v'
  | _, _, .junk v => .junk v
  | _, _, .bool b => .bool b
  | _, _, .int k n => .int k n
  | _, _, .str s => .str s
  | _, _, .nilptr => .nilptr
  | _, _, .ptr hb => .ptr (hb.mono h)
  | _, _, .nilslice e => .nilslice e
  | _, _, .hollow a => .hollow a
  | _, _, .slice hb he hi => .slice (hb.mono h) he (fun e => let ⟨h1, h2, k, κ, h3, h4, h5⟩ := hi e; ⟨h1, h2, k, κ, h3, h _ _ h4, h5⟩)
  | _, _, .nilmap => .nilmap
  | _, _, .map hk => .map (h _ _ hk)
  | _, _, .nilchan => .nilchan
  | _, _, .chan hk => .chan (h _ _ hk)
  | _, _, .func fn hf hc => .func fn (VRs.mono h hf) (VRs.mono h hc)
  | _, _, .nilFunc => .nilFunc
  | _, _, .iface t hv => .iface t (VR.mono h hv)
  | _, _, .nilIface => .nilIface
  | _, _, .agg hc => .agg (VRs.mono h hc)
  | _, _, .tuple hc => .tuple (VRs.mono h hc)
  | _, _, .opq hc => .opq hc
theorem VRs.mono {ρ ρ' : Ren} (h : Ext ρ ρ') : ∀ {l : List V} {l' : List Value}, VRs ρ l l' → VRs ρ' l l'
  | _, _, .nil => .nil
  | _, _, .cons hv ht => .cons (VR.mono h hv) (VRs.mono h ht)
end

section lists
variable {ρ : Ren}
theorem VRs.length {l : List V} {l' : List Value} (h : VRs ρ l l') : l'.length = l.length := by
  induction l generalizing l' with
  | nil => cases h; rfl
  | cons v l ih => cases h with | cons hv ht => simp [ih ht]
theorem VRs.get {l : List V} {l' : List Value} (h : VRs ρ l l') {i : Nat} {v : V} (hi : l[i]? = some v) : ∃ v', l'[i]? = some v' ∧ VR ρ v v' := by
  induction l generalizing l' i with
  | nil => simp at hi
  | cons x l ih =>
    cases h with
    | cons hv ht =>
      cases i with
      | zero => simp at hi; subst hi; exact ⟨_, rfl, hv⟩
      | succ i => simpa using ih ht (by simpa using hi)
theorem VRs.of_get {l : List V} {l' : List Value} (hl : l'.length = l.length) (h : ∀ (i : Nat) (v : V), l[i]? = some v → ∃ v', l'[i]? = some v' ∧ VR ρ v v') : VRs ρ l l' := by
  induction l generalizing l' with
  | nil => cases l' with | nil => exact .nil | cons => simp at hl
  | cons x l ih =>
    cases l' with
    | nil => simp at hl
    | cons y l' =>
      obtain ⟨v', e, hv⟩ := h 0 x rfl
      simp at e; subst e
      exact .cons hv (ih (by simpa using hl) fun i v hi => by simpa using h (i + 1) v (by simpa using hi))
theorem VRs.append {a b : List V} {a' b' : List Value} (h : VRs ρ a a') (g : VRs ρ b b') : VRs ρ (a ++ b) (a' ++ b') := by
  induction a generalizing a' with
  | nil => cases h; exact g
  | cons x l ih => cases h with | cons hv ht => exact .cons hv (ih ht)
theorem VRs.take {l : List V} {l' : List Value} (h : VRs ρ l l') (n : Nat) : VRs ρ (l.take n) (l'.take n) := by
  induction l generalizing l' n with
  | nil => cases h; simp; exact .nil
  | cons x l ih => cases h with | cons hv ht => cases n with | zero => exact .nil | succ n => exact .cons hv (ih ht n)
theorem VRs.drop {l : List V} {l' : List Value} (h : VRs ρ l l') (n : Nat) : VRs ρ (l.drop n) (l'.drop n) := by
  induction l generalizing l' n with
  | nil => cases h; simp; exact .nil
  | cons x l ih => cases h with | cons hv ht => cases n with | zero => exact .cons hv ht | succ n => exact ih ht n
theorem VRs.set {l : List V} {l' : List Value} (h : VRs ρ l l') {v : V} {v' : Value} (hv : VR ρ v v') (i : Nat) : VRs ρ (l.set i v) (l'.set i v') := by
  induction l generalizing l' i with
  | nil => cases h; exact .nil
  | cons x l ih => cases h with | cons hx ht => cases i with | zero => exact .cons hv ht | succ i => exact .cons hx (ih ht i)
theorem VRs.replicate {v : V} {v' : Value} (hv : VR ρ v v') (n : Nat) : VRs ρ (List.replicate n v) (List.replicate n v') := by
  induction n with
  | zero => exact .nil
  | succ n ih => exact .cons hv ih
end lists

/-! ### how memory stands to the model's -/
def entR (ρ : Ren) (e : V × V × Nat) (e' : MapEntry) : Prop := VR ρ e.1 e'.key ∧ VR ρ e.2.1 e'.val ∧ e'.born = e.2.2

inductive EntsR (ρ : Ren) : List (V × V × Nat) → List MapEntry → Prop
  | nil : EntsR ρ [] []
  | cons {e : V × V × Nat} {e' : MapEntry} {l : List (V × V × Nat)} {l' : List MapEntry} (h : entR ρ e e') (t : EntsR ρ l l') : EntsR ρ (e :: l) (e' :: l')

inductive ORel (ρ : Ren) (κ : Nat) : AObj → Obj → Prop
  | cells {c : List V} {u : Nat} {c' : Array Value} {e : TypeId} {fr : Nat × Nat} (hl : c.length ≤ c'.size) (hu : u ≠ 0 → c'.size = κ * u) (hf : ∀ i, i < c'.size → ¬ (fr.1 ≤ i ∧ i < fr.2)) (h : VRs ρ c (c'.toList.take c.length)) :
      ORel ρ κ (.cells c u) (.cells c' e fr)
  | map {es : List (V × V × Nat)} {es' : Array MapEntry} {clock : Nat} (h : EntsR ρ es es'.toList) : ORel ρ κ (.map es clock) (.map es' clock)
  | miter0 {since : Nat} {seen : List Nat} {st : Nat} : ORel ρ κ (.miter none since seen st) (.mapIter none since seen.toArray st)
  | miter {k b κ' since : Nat} {seen : List Nat} {st : Nat} (h : ρ k = some (b, κ')) : ORel ρ κ (.miter (some k) since seen st) (.mapIter (some b) since seen.toArray st)
  | siter {s : List UInt8} {pos : Nat} : ORel ρ κ (.siter s pos) (.stringIter ⟨s.toArray⟩ pos)

theorem entR.mono {ρ ρ' : Ren} (h : Ext ρ ρ') {e : V × V × Nat} {e' : MapEntry} (he : entR ρ e e') : entR ρ' e e' := ⟨he.1.mono h, he.2.1.mono h, he.2.2⟩

theorem EntsR.mono {ρ ρ' : Ren} (h : Ext ρ ρ') {l : List (V × V × Nat)} {l' : List MapEntry} (he : EntsR ρ l l') : EntsR ρ' l l' := by
  induction he with
  | nil => exact .nil
  | cons he _ ih => exact .cons (he.mono h) ih

theorem ORel.mono {ρ ρ' : Ren} (h : Ext ρ ρ') {κ : Nat} {o : AObj} {o' : Obj} (ho : ORel ρ κ o o') : ORel ρ' κ o o' := by
  cases ho with
  | cells hl hu hf hc => exact .cells hl hu hf (hc.mono h)
  | map he => exact .map (he.mono h)
  | miter0 => exact .miter0
  | miter hk => exact .miter (h _ _ hk)
  | siter => exact .siter

structure Rel (w0 : World) (ρ : Ren) (s : AS) (w : World) : Prop where
  os : w.os = w0.os
  tape : w.tape = w0.tape
  output : w.output = w0.output
  size : w0.heap.size ≤ w.heap.size
  frame : ∀ b, b < w0.heap.size → w.heap[b]? = w0.heap[b]?
  old : ∀ b cs, s.old b = some cs → ∃ cs' e fr, w0.heap[b]? = some (.cells cs' e fr) ∧ VRs (fun _ => none) cs cs'.toList
  dom : ∀ k, k < s.next ↔ (ρ k).isSome
  rng : ∀ k b κ, ρ k = some (b, κ) → w0.heap.size ≤ b ∧ b < w.heap.size
  inj : ∀ k m b κ κ', ρ k = some (b, κ) → ρ m = some (b, κ') → (s.get k).isSome → (s.get m).isSome → k = m
  live : ∀ k o, s.get k = some o → ∃ b κ o', ρ k = some (b, κ) ∧ w.heap[b]? = some o' ∧ ORel ρ κ o o'

/-! ### the steps of memory -/
section steps
variable {w0 : World} {ρ : Ren} {s : AS} {w : World}

theorem Rel.drew (h : Rel w0 ρ s w) : Rel w0 ρ s w.drew := ⟨h.os, h.tape, h.output, h.size, h.frame, h.old, h.dom, h.rng, h.inj, h.live⟩

def ext1 (ρ : Ren) (k b κ : Nat) : Ren := fun m => if m = k then some (b, κ) else ρ m

theorem Rel.ext1_ext (h : Rel w0 ρ s w) (b κ : Nat) : Ext ρ (ext1 ρ s.next b κ) := by
  intro k c hk
  have : k < s.next := (h.dom k).2 (by simp [hk])
  simp only [ext1]; rw [if_neg (by omega)]; exact hk

theorem Rel.lt_of_get (h : Rel w0 ρ s w) {k : Nat} {o : AObj} (hk : s.get k = some o) : k < s.next := by
  obtain ⟨b, κ, o', hb, _⟩ := h.live k o hk
  exact (h.dom k).2 (by simp [hb])

theorem heap_push_lt (w : World) (o : Obj) {b : Nat} (h : b < w.heap.size) : (w.alloc o).heap[b]? = w.heap[b]? := by
  simp only [World.alloc, Array.getElem?_push]; rw [if_neg (by omega)]
theorem heap_push_eq (w : World) (o : Obj) : (w.alloc o).heap[w.heap.size]? = some o := by
  simp only [World.alloc, Array.getElem?_push, if_true]

/-- A new object. -/
theorem Rel.alloc (h : Rel w0 ρ s w) (κ : Nat) {o : AObj} {o' : Obj} (ho : ORel ρ κ o o') :
    Ext ρ (ext1 ρ s.next w.heap.size κ) ∧ Rel w0 (ext1 ρ s.next w.heap.size κ) (s.alloc o) (w.alloc o') := by
  have hx := h.ext1_ext w.heap.size κ
  refine ⟨hx, ?_⟩
  refine ⟨h.os, h.tape, h.output, by simp; have := h.size; omega, ?_, h.old, ?_, ?_, ?_, ?_⟩
  · intro b hb
    rw [heap_push_lt _ _ (by have := h.size; omega)]; exact h.frame b hb
  · intro k
    simp only [AS.next_alloc, ext1]
    by_cases hk : k = s.next
    · simp [hk]
    · rw [if_neg hk, ← h.dom k]; omega
  · intro k b c hk
    simp only [ext1] at hk
    by_cases hs : k = s.next
    · rw [if_pos hs] at hk; cases hk; simp; exact h.size
    · rw [if_neg hs] at hk; have := h.rng k b c hk; simp; omega
  · intro k m b c c' hk hm gk gm
    simp only [ext1] at hk hm
    rw [AS.get_alloc] at gk gm
    by_cases ek : k = s.next <;> by_cases em : m = s.next
    · omega
    · rw [if_pos ek] at hk; rw [if_neg em] at hm; cases hk
      have := h.rng m _ _ hm; omega
    · rw [if_neg ek] at hk; rw [if_pos em] at hm; cases hm
      have := h.rng k _ _ hk; omega
    · rw [if_neg ek] at hk gk; rw [if_neg em] at hm gm
      exact h.inj k m b c c' hk hm gk gm
  · intro k x hk
    rw [AS.get_alloc] at hk
    by_cases ek : k = s.next
    · rw [if_pos ek] at hk; cases hk
      exact ⟨w.heap.size, κ, o', by simp [ext1, ek], heap_push_eq w o', ho.mono hx⟩
    · rw [if_neg ek] at hk
      obtain ⟨b, c, x', hb, hw, hr⟩ := h.live k x hk
      exact ⟨b, c, x', hx k _ hb, by rw [heap_push_lt _ _ (h.rng k b c hb).2]; exact hw, hr.mono hx⟩

/-- An object is changed. -/
theorem Rel.upd (h : Rel w0 ρ s w) {k b κ : Nat} {x o : AObj} {o' : Obj} (hk : s.get k = some x) (hb : ρ k = some (b, κ)) {w' : World}
    (hw : w'.heap.size = w.heap.size) (hos : w'.os = w.os) (htape : w'.tape = w.tape) (hout : w'.output = w.output)
    (hother : ∀ c, c ≠ b → w'.heap[c]? = w.heap[c]?) (hsame : w'.heap[b]? = some o') (ho : ORel ρ κ o o') : Rel w0 ρ (s.put k (some o)) w' := by
  refine ⟨hos.trans h.os, htape.trans h.tape, hout.trans h.output, by rw [hw]; exact h.size, ?_, h.old, h.dom, fun k b c hk => by rw [hw]; exact h.rng k b c hk, ?_, ?_⟩
  · intro c hc
    rw [hother c (by have := (h.rng k b κ hb).1; omega)]; exact h.frame c hc
  · intro p q c d d' hp hq gp gq
    rw [AS.get_put] at gp gq
    refine h.inj p q c d d' hp hq ?_ ?_
    · by_cases e : p = k
      · rw [e, hk]; rfl
      · rwa [if_neg e] at gp
    · by_cases e : q = k
      · rw [e, hk]; rfl
      · rwa [if_neg e] at gq
  · intro p y hp
    rw [AS.get_put] at hp
    by_cases e : p = k
    · rw [if_pos e] at hp; cases hp
      exact ⟨b, κ, o', by rw [e]; exact hb, hsame, ho⟩
    · rw [if_neg e] at hp
      obtain ⟨c, d, y', hc, hw', hr⟩ := h.live p y hp
      refine ⟨c, d, y', hc, ?_, hr⟩
      rw [hother c ?_]; exact hw'
      intro ecb; subst ecb
      exact e (h.inj p k _ _ _ hc hb (by simp [hp]) (by simp [hk]))

/-- An object is forgotten. -/
theorem Rel.forget (h : Rel w0 ρ s w) (k : Nat) : Rel w0 ρ (s.put k none) w := by
  refine ⟨h.os, h.tape, h.output, h.size, h.frame, h.old, h.dom, h.rng, ?_, ?_⟩
  · intro p q c d d' hp hq gp gq
    rw [AS.get_put] at gp gq
    refine h.inj p q c d d' hp hq ?_ ?_
    · by_cases e : p = k
      · rw [if_pos e] at gp; simp at gp
      · rwa [if_neg e] at gp
    · by_cases e : q = k
      · rw [if_pos e] at gq; simp at gq
      · rwa [if_neg e] at gq
  · intro p y hp
    rw [AS.get_put] at hp
    by_cases e : p = k
    · rw [if_pos e] at hp; cases hp
    · rw [if_neg e] at hp; exact h.live p y hp

/-- A forgotten object's block goes on under a new number. -/
theorem Rel.rename (h : Rel w0 ρ s w) {k b κ : Nat} {x o : AObj} {o' : Obj} (hk : s.get k = some x) (hb : ρ k = some (b, κ)) {w' : World}
    (hw : w'.heap.size = w.heap.size) (hos : w'.os = w.os) (htape : w'.tape = w.tape) (hout : w'.output = w.output)
    (hother : ∀ c, c ≠ b → w'.heap[c]? = w.heap[c]?) (hsame : w'.heap[b]? = some o') (ho : ORel ρ κ o o') :
    Ext ρ (ext1 ρ s.next b κ) ∧ Rel w0 (ext1 ρ s.next b κ) ((s.put k none).alloc o) w' := by
  have hx := h.ext1_ext b κ
  have hkn := h.lt_of_get hk
  refine ⟨hx, ⟨hos.trans h.os, htape.trans h.tape, hout.trans h.output, by rw [hw]; exact h.size, ?_, h.old, ?_, ?_, ?_, ?_⟩⟩
  · intro c hc
    rw [hother c (by have := (h.rng k b κ hb).1; omega)]; exact h.frame c hc
  · intro m
    simp only [AS.next_alloc, AS.next_put, ext1]
    by_cases hm : m = s.next
    · simp [hm]
    · rw [if_neg hm, ← h.dom m]; omega
  · intro m c d hm
    rw [hw]
    simp only [ext1] at hm
    by_cases e : m = s.next
    · rw [if_pos e] at hm; cases hm; exact h.rng k b κ hb
    · rw [if_neg e] at hm; exact h.rng m c d hm
  · intro p q c d d' hp hq gp gq
    simp only [ext1] at hp hq
    rw [AS.get_moved] at gp gq
    have key : ∀ r x, r ≠ s.next → ρ r = some (b, x) → (if r = k then none else s.get r).isSome → False := by
      intro r x _ hr gr
      by_cases e : r = k
      · rw [if_pos e] at gr; simp at gr
      · rw [if_neg e] at gr
        exact e (h.inj r k b _ _ hr hb gr (by simp [hk]))
    by_cases ep : p = s.next <;> by_cases eq : q = s.next
    · omega
    · rw [if_pos ep] at hp; rw [if_neg eq] at hq gq; cases hp
      exact (key q _ eq hq gq).elim
    · rw [if_neg ep] at hp gp; rw [if_pos eq] at hq; cases hq
      exact (key p _ ep hp gp).elim
    · rw [if_neg ep] at hp gp; rw [if_neg eq] at hq gq
      refine h.inj p q c d d' hp hq ?_ ?_
      · by_cases e : p = k
        · rw [if_pos e] at gp; simp at gp
        · rwa [if_neg e] at gp
      · by_cases e : q = k
        · rw [if_pos e] at gq; simp at gq
        · rwa [if_neg e] at gq
  · intro p y hp
    rw [AS.get_moved] at hp
    by_cases ep : p = s.next
    · rw [if_pos ep] at hp; cases hp
      exact ⟨b, κ, o', by simp [ext1, ep], hsame, ho.mono hx⟩
    · rw [if_neg ep] at hp
      by_cases e : p = k
      · rw [if_pos e] at hp; cases hp
      · rw [if_neg e] at hp
        obtain ⟨c, d, y', hc, hw', hr⟩ := h.live p y hp
        refine ⟨c, d, y', hx p _ hc, ?_, hr.mono hx⟩
        rw [hother c ?_]; exact hw'
        intro ecb; subst ecb
        exact e (h.inj p k _ _ _ hc hb (by simp [hp]) (by simp [hk]))
end steps

end Go.Rx
end
section
/- The abstract side: what each operation does. -/
namespace Go.Rx

inductive Kd where
  | bool | int (k : IntKind) | str | ptr (e : TypeId) | slice (e : TypeId) | arr (n : Nat) (e : TypeId) | map (k e : TypeId) | chan (e : TypeId)
  | struct (fs : List (Nat × TypeId)) | func | iface (any : Bool) | other

structure TI where
  kind : Kd
  size : Nat
  bytes : Nat
  zero : V

def undefV : V := .tuple []

/-- A constant. -/
def ofV0 : Value → V
  | .bool b => .bool b
  | .int k n => .int k n
  | .string s => .str s.data.toList
  | .pointer none => .ptr none
  | .slice none 0 0 => .slice none 0 0 true
  | .map none => .map none
  | .chan none => .chan none
  | .nilFunc => .nilFunc
  | .nilIface => .nilIface
  | _ => .junk

def ofV : Value → V
  | .agg cs => .agg (cs.toList.map ofV0)
  | .tuple cs => .tuple (cs.toList.map ofV0)
  | .iface t v => .iface t (ofV0 v)
  | v => ofV0 v

def kdOf : TypeDesc → Kd
  | .bool => .bool
  | .int k => .int k
  | .string => .str
  | .pointer e => .ptr e
  | .slice e => .slice e
  | .array n e => .arr n e
  | .map k e => .map k e
  | .chan _ e => .chan e
  | .struct fs => .struct (fs.toList.map fun f => (f.offset, f.type))
  | .func _ _ _ => .func
  | .interface ms => .iface ms.isEmpty
  | _ => .other

def tiOf (P : Program) (t : TypeId) : Option TI :=
  match P.info? t with
  | none => none
  | some i => match P.underlying t with
    | none => none
    | some d => match i.zero with
      | none => none
      | some z => some { kind := kdOf d, size := i.size, bytes := i.bytes, zero := ofV z }

def methOf (P : Program) (t : TypeId) (name : String) : Option FuncId :=
  match P.info? t with
  | none => none
  | some i => match i.methods.find? (·.name == name) with
    | none => none
    | some m => match m.path.toList, m.func, P.underlying t with
      | [], some (f, pr), some (.pointer _) => if pr then some f else none
      | [], some (f, pr), some _ => if pr then none else some f
      | _, _, _ => none

structure Env where
  ty : TypeId → Option TI
  C : FuncId → List V → M
  meth : TypeId → String → Option FuncId
  kl : Nat → List Nat
  kc : Nat → List Nat

def optK (o : Option V) (s : AS) (K : K0) : Prop := match o with | some v => K v s | none => False
def condV (c : V) (X Y : Prop) : Prop := match c with | .bool true => X | .bool false => Y | _ => False

def kd (ty : TypeId → Option TI) (t : TypeId) : Option Kd := match ty t with | some i => some i.kind | none => none
def isAggK : Kd → Bool | .struct _ | .arr _ _ => true | _ => false

/-! ### numbers, strings, tests -/
def shlV (k : IntKind) (a b : Int) : Option V := if b < 0 then none else some (.int k (k.wrap (a * 2 ^ (min b.toNat k.bits))))
def shrV (k : IntKind) (a b : Int) : Option V := if b < 0 then none else some (.int k (a.fdiv (2 ^ (min b.toNat k.bits))))
def intV (op : BinOp) (k : IntKind) (a b : Int) : Option V :=
  match op with
  | .add => some (.int k (k.wrap (a + b)))
  | .sub => some (.int k (k.wrap (a - b)))
  | .mul => some (.int k (k.wrap (a * b)))
  | .quo => if b = 0 then none else some (.int k (k.wrap (a.tdiv b)))
  | .rem => if b = 0 then none else some (.int k (a.tmod b))
  | .and => some (.int k (k.wrap (BitVec.ofInt k.bits a &&& BitVec.ofInt k.bits b).toNat))
  | .or => some (.int k (k.wrap (BitVec.ofInt k.bits a ||| BitVec.ofInt k.bits b).toNat))
  | .xor => some (.int k (k.wrap (BitVec.ofInt k.bits a ^^^ BitVec.ofInt k.bits b).toNat))
  | .andNot => some (.int k (k.wrap (BitVec.ofInt k.bits a &&& ~~~BitVec.ofInt k.bits b).toNat))
  | .eql => some (.bool (a == b))
  | .neq => some (.bool (a != b))
  | .lss => some (.bool (decide (a < b)))
  | .leq => some (.bool (decide (a ≤ b)))
  | .gtr => some (.bool (decide (a > b)))
  | .geq => some (.bool (decide (a ≥ b)))
  | _ => none
def strV (op : BinOp) (a b : List UInt8) : Option V :=
  match op with
  | .add => if a.length + b.length ≤ 1099511627776 then some (.str (a ++ b)) else none
  | .eql => some (.bool (a == b))
  | .neq => some (.bool (!(a == b)))
  | .lss => some (.bool (Op.bytesLess a b))
  | .leq => some (.bool (Op.bytesLess a b || a == b))
  | .gtr => some (.bool (!(Op.bytesLess a b || a == b)))
  | .geq => some (.bool (!(Op.bytesLess a b)))
  | _ => none
/-- Are two values alike? (Of the kinds that can be told without memory.) -/
def eqV (k : Kd) (x y : V) : Option Bool :=
  match k, x, y with
  | .bool, .bool a, .bool b => some (a == b)
  | .ptr _, .ptr none, .ptr b => some b.isNone
  | .ptr _, .ptr (some _), .ptr none => some false
  | .slice _, .slice none _ c _, .slice b _ c' _ => if c = 0 ∧ (b.isNone = false ∨ c' = 0) then some b.isNone else none
  | .slice _, .slice (some _) _ _ _, .slice none _ c _ => if c = 0 then some false else none
  | .map _ _, .map none, .map b => some b.isNone
  | .map _ _, .map (some _), .map none => some false
  | .func, .nilFunc, .nilFunc => some true
  | .func, .nilFunc, .func _ _ _ => some false
  | .func, .func _ _ _, .nilFunc => some false
  | .iface _, .nilIface, .iface _ _ => some false
  | .iface _, .iface _ _, .nilIface => some false
  | .iface _, .nilIface, .nilIface => some true
  | _, _, _ => none
def isConst : Operand → Bool | .const _ => true | _ => false
def bothNil : V → V → Bool | .nilIface, .nilIface => true | _, _ => false
def binV (op : BinOp) (k : Option Kd) (c : Bool) (x y : V) : Option V :=
  match op, x, y with
  | .shl, .int q a, .int _ b => shlV q a b
  | .shr, .int q a, .int _ b => shrV q a b
  | op, .int q a, .int q' b => if q = q' then intV op q a b else none
  | op, .str a, .str b => strV op a b
  | .eql, x, y => match k with
    | some k => if bothNil x y && !c then none else match eqV k x y with | some b => some (.bool b) | none => none
    | none => none
  | .neq, x, y => match k with
    | some k => if bothNil x y && !c then none else match eqV k x y with | some b => some (.bool (!b)) | none => none
    | none => none
  | _, _, _ => none
def unV (op : UnOp) (x : V) : Option V :=
  match op, x with
  | .neg, .int k n => intV .sub k 0 n
  | .xor, .int k n => intV .xor k (if k.signed then -1 else k.max) n
  | .not, .bool b => some (.bool (!b))
  | _, _ => none

/-! ### places and parts -/
def add (a : Ad) (n : Nat) : Ad := ⟨a.blk, a.off + n⟩
def fieldPtr (fs : List (Nat × TypeId)) (ty : TypeId → Option TI) (p : V) (f : Nat) : Option V :=
  match p, fs[f]? with
  | .ptr (some a), some (off, t) => match ty t with
    | some i => if i.size = 0 then none else some (.ptr (some (add a off)))
    | none => none
  | _, _ => none
def partV (agg : Bool) (size : Nat) (cs : List V) (off : Nat) : Option V :=
  match agg with
  | true => some (.agg ((cs.drop off).take size))
  | false => cs[off]?
def fieldV (fs : List (Nat × TypeId)) (ty : TypeId → Option TI) (x : V) (f : Nat) : Option V :=
  match x, fs[f]? with
  | .agg cs, some (off, t) => match ty t with
    | some i => partV (isAggK i.kind) i.size cs off
    | none => none
  | _, _ => none
/-- The address of an element: of a slice, of an array behind a pointer. -/
def elemPtr (arr : Option Nat) (size : Nat) (x i : V) : Option V :=
  match arr, x, i with
  | none, .slice (some a) len cap ex, .int _ i => if 0 ≤ i ∧ i < len ∧ (ex = true ∨ cap ≠ 0) then some (.ptr (some (add a (i.toNat * size)))) else none
  | some n, .ptr (some a), .int _ i => if 0 ≤ i ∧ i < n then some (.ptr (some (add a (i.toNat * size)))) else none
  | _, _, _ => none
def indexV (agg : Bool) (n size : Nat) (x i : V) : Option V :=
  match x, i with
  | .agg cs, .int _ i => if 0 ≤ i ∧ i < n then partV agg size cs (i.toNat * size) else none
  | _, _ => none
def indexS (x i : V) : Option V :=
  match x, i with
  | .str s, .int _ i => if 0 ≤ i then match s[i.toNat]? with | some b => some (.int .u8 b.toNat) | none => none else none
  | _, _ => none
/-- A bound of a slice expression: a number, or what stands for none. -/
def boundV (x : Option V) (most dflt : Nat) : Option Nat :=
  match x with
  | none => some dflt
  | some (.int _ i) => if 0 ≤ i ∧ i ≤ most then some i.toNat else none
  | some _ => none
def bounds3 (c len : Nat) (lo hi mx : Option V) : Option (Nat × Nat × Nat) :=
  match mx.isSome && hi.isNone with
  | true => none
  | false => (boundV mx c c).bind fun m => (boundV hi m len).bind fun h => (boundV lo h 0).bind fun l => some (l, h, m)
def sliceStr (x : V) (lo hi : Option V) : Option V :=
  match x with
  | .str s => match bounds3 s.length s.length lo hi none with
    | some (l, h, _) => some (.str ((s.take h).drop l))
    | none => none
  | _ => none
def sliceArr (n size : Nat) (x : V) (lo hi mx : Option V) : Option V :=
  match x with
  | .ptr (some a) => match bounds3 n n lo hi mx with
    | some (l, h, m) => some (.slice (some (if m = l then a else add a (l * size))) (h - l) (m - l) true)
    | none => none
  | _ => none
def sliceSl (size : Nat) (x : V) (lo hi mx : Option V) : Option V :=
  match x with
  | .slice none 0 0 ex => match bounds3 0 0 lo hi mx with
    | some _ => some (.slice none 0 0 ex)
    | none => none
  | .slice none 0 1 true => match bounds3 0 0 lo hi mx with
    | some _ => some (.slice none 0 1 true)
    | none => none
  | .slice (some a) len c ex => match bounds3 c len lo hi mx with
    | some (l, h, m) =>
      if ex = true then some (.slice (some (if m = l then a else add a (l * size))) (h - l) (m - l) true)
      else if size = 0 ∨ c = 0 then (if size ≠ 0 ∧ mx.isNone = true ∧ len = 0 then some (.slice (some a) 0 0 false) else none)
      else match mx with
        | some _ => some (.slice (some (if m = l then a else add a (l * size))) (h - l) (m - l) true)
        | none => if len ≤ c then some (.slice (some (if m = l then a else add a (l * size))) (h - l) (m - l) false) else none
    | none => none
  | _ => none

/-! ### building -/
def cellsV : V → List V
  | .agg cs => cs
  | v => [v]
def flatV : V → Bool
  | .agg _ | .tuple _ | .junk => false
  | _ => true
def spl (cs : List V) (off : Nat) (vs : List V) : List V := cs.take off ++ (vs ++ cs.drop (off + vs.length))
def fillV (place : Nat → Option (Nat × Nat)) (cs : List V) : List (Nat × V) → Option (List V)
  | [] => some cs
  | (i, v) :: rest => match place i with
    | none => none
    | some (off, size) =>
      match v with
      | .junk => none
      | v => if (cellsV v).length = size ∧ off + (cellsV v).length ≤ cs.length then fillV place (spl cs off (cellsV v)) rest else none
def placeS (fs : List (Nat × TypeId)) (ty : TypeId → Option TI) (i : Nat) : Option (Nat × Nat) :=
  match fs[i]? with
  | some (off, t) => match ty t with | some i => some (off, i.size) | none => none
  | none => none
def buildV (ti : TI) (ty : TypeId → Option TI) (parts : List (Nat × V)) : Option V :=
  match ti.kind with
  | .struct fs => if fs.all (fun f => (ty f.2).isSome) then match fillV (placeS fs ty) (cellsV ti.zero) parts with | some cs => some (.agg cs) | none => none else none
  | .arr _ e => match ty e with
    | some i => match fillV (fun j => some (j * i.size, i.size)) (cellsV ti.zero) parts with | some cs => some (.agg cs) | none => none
    | none => none
  | _ => none
def zeros (z : List V) (n : Nat) : List V := (List.replicate n z).flatten
def extractV (x : V) (i : Nat) : Option V := match x with | .tuple vs => vs[i]? | _ => none
def nilV (x : V) : Option V :=
  match x with
  | .ptr (some _) => some x
  | .iface _ _ => some x
  | .func (.func _) _ _ => some x
  | .slice _ _ _ _ | .map _ | .int _ _ | .bool _ | .str _ => some x
  | _ => none
def assertV (k : Option Kd) (t : TypeId) (zero : V) (ok : Bool) (x : V) : Option V :=
  match k with
  | some (.iface _) | none => none
  | some _ => match x with
    | .nilIface => if ok then some (.tuple [zero, .bool false]) else none
    | .iface u v => if u = t then (if ok then some (.tuple [v, .bool true]) else some v) else (if ok then some (.tuple [zero, .bool false]) else none)
    | _ => none
def lenV (k : Option Kd) (x : V) : Option V :=
  match k, x with
  | some .str, .str s => some (.int .i64 s.length)
  | some (.arr n _), _ => some (.int .i64 n)
  | some (.slice _), .slice _ n _ _ => some (.int .i64 n)
  | some (.map _ _), .map none => some (.int .i64 0)
  | _, _ => none
def min2V (x y : V) : Option V := match x, y with | .int k a, .int _ b => some (.int k (if b < a then b else a)) | _, _ => none
def max2V (x y : V) : Option V := match x, y with | .int k a, .int _ b => some (.int k (if b > a then b else a)) | _, _ => none
def foldV (f : V → V → Option V) : V → List V → Option V
  | x, [] => some x
  | x, y :: r => match f x y with | some z => foldV f z r | none => none
def convI (ka kb : Option Kd) (x : V) : Option (Option V) :=
  match kb, x with
  | some (.int k), .int _ n => match ka with | some _ => some (some (.int k (k.wrap n))) | none => some none
  | some .str, .str s => match ka with | some _ => some (some (.str s)) | none => some none
  | _, _ => none
def pickV (c a b : V) : Option V := match c with | .bool true => some a | .bool false => some b | _ => none

abbrev Ev := Operand → V

/-- Operations that neither read nor write memory. -/
def pureOp (ty : TypeId → Option TI) (o : Op) (ev : Ev) : Option (Option V) :=
  match o with
  | .move x | .assign x => some (some (ev x))
  | .pick c a b => some (pickV (ev c) (ev a) (ev b))
  | .build t parts => match ty t with | some ti => some (buildV ti ty (parts.toList.map fun p => (p.1, ev p.2))) | none => some none
  | .nilCheck x => some (nilV (ev x))
  | .binOp op t x y _ => some (binV op (kd ty t) (isConst x || isConst y) (ev x) (ev y))
  | .unOp op _ x => some (unV op (ev x))
  | .makeInterface t x => match kd ty t with | some (.iface _) | none => some none | some _ => some (some (.iface t (ev x)))
  | .makeFunc fn first captured => some (some (.func fn (first.toList.map ev) (captured.toList.map ev)))
  | .slice t x lo hi mx => match kd ty t with
    | some .str => match mx with | none => some (sliceStr (ev x) (lo.map ev) (hi.map ev)) | some _ => some none
    | some (.arr n e) => match ty e with | some i => some (sliceArr n i.size (ev x) (lo.map ev) (hi.map ev) (mx.map ev)) | none => some none
    | some (.slice e) => match ty e with | some i => some (sliceSl i.size (ev x) (lo.map ev) (hi.map ev) (mx.map ev)) | none => some none
    | _ => some none
  | .fieldAddr t x f => match kd ty t with | some (.struct fs) => some (fieldPtr fs ty (ev x) f) | _ => some none
  | .field t x f => match kd ty t with | some (.struct fs) => some (fieldV fs ty (ev x) f) | _ => some none
  | .indexAddr t x i => match kd ty t with
    | some (.slice e) => match ty e with | some j => some (elemPtr none j.size (ev x) (ev i)) | none => some none
    | some (.arr n e) => match ty e with | some j => some (elemPtr (some n) j.size (ev x) (ev i)) | none => some none
    | _ => some none
  | .index t x i => match kd ty t with
    | some .str => some (indexS (ev x) (ev i))
    | some (.arr n e) => match ty e with | some j => some (indexV (isAggK j.kind) n j.size (ev x) (ev i)) | none => some none
    | _ => some none
  | .extract t i => some (extractV (ev t) i)
  | .typeAssert x _ t ok => match ty t with | some ti => some (assertV (some ti.kind) t ti.zero ok (ev x)) | none => some none
  | .convert a b x => convI (kd ty a) (kd ty b) (ev x)
  | .call { callee := .builtin b, args, argTypes } => match b, args.toList, argTypes.toList with
    | .len, [x], t :: _ => match kd ty t with
      | some (.map _ _) => match ev x with | .map none => some (some (.int .i64 0)) | _ => none
      | k => some (lenV k (ev x))
    | .min, x :: r, _ => some (foldV min2V (ev x) (r.map ev))
    | .max, x :: r, _ => some (foldV max2V (ev x) (r.map ev))
    | _, _, _ => none
  | _ => none

/-! ### memory -/
def cellsAt (s : AS) (b : Blk) : Option (List V) :=
  match b with
  | .old b => s.old b
  | .new k => match s.get k with | some (.cells cs _) => some cs | _ => none
def ldC (s : AS) (a : Ad) : Option V := match cellsAt s a.blk with | some cs => cs[a.off]? | none => none
def ldN (s : AS) (a : Ad) (n : Nat) : Option (List V) :=
  match cellsAt s a.blk with | some cs => if a.off + n ≤ cs.length then some ((cs.drop a.off).take n) else none | none => none
def setN (s : AS) (a : Ad) (vs : List V) : Option AS :=
  match a.blk with
  | .old _ => none
  | .new k => match s.get k with
    | some (.cells cs u) => if a.off + vs.length ≤ cs.length ∧ vs.all flatV = true then some (s.put k (some (.cells (spl cs a.off vs) u))) else none
    | _ => none

def ld1 (p : V) : M := fun s K => match p with | .ptr (some a) => optK (ldC s a) s K | _ => False
def ldA (n : Nat) (p : V) : M := fun s K => match p with | .ptr (some a) => (match ldN s a n with | some cs => K (.agg cs) s | none => False) | _ => False
def ldT (ti : TI) (p : V) : M := match isAggK ti.kind with | true => ldA ti.size p | false => ld1 p
def st (size : Nat) (p v : V) : M := fun s K =>
  match p, v with
  | .ptr (some _), .junk => False
  | .ptr (some a), v => if (cellsV v).length = size then (match setN s a (cellsV v) with | some s' => K undefV s' | none => False) else False
  | _, _ => False
def newC (cs : List V) : M := fun s K => K (.ptr (some ⟨.new s.next, 0⟩)) (s.alloc (.cells cs 0))
def newS (cs : List V) (n : Nat) : M := fun s K => K (.slice (some ⟨.new s.next, 0⟩) n n true) (s.alloc (.cells cs 0))
def boxV (v : V) : M := fun s K => match v with | .junk => False | v => newC (cellsV v) s K

/-- The cells of what is appended or copied: n elements. -/
def srcN (size n : Nat) (x : V) (s : AS) : Option (List V) :=
  match x with
  | .slice none 0 0 _ => if n = 0 then some [] else none
  | .slice (some a) _ c ex => if n * size = 0 then some [] else if ex = true ∨ c ≠ 0 then ldN s a (n * size) else none
  | .str bs => if size = 1 ∧ n ≤ bs.length then some ((bs.take n).map fun b => .int .u8 b.toNat) else none
  | _ => none
/-- The same; of an empty slice without room, wherever it points, too. -/
def srcX (size n : Nat) (x : V) (s : AS) : Option (List V) := match x with | .slice none 0 1 true => if n = 0 then some [] else none | x => srcN size n x s
theorem srcX_of {size n : Nat} {x : V} {s : AS} {xs : List V} (h : srcN size n x s = some xs) : srcX size n x s = some xs := by
  unfold srcX
  split
  · simp [srcN] at h
  · exact h
def srcLen (x : V) : Option Nat := match x with | .slice _ n _ _ => some n | .str s => some s.length | _ => none
def roomB (n bytes : Nat) : Bool := decide (n * bytes ≤ 140737488355328) && decide (bytes ≠ 0)

def app (size bytes : Nat) (sl x : V) : M := fun s K =>
  match srcLen x with
  | none => False
  | some n => match srcX size n x s with
    | none => False
    | some xs =>
      match sl with
      | .slice none 0 0 ex =>
        if n = 0 then K (.slice none 0 0 ex) s
        else if roomB n bytes = true ∧ xs.all flatV = true then K (.slice (some ⟨.new s.next, 0⟩) n n false) (s.alloc (.cells xs size)) else False
      | .slice (some a) len c ex =>
        if n = 0 then (if len ≤ c then K (.slice (some a) len c ex) s else False)
        else if len + n ≤ c then
          (match setN s (add a (len * size)) xs with | some s' => K (.slice (some a) (len + n) c ex) s' | none => False)
        else match srcN size len (.slice (some a) len c ex) s with
          | none => False
          | some olds =>
            if roomB (len + n) bytes = true ∧ olds.all flatV = true ∧ xs.all flatV = true then
              (match ex with
              | true => K (.slice (some ⟨.new s.next, 0⟩) (len + n) (len + n) false) (s.alloc (.cells (olds ++ xs) size))
              | false => match a, s.get (match a.blk with | .new k => k | .old _ => 0) with
                | ⟨.new k, 0⟩, some (.cells _ u) => if c ≠ 0 ∧ u = size ∧ size ≠ 0 then K (.slice (some ⟨.new s.next, 0⟩) (len + n) (len + n) false) ((s.put k none).alloc (.cells (olds ++ xs) size)) else False
                | _, _ => False)
            else False
      | _ => False

def cpy (size : Nat) (dst src : V) : M := fun s K =>
  match dst, srcLen src with
  | .slice none 0 0 _, some _ => K (.int .i64 0) s
  | .slice (some a) len c ex, some n => match srcN size (min n len) src s with
    | none => False
    | some xs => if min n len * size = 0 then K (.int .i64 (min n len : Nat)) s
      else if ex = true ∨ c ≠ 0 then (match setN s a xs with | some s' => K (.int .i64 (min n len : Nat)) s' | none => False) else False
  | _, _ => False

def mkSl (size bytes : Nat) (z : List V) (l c : V) : M := fun s K =>
  match l, c with
  | .int _ l, .int _ c => if 0 ≤ l ∧ l ≤ c ∧ bytes * c ≤ 140737488355328 ∧ c ≤ 140737488355328 ∧ z.length = size ∧ z.all flatV = true then
      K (.slice (some ⟨.new s.next, 0⟩) l.toNat c.toNat true) (s.alloc (.cells (zeros z c.toNat) 0)) else False
  | _, _ => False

def bytesOfCells : List V → Option (List UInt8)
  | [] => some []
  | .int .u8 n :: r => match bytesOfCells r with | some l => some (UInt8.ofNat n.toNat :: l) | none => none
  | _ => none
def toStr (x : V) : M := fun s K =>
  match x with
  | .slice none 0 0 _ => K (.str []) s
  | .slice (some _) n _ _ => match srcN 1 n x s with
    | some cs => match bytesOfCells cs with | some l => K (.str l) s | none => False
    | none => False
  | _ => False
def toBytes (x : V) : M := fun s K =>
  match x with
  | .str bs => if bs.length ≤ 1099511627776 then K (.slice (some ⟨.new s.next, 0⟩) bs.length bs.length false) (s.alloc (.cells (bs.map fun b => .int .u8 b.toNat) 1)) else False
  | _ => False

def clr (size : Nat) (z : List V) (x : V) : M := fun s K =>
  match x with
  | .slice none 0 0 _ => K undefV s
  | .slice (some a) n c ex => if n = 0 then K undefV s else
      if (ex = true ∨ c ≠ 0) ∧ z.length = size ∧ z.all flatV = true then (match setN s a (zeros z n) with | some s' => K undefV s' | none => False) else False
  | _ => False

/-! ### maps -/
def keyEq (q : Kd) (x y : V) : Option Bool :=
  match q, x, y with
  | .int _, .int k a, .int k' b => if k = k' then some (a == b) else none
  | .str, .str a, .str b => some (a == b)
  | .bool, .bool a, .bool b => some (a == b)
  | _, _, _ => none
def keyKd : Kd → Bool
  | .int _ | .str | .bool => true
  | _ => false
def findE (q : Kd) (k : V) : List (V × V × Nat) → Nat → Option (Option (Nat × V))
  | [], _ => if keyKd q = true then some none else none
  | e :: r, i => match keyEq q k e.1 with
    | some true => some (some (i, e.2.1))
    | some false => findE q k r (i + 1)
    | none => none
def mapAt (s : AS) (m : V) : Option (List (V × V × Nat) × Nat) :=
  match m with
  | .map (some k) => match s.get k with | some (.map es c) => some (es, c) | _ => none
  | _ => none
def mkMap : M := fun s K => K (.map (some s.next)) (s.alloc (.map [] 0))
def tupOk (ok b : Bool) (v : V) : V := match ok with | true => .tuple [v, .bool b] | false => v
def lookV (q : Kd) (zero : V) (ok : Bool) (m k : V) : M := fun s K =>
  match (match m with | .map none => some ([], 0) | m => mapAt s m) with
  | none => False
  | some (es, _) => match findE q k es 0 with
    | none => False
    | some none => K (tupOk ok false zero) s
    | some (some (_, v)) => K (tupOk ok true v) s
def updE (es : List (V × V × Nat)) (i : Nat) (k v : V) : List (V × V × Nat) := es.modify i fun e => (k, v, e.2.2)
def mapSet (q : Kd) (m k v : V) : M := fun s K =>
  match m, mapAt s m with
  | .map (some r), some (es, c) => match findE q k es 0 with
    | none => False
    | some (some (i, _)) => K undefV (s.put r (some (.map (updE es i k v) c)))
    | some none => K undefV (s.put r (some (.map (es ++ [(k, v, c)]) (c + 1))))
  | _, _ => False
def mapDel (q : Kd) (m k : V) : M := fun s K =>
  match m with
  | .map none => match keyKd q with | true => K undefV s | false => False
  | .map (some r) => match mapAt s m with
    | some (es, c) => match findE q k es 0 with
      | none => False
      | some (some (i, _)) => K undefV (s.put r (some (.map (es.eraseIdx i) c)))
      | some none => K undefV (s.put r (some (.map es c)))
    | none => False
  | _ => False
def mapLen (m : V) : M := fun s K => match mapAt s m with | some (es, _) => K (.int .i64 es.length) s | none => False
def rangeM (m : V) : M := fun s K =>
  match m with
  | .map none => K (.ptr (some ⟨.new s.next, 0⟩)) (s.alloc (.miter none 0 [] 0))
  | .map (some k) => match mapAt s m with | some (_, c) => K (.ptr (some ⟨.new s.next, 0⟩)) (s.alloc (.miter (some k) c [] c)) | none => False
  | _ => False
def rangeS (x : V) : M := fun s K => match x with | .str b => K (.ptr (some ⟨.new s.next, 0⟩)) (s.alloc (.siter b 0)) | _ => False
def overV : V := .tuple [.bool false]
/-- The next entry of a map, whichever that is. -/
def nextM (it : V) : M := fun s K =>
  match it with
  | .ptr (some ⟨.new r, 0⟩) => match s.get r with
    | some (.miter none _ _ _) => K overV s
    | some (.miter (some m) since seen last) => match s.get m with
      | some (.map es clock) =>
        if (!seen.isEmpty && !es.isEmpty && es.all (fun e => decide (e.2.2 ≥ last))) = true then False else
        ((es.filter fun e => !seen.contains e.2.2).filter (fun e => decide (e.2.2 < since)) = [] → K overV s) ∧
        ∀ e, e ∈ es → seen.contains e.2.2 = false → K (.tuple [.bool true, e.1, e.2.1]) (s.put r (some (.miter (some m) since (seen ++ [e.2.2]) clock)))
      | _ => False
    | _ => False
  | _ => False

/-- The entry at which an iterator stands. -/
def entryM (it : V) : M := fun s K =>
  match it with
  | .ptr (some ⟨.new r, 0⟩) => match s.get r with
    | some (.miter (some m) _ seen last) => match s.get m with
      | some (.map es clock) => if clock = last then
          (match seen.getLast? with
          | some stamp => match es.find? (fun e => e.2.2 == stamp) with | some e => K (.tuple [e.1, e.2.1]) s | none => False
          | none => False) else False
      | _ => False
    | _ => False
  | _ => False

/-! ### calls -/
def callV (E : Env) (f : V) (args : List V) : M := fun s K =>
  match f with
  | .func (.func g) first captured => E.C g (first ++ args ++ captured) s K
  | _ => False
def invV (E : Env) (r : V) (name : String) (args : List V) : M := fun s K =>
  match r with
  | .iface t v => match E.meth t name with | some g => E.C g (v :: args) s K | none => False
  | _ => False

def builtinOp (E : Env) (b : Builtin) (argTypes : List TypeId) (args : List V) : M := fun s K =>
  match b, argTypes, args with
  | .append, t :: u :: _, [x, y] => match kd E.ty t, kd E.ty u with
    | some (.slice e), some k => match E.ty e, k with
      | some _, .int _ => False
      | some i, _ => match (cellsV i.zero).length == i.size with | true => app i.size i.bytes x y s K | false => False
      | none, _ => False
    | _, _ => False
  | .copy, t :: _, [x, y] => match kd E.ty t with
    | some (.slice e) => match E.ty e with | some i => cpy i.size x y s K | none => False
    | _ => False
  | .clear, t :: _, [x] => match kd E.ty t with
    | some (.slice e) => match E.ty e with | some i => clr i.size (cellsV i.zero) x s K | none => False
    | _ => False
  | .len, t :: _, [x] => match kd E.ty t with | some (.map _ _) => mapLen x s K | _ => False
  | .delete, t :: _, [m, k] => match kd E.ty t with
    | some (.map q _) => match kd E.ty q with | some qk => mapDel qk m k s K | none => False
    | _ => False
  | _, _, _ => False

/-- An operation. -/
def evOp (E : Env) (o : Op) (ev : Ev) (s : AS) (K : K0) : Prop :=
  match pureOp E.ty o ev with
  | some r => optK r s K
  | none =>
    match o with
    | .load t x => match E.ty t with | some ti => ldT ti (ev x) s K | none => False
    | .store t a x => match E.ty t with | some ti => st ti.size (ev a) (ev x) s K | none => False
    | .alloc t => match E.ty t with | some ti => boxV ti.zero s K | none => False
    | .box t x => match E.ty t with | some _ => boxV (ev x) s K | none => False
    | .buildSlice t len parts => match kd E.ty t with
      | some (.slice e) => match E.ty e with
        | some i => if len * i.size ≤ 16777216 then (match fillV (fun j => some (j * i.size, i.size)) (zeros (cellsV i.zero) len) (parts.toList.map fun p => (p.1, ev p.2)) with
          | some cs => if cs.all flatV = true ∧ (cellsV i.zero).length = i.size then newS cs len s K else False
          | none => False) else False
        | none => False
      | _ => False
    | .convert a b x => match kd E.ty a, kd E.ty b with
      | some (.slice e), some .str => match kd E.ty e with | some (.int .u8) => toStr (ev x) s K | _ => False
      | some .str, some (.slice e) => match kd E.ty e with | some (.int .u8) => toBytes (ev x) s K | _ => False
      | _, _ => False
    | .makeSlice t l c => match kd E.ty t with
      | some (.slice e) => match E.ty e with | some i => mkSl i.size i.bytes (cellsV i.zero) (ev l) (ev c) s K | none => False
      | _ => False
    | .makeMap t r => match r with | none => mkMap s K | some x => match kd E.ty t, ev x with | some (.map _ _), .int _ _ => mkMap s K | _, _ => False
    | .lookup t m k ok => match kd E.ty t with
      | some (.map q e) => match kd E.ty q, E.ty e with | some qk, some i => lookV qk i.zero ok (ev m) (ev k) s K | _, _ => False
      | _ => False
    | .mapUpdate t m k v | .insert t m k v => match kd E.ty t with
      | some (.map q _) => match kd E.ty q with | some qk => mapSet qk (ev m) (ev k) (ev v) s K | none => False
      | _ => False
    | .range t x => match kd E.ty t with | some (.map _ _) => rangeM (ev x) s K | some .str => rangeS (ev x) s K | _ => False
    | .next it isString => match isString with | false => nextM (ev it) s K | true => False
    | .entry it => entryM (ev it) s K
    | .call { callee, args, argTypes } => match callee with
      | .value f => callV E (ev f) (args.toList.map ev) s K
      | .invoke r name => invV E (ev r) name (args.toList.map ev) s K
      | .builtin b => builtinOp E b argTypes.toList (args.toList.map ev) s K
    | _ => False

end Go.Rx
end
section
/- Soundness of the operations that neither read nor write memory. -/
namespace Go.Rx
open Go

theorem ofV0_VR (ρ : Ren) (v : Value) : VR ρ (ofV0 v) v := by
  unfold ofV0
  split <;> first
    | exact .bool _ | exact .int _ _ | exact .nilptr | exact .nilslice _ | exact .nilmap | exact .nilchan | exact .nilFunc | exact .nilIface | exact .junk _ | skip
  rename_i s
  have h := VR.str (ρ := ρ) s.data.toList
  simpa using h

theorem map_VRs (ρ : Ren) (f : Value → V) (h : ∀ v, VR ρ (f v) v) (l : List Value) : VRs ρ (l.map f) l := by
  induction l with
  | nil => exact .nil
  | cons v l ih => exact .cons (h v) ih

theorem ofV_VR (ρ : Ren) (v : Value) : VR ρ (ofV v) v := by
  unfold ofV
  split
  · exact .agg (map_VRs ρ _ (ofV0_VR ρ) _)
  · exact .tuple (map_VRs ρ _ (ofV0_VR ρ) _)
  · exact .iface _ (ofV0_VR ρ _)
  · exact ofV0_VR ρ _

/-- What the table of types says. -/
structure TyOk (P : Program) (t : TypeId) (ti : TI) : Prop where
  ex : ∃ i d z, P.info? t = some i ∧ P.underlying t = some d ∧ i.zero = some z ∧ ti = { kind := kdOf d, size := i.size, bytes := i.bytes, zero := ofV z }

theorem tiOf_ok {P : Program} {t : TypeId} {ti : TI} (h : tiOf P t = some ti) : TyOk P t ti := by
  unfold tiOf at h
  split at h
  · simp at h
  · rename_i i hi
    split at h
    · simp at h
    · rename_i d hd
      split at h
      · simp at h
      · rename_i z hz
        simp at h
        exact ⟨i, d, z, hi, hd, hz, h.symm⟩

def TyEnv (P : Program) (ty : TypeId → Option TI) : Prop := ∀ t ti, ty t = some ti → tiOf P t = some ti

theorem kd_some {ty : TypeId → Option TI} {t : TypeId} {k : Kd} (h : kd ty t = some k) : ∃ ti, ty t = some ti ∧ ti.kind = k := by
  unfold kd at h
  split at h
  · rename_i i hi; simp at h; exact ⟨i, hi, h⟩
  · simp at h

section
variable {P : Program} {ty : TypeId → Option TI} {ρ : Ren}

theorem ty_info (hty : TyEnv P ty) {t : TypeId} {ti : TI} (h : ty t = some ti) :
    ∃ i d z, P.info? t = some i ∧ P.underlying t = some d ∧ i.zero = some z ∧ kdOf d = ti.kind ∧ ti.size = i.size ∧ ti.bytes = i.bytes ∧ ti.zero = ofV z := by
  obtain ⟨i, d, z, hi, hd, hz, e⟩ := (tiOf_ok (hty t ti h)).ex
  subst e
  exact ⟨i, d, z, hi, hd, hz, rfl, rfl, rfl, rfl⟩

theorem kd_under (hty : TyEnv P ty) {t : TypeId} {k : Kd} (h : kd ty t = some k) : ∃ d, P.underlying t = some d ∧ kdOf d = k := by
  obtain ⟨ti, ht, rfl⟩ := kd_some h
  obtain ⟨i, d, z, _, hd, _, hk, _⟩ := ty_info hty ht
  exact ⟨d, hd, hk⟩

theorem run_under {t : TypeId} {d : TypeDesc} (h : P.underlying t = some d) (w : World) : (underlying t).run P w = .ok d w := run_underlying h w
theorem run_info {t : TypeId} {i : TypeInfo} (h : P.info? t = some i) (w : World) : (typeInfo t).run P w = .ok i w := by
  simp [typeInfo, h]
theorem run_size {t : TypeId} {i : TypeInfo} (h : P.info? t = some i) (w : World) : (sizeOf t).run P w = .ok i.size w := by
  simp [sizeOf, run_info h]
theorem run_zero {t : TypeId} {i : TypeInfo} {z : Value} (h : P.info? t = some i) (hz : i.zero = some z) (w : World) : (zeroValue t).run P w = .ok z w := by
  simp [zeroValue, run_info h, hz]
theorem run_isAgg {t : TypeId} {d : TypeDesc} (h : P.underlying t = some d) (w : World) : (isAgg t).run P w = .ok (isAggK (kdOf d)) w := by
  unfold isAgg
  rw [Sem.run_bind, run_under h]
  simp only [Result.andThen_ok]
  cases d <;> rfl

/-- A value comes out, the world as it was. -/
def Yes (P : Program) (ρ : Ren) (v : V) (x : Sem Value) : Prop := ∃ v', VR ρ v v' ∧ ∀ w, x.run P w = .ok v' w

theorem Yes.pure {v : V} {v' : Value} (h : VR ρ v v') : Yes P ρ v (Pure.pure v') := ⟨v', h, fun _ => rfl⟩

theorem intV_ok {op : BinOp} {k : IntKind} {a b : Int} {v : V} (h : intV op k a b = some v) (hs : op ≠ .shl ∧ op ≠ .shr) (t : TypeId) :
    Yes P ρ v (binOp op t (.int k a) (.int k b)) := by
  cases op <;> simp only [intV] at h
  case add => cases h; exact ⟨_, .int _ _, fun w => by simp [binOp, Op.intArith]⟩
  case sub => cases h; exact ⟨_, .int _ _, fun w => by simp [binOp, Op.intArith]⟩
  case mul => cases h; exact ⟨_, .int _ _, fun w => by simp [binOp, Op.intArith]⟩
  case quo => split at h; · simp at h
              · cases h; rename_i hb; exact ⟨_, .int _ _, fun w => by simp [binOp, Op.intDiv, hb]⟩
  case rem => split at h; · simp at h
              · cases h; rename_i hb; exact ⟨_, .int _ _, fun w => by simp [binOp, Op.intDiv, hb]⟩
  case and => cases h; exact ⟨_, .int _ _, fun w => by simp [binOp, Op.intBits]⟩
  case or => cases h; exact ⟨_, .int _ _, fun w => by simp [binOp, Op.intBits]⟩
  case xor => cases h; exact ⟨_, .int _ _, fun w => by simp [binOp, Op.intBits]⟩
  case andNot => cases h; exact ⟨_, .int _ _, fun w => by simp [binOp, Op.intBits]⟩
  case eql => cases h; exact ⟨_, .bool _, fun w => by simp [binOp, Op.intCmp]⟩
  case neq => cases h; exact ⟨_, .bool _, fun w => by simp [binOp, Op.intCmp]⟩
  case lss => cases h; exact ⟨_, .bool _, fun w => by simp [binOp, Op.intCmp]⟩
  case leq => cases h; exact ⟨_, .bool _, fun w => by simp [binOp, Op.intCmp]⟩
  case gtr => cases h; exact ⟨_, .bool _, fun w => by simp [binOp, Op.intCmp]⟩
  case geq => cases h; exact ⟨_, .bool _, fun w => by simp [binOp, Op.intCmp]⟩
  all_goals simp at h

theorem toList_mk (s : List UInt8) : (ByteArray.mk s.toArray).toList = s := by
  rw [ByteArray.toList_eq]

theorem size_mk (s : List UInt8) : (ByteArray.mk s.toArray).size = s.length := by simp [ByteArray.size]

theorem append_mk (a b : List UInt8) : (ByteArray.mk a.toArray) ++ (ByteArray.mk b.toArray) = ByteArray.mk (a ++ b).toArray := by
  apply ByteArray.ext
  rw [ByteArray.data_append]
  simp

theorem strV_ok {op : BinOp} {a b : List UInt8} {v : V} (h : strV op a b = some v) (t : TypeId) :
    Yes P ρ v (binOp op t (.string ⟨a.toArray⟩) (.string ⟨b.toArray⟩)) := by
  cases op <;> simp only [strV] at h
  case add =>
    split at h
    · rename_i hb
      cases h
      refine ⟨_, .str _, fun w => ?_⟩
      have hb' : ¬ (9223372036854775807 < (((ByteArray.mk a.toArray).size + (ByteArray.mk b.toArray).size : Nat) : Int)) := by rw [size_mk, size_mk]; omega
      simp only [binOp, Op.stringOp, IntKind.max_i64, gt_iff_lt, Sem.run_ite, if_neg hb', append_mk]
      rfl
    · simp at h
  all_goals first
    | (cases h; refine ⟨_, .bool _, fun w => ?_⟩; simp [binOp, Op.stringOp, toList_mk]; done)
    | simp at h

theorem kdOf_bool {d : TypeDesc} (h : kdOf d = .bool) : d = .bool := by cases d <;> simp [kdOf] at h; rfl
theorem kdOf_int {d : TypeDesc} {k : IntKind} (h : kdOf d = .int k) : d = .int k := by cases d <;> simp [kdOf] at h; subst h; rfl
theorem kdOf_str {d : TypeDesc} (h : kdOf d = .str) : d = .string := by cases d <;> simp [kdOf] at h; rfl
theorem kdOf_ptr {d : TypeDesc} {e : TypeId} (h : kdOf d = .ptr e) : d = .pointer e := by cases d <;> simp [kdOf] at h; subst h; rfl
theorem kdOf_slice {d : TypeDesc} {e : TypeId} (h : kdOf d = .slice e) : d = .slice e := by cases d <;> simp [kdOf] at h; subst h; rfl
theorem kdOf_arr {d : TypeDesc} {n : Nat} {e : TypeId} (h : kdOf d = .arr n e) : d = .array n e := by cases d <;> simp [kdOf] at h; obtain ⟨rfl, rfl⟩ := h; rfl
theorem kdOf_map {d : TypeDesc} {k e : TypeId} (h : kdOf d = .map k e) : d = .map k e := by cases d <;> simp [kdOf] at h; obtain ⟨rfl, rfl⟩ := h; rfl
theorem kdOf_struct {d : TypeDesc} {fs : List (Nat × TypeId)} (h : kdOf d = .struct fs) : ∃ g : Array Field, d = .struct g ∧ fs = g.toList.map fun f => (f.offset, f.type) := by
  cases d <;> simp [kdOf] at h; exact ⟨_, rfl, h.symm⟩
theorem kdOf_func {d : TypeDesc} (h : kdOf d = .func) : ∃ a b c, d = .func a b c := by cases d <;> simp [kdOf] at h; exact ⟨_, _, _, rfl⟩
theorem kdOf_iface {d : TypeDesc} {b : Bool} (h : kdOf d = .iface b) : ∃ ms, d = .interface ms := by cases d <;> simp [kdOf] at h; exact ⟨_, rfl⟩

theorem eqV_ok (hty : TyEnv P ty) {t : TypeId} {k : Kd} (hk : kd ty t = some k) {x y : V} {b : Bool} (h : eqV k x y = some b) {x' y' : Value} (hx : VR ρ x x') (hy : VR ρ y y') :
    ∀ w, (Op.equal t x' y').run P w = .ok b w := by
  obtain ⟨d, hd, hdk⟩ := kd_under hty hk
  intro w
  unfold Op.equal
  rw [show Op.maxDepth = 9999 + 1 from rfl]
  unfold Op.equalIn
  rw [Sem.run_bind, run_under hd]
  simp only [Result.andThen_ok]
  unfold eqV at h
  split at h
  · obtain rfl := kdOf_bool hdk; cases hx; cases hy; cases h; rfl
  · obtain rfl := kdOf_ptr hdk; cases hx; cases hy <;> cases h <;> rfl
  · obtain rfl := kdOf_ptr hdk; cases hx; cases hy; cases h; rfl
  · obtain rfl := kdOf_slice hdk
    split at h
    · rename_i hc
      obtain ⟨rfl, hc2⟩ := hc
      cases h
      cases hx
      cases hy with
      | nilslice => rfl
      | hollow => simp at hc2
      | slice => rfl
    · cases h
  · obtain rfl := kdOf_slice hdk
    split at h
    · rename_i hc
      subst hc
      cases h
      cases hx; cases hy; rfl
    · cases h
  · obtain rfl := kdOf_map hdk; cases hx; cases hy <;> cases h <;> rfl
  · obtain rfl := kdOf_map hdk; cases hx; cases hy; cases h; rfl
  · obtain ⟨_, _, _, rfl⟩ := kdOf_func hdk; cases hx; cases hy; cases h; rfl
  · obtain ⟨_, _, _, rfl⟩ := kdOf_func hdk; cases hx; cases hy; cases h; rfl
  · obtain ⟨_, _, _, rfl⟩ := kdOf_func hdk; cases hx; cases hy; cases h; rfl
  · obtain ⟨_, rfl⟩ := kdOf_iface hdk; cases hx; cases hy; cases h; rfl
  · obtain ⟨_, rfl⟩ := kdOf_iface hdk; cases hx; cases hy; cases h; rfl
  · obtain ⟨_, rfl⟩ := kdOf_iface hdk; cases hx; cases hy; cases h; rfl
  · simp at h

/-- What eqV can tell apart is no struct and no array. -/
theorem eqV_guard {k : Kd} {x y : V} {b : Bool} (h : eqV k x y = some b) {x' y' : Value} (hx : VR ρ x x') (hy : VR ρ y y') (op : BinOp) (t : TypeId) (a c : Operand)
    (hc : bothNil x y = true → (isConst a || isConst c) = true) : ∀ w, (eqGuard op t a c x' y').run P w = .ok () w := by
  intro w
  unfold eqV at h
  split at h
  · cases hx; simp [eqGuard_at_bool]
  · cases hx; simp [eqGuard_at_pointer]
  · cases hx; simp [eqGuard_at_pointer]
  · cases hx <;> simp [eqGuard_at_slice]
  · cases hx; simp [eqGuard_at_slice]
  · cases hx; simp [eqGuard_at_map]
  · cases hx; simp [eqGuard_at_map]
  · cases hx; simp [eqGuard_at_nilFunc]
  · cases hx; simp [eqGuard_at_nilFunc]
  · cases hx; simp [eqGuard_at_func]
  · cases hx; cases hy; simp [eqGuard_nil_iface]
  · cases hx; simp [eqGuard_at_iface]
  · cases hx; cases hy
    have := hc rfl
    cases a <;> cases c <;> simp [isConst] at this <;> simp [eqGuard_nil_constR, eqGuard_nil_constL]
  · simp at h

theorem binV_ok (hty : TyEnv P ty) {t : TypeId} {op : BinOp} {x y : V} {v : V} {a c : Operand} (h : binV op (kd ty t) (isConst a || isConst c) x y = some v)
    {x' y' : Value} (hx : VR ρ x x') (hy : VR ρ y y') :
    ∃ v', VR ρ v v' ∧ ∀ w, (do eqGuard op t a c x' y'; binOp op t x' y' : Sem Value).run P w = .ok v' w := by
  have key : (∃ v', VR ρ v v' ∧ ∀ w, (binOp op t x' y').run P w = .ok v' w) → (∀ w, (eqGuard op t a c x' y').run P w = .ok () w) →
      ∃ v', VR ρ v v' ∧ ∀ w, (do eqGuard op t a c x' y'; binOp op t x' y' : Sem Value).run P w = .ok v' w := by
    rintro ⟨v', h1, h2⟩ h3
    exact ⟨v', h1, fun w => by rw [Sem.run_bind, h3 w]; exact h2 w⟩
  unfold binV at h
  split at h
  · cases hx; cases hy
    unfold shlV at h
    split at h
    · simp at h
    · rename_i hb; cases h
      exact key ⟨_, .int _ _, fun w => by simp [binOp, Op.shift, hb]⟩ (fun w => by simp [eqGuard_at_int])
  · cases hx; cases hy
    unfold shrV at h
    split at h
    · simp at h
    · rename_i hb; cases h
      exact key ⟨_, .int _ _, fun w => by simp [binOp, Op.shift, hb]⟩ (fun w => by simp [eqGuard_at_int])
  · rename_i hs1 hs2
    cases hx; cases hy
    split at h
    · rename_i hq; subst hq
      refine key (intV_ok h ⟨?_, ?_⟩ t) (fun w => by simp [eqGuard_at_int])
      · intro e; exact hs1 e
      · intro e; exact hs2 e
    · simp at h
  · cases hx; cases hy
    exact key (strV_ok h t) (fun w => by simp [eqGuard_at_string])
  · rename_i hint hstr
    split at h
    · rename_i k hk
      split at h
      · simp at h
      · rename_i hbn
        split at h
        · rename_i b hb
          cases h
          have hg := eqV_guard (P := P) hb hx hy .eql t a c (fun e => by rw [e] at hbn; cases h1 : isConst a <;> cases h2 : isConst c <;> simp_all)
          have he := eqV_ok hty hk hb hx hy
          refine key ⟨_, .bool b, fun w => ?_⟩ hg
          have : binOp .eql t x' y' = (Op.equal t x' y' >>= fun b => Pure.pure (Value.bool b)) := by
            unfold eqV at hb
            split at hb <;> first | (simp at hb; done) | (cases hx <;> cases hy <;> rfl)
          rw [this, Sem.run_bind, he w]; rfl
        · simp at h
    · simp at h
  · rename_i hint hstr
    split at h
    · rename_i k hk
      split at h
      · simp at h
      · rename_i hbn
        split at h
        · rename_i b hb
          cases h
          have hg := eqV_guard (P := P) hb hx hy .neq t a c (fun e => by rw [e] at hbn; cases h1 : isConst a <;> cases h2 : isConst c <;> simp_all)
          have he := eqV_ok hty hk hb hx hy
          refine key ⟨_, .bool (!b), fun w => ?_⟩ hg
          have : binOp .neq t x' y' = (Op.equal t x' y' >>= fun b => Pure.pure (Value.bool (!b))) := by
            unfold eqV at hb
            split at hb <;> first | (simp at hb; done) | (cases hx <;> cases hy <;> rfl)
          rw [this, Sem.run_bind, he w]; rfl
        · simp at h
    · simp at h
  · simp at h

theorem unV_ok {op : UnOp} {x v : V} (h : unV op x = some v) {x' : Value} (hx : VR ρ x x') : Yes P ρ v (Op.unary op x') := by
  unfold unV at h
  split at h
  · cases hx; simp only [intV] at h; cases h; exact ⟨_, .int _ _, fun w => by simp [Op.unary, Op.intArith]⟩
  · cases hx; simp only [intV] at h; cases h; exact ⟨_, .int _ _, fun w => by simp [Op.unary, Op.intBits]⟩
  · cases hx; cases h; exact ⟨_, .bool _, fun w => by simp [Op.unary]⟩
  · simp at h
end
end Go.Rx
end
section
/- Soundness of the operations that neither read nor write memory: the rest. -/
namespace Go.Rx
open Go

section
variable {P : Program} {ty : TypeId → Option TI} {ρ : Ren}

theorem cells_VRs {v : V} {v' : Value} (h : VR ρ v v') (hj : v ≠ .junk) : VRs ρ (cellsV v) v'.cells.toList := by
  cases h with
  | junk => exact absurd rfl hj
  | agg h => exact h
  | bool => exact .cons (.bool _) .nil
  | int => exact .cons (.int _ _) .nil
  | str => exact .cons (.str _) .nil
  | nilptr => exact .cons .nilptr .nil
  | ptr h => exact .cons (.ptr h) .nil
  | nilslice => exact .cons (.nilslice _) .nil
  | hollow => exact .cons (.hollow _) .nil
  | slice h h1 h2 => exact .cons (.slice h h1 h2) .nil
  | nilmap => exact .cons .nilmap .nil
  | map h => exact .cons (.map h) .nil
  | nilchan => exact .cons .nilchan .nil
  | chan h => exact .cons (.chan h) .nil
  | func _ h1 h2 => exact .cons (.func _ h1 h2) .nil
  | nilFunc => exact .cons .nilFunc .nil
  | iface _ h => exact .cons (.iface _ h) .nil
  | nilIface => exact .cons .nilIface .nil
  | tuple h => exact .cons (.tuple h) .nil
  | opq h =>
    have : v'.cells = #[v'] := by cases v' <;> first | rfl | (simp [Value.oneCell'] at h)
    rw [this]; exact .cons (.opq h) .nil

theorem spl_VRs {cs vs : List V} {cs' vs' : List Value} (h : VRs ρ cs cs') (g : VRs ρ vs vs') (off : Nat) :
    VRs ρ (spl cs off vs) (cs'.take off ++ (vs' ++ cs'.drop (off + vs'.length))) := by
  unfold spl
  rw [g.length]
  exact (h.take off).append (g.append (h.drop _))

theorem foldl_set (off : Nat) : ∀ (l : List Value) (k : Nat) (cells : Array Value), off + k + l.length ≤ cells.size →
    ((l.zipIdx k).foldl (fun (cs : Array Value) (x : Value × Nat) => cs.setIfInBounds (off + x.2) x.1) cells).toList =
      cells.toList.take (off + k) ++ (l ++ cells.toList.drop (off + k + l.length))
  | [], k, cells, h => by simp
  | v :: l, k, cells, h => by
    simp only [List.zipIdx_cons, List.foldl_cons, List.length_cons] at h ⊢
    rw [foldl_set off l (k + 1) _ (by simp; omega)]
    simp only [Array.toList_setIfInBounds, List.length_cons]
    rw [show off + (k + 1) = (off + k) + 1 by omega, show off + k + (l.length + 1) = off + k + 1 + l.length by omega]
    have hlt : off + k < cells.toList.length := by simp; omega
    rw [List.drop_set_of_lt (by omega)]
    rw [List.take_succ_eq_append_getElem (by simpa using hlt)]
    simp [List.take_set_of_le]

theorem fill_ok {place place' : Nat → Option (Nat × Nat)} (hp : ∀ i x, place i = some x → place' i = some x) :
    ∀ {parts : List (Nat × V)} {parts' : List (Nat × Value)} {cs : List V} {cs1 : List V} {ca : Array Value},
      fillV place cs parts = some cs1 → VRs ρ cs ca.toList → (List.length parts' = List.length parts) →
      (∀ (j i : Nat) (v : V), parts[j]? = some (i, v) → ∃ v', parts'[j]? = some (i, v') ∧ VR ρ v v') →
      ∃ ca1, Instr.fill place' ca parts' = some ca1 ∧ VRs ρ cs1 ca1.toList := by
  intro parts
  induction parts with
  | nil =>
    intro parts' cs cs1 ca h hc hl _
    cases parts' with
    | nil => simp [fillV] at h; subst h; exact ⟨ca, rfl, hc⟩
    | cons => simp at hl
  | cons x parts ih =>
    intro parts' cs cs1 ca h hc hl hx
    obtain ⟨i, v⟩ := x
    cases parts' with
    | nil => simp at hl
    | cons y parts' =>
      obtain ⟨v', e, hv⟩ := hx 0 i v rfl
      simp at e; subst e
      simp only [fillV] at h
      split at h
      · simp at h
      · rename_i off size hpl
        split at h
        · simp at h
        · rename_i hj
          split at h
          · rename_i hcond
            have hcv := cells_VRs hv hj
            have hlen : v'.cells.size = (cellsV v).length := by have := hcv.length; simpa using this
            have hcl : ca.size = cs.length := by have := hc.length; simpa using this
            simp only [Instr.fill, hp _ _ hpl]
            rw [if_neg (by simp [hlen, hcl]; omega)]
            refine ih h ?_ (by simpa using hl) (fun j i v hj => by simpa using hx (j + 1) i v (by simpa using hj))
            have hs := foldl_set off v'.cells.toList 0 ca (by simp [hlen, hcl]; omega)
            have e1 : (v'.cells.zipIdx.foldl (fun (cs : Array Value) (x : Value × Nat) => cs.setIfInBounds (off + x.2) x.1) ca) =
                ((v'.cells.toList.zipIdx 0).foldl (fun (cs : Array Value) (x : Value × Nat) => cs.setIfInBounds (off + x.2) x.1) ca) := by
              rw [← Array.foldl_toList, Array.toList_zipIdx]
            rw [show (Array.foldl (fun (cs : Array Value) (x : Value × Nat) => match x with | (c, j) => cs.setIfInBounds (off + j) c) ca v'.cells.zipIdx) = _ from e1, hs]
            have := spl_VRs hc hcv off
            simpa using this
          · simp at h

theorem run_places {fs : Array Field} (h : ∀ f ∈ fs, ∃ i, P.info? f.type = some i) (w : World) :
    (fs.mapM fun (f : Field) => (do pure (f.offset, ← sizeOf f.type) : Sem (Nat × Nat))).run P w = .ok (fs.map fun f => (f.offset, P.cellsOf f.type)) w := by
  have key : ∀ l : List Field, (∀ f ∈ l, ∃ i, P.info? f.type = some i) →
      (l.mapM fun (f : Field) => (do pure (f.offset, ← sizeOf f.type) : Sem (Nat × Nat))).run P w = .ok (l.map fun f => (f.offset, P.cellsOf f.type)) w := by
    intro l
    induction l with
    | nil => intro _; simp
    | cons f l ih =>
      intro h
      have ih := ih (fun g hg => h g (by simp [hg]))
      obtain ⟨i, hi⟩ := h f (by simp)
      rw [List.mapM_cons, Sem.run_bind, Sem.run_bind, run_size hi]
      simp only [Result.andThen_ok, Sem.run_pure, Sem.run_bind, ih, List.map_cons, Program.cellsOf, hi, Option.map_some, Option.getD_some]
  have := key fs.toList (fun f hf => h f (by simpa using hf))
  rw [Array.mapM_eq_mapM_toList, Sem.run_map, this]
  simp only [Result.andThen_ok]
  congr 1
  apply Array.ext'
  simp

theorem info_of_ty (hty : TyEnv P ty) {t : TypeId} (h : (ty t).isSome = true) : ∃ i, P.info? t = some i := by
  cases ht : ty t with
  | none => simp [ht] at h
  | some ti => obtain ⟨i, d, z, hi, _⟩ := ty_info hty ht; exact ⟨i, hi⟩

theorem zero_cells (ρ : Ren) (z : Value) : VRs ρ (cellsV (ofV z)) z.cells.toList := by
  unfold ofV
  split
  · exact map_VRs ρ _ (ofV0_VR ρ) _
  · exact .cons (.tuple (map_VRs ρ _ (ofV0_VR ρ) _)) .nil
  · exact .cons (.iface _ (ofV0_VR ρ _)) .nil
  · rename_i h1 h2 h3
    have hc : z.cells = #[z] := by cases z <;> first | rfl | exact (h1 _ rfl).elim
    have hv : cellsV (ofV0 z) = [ofV0 z] := by unfold ofV0; split <;> rfl
    rw [hc, hv]
    exact .cons (ofV0_VR ρ z) .nil

theorem buildV_ok (hty : TyEnv P ty) {t : TypeId} {ti : TI} (ht : ty t = some ti) {parts : List (Nat × V)} {parts' : Array (Nat × Value)} {v : V}
    (h : buildV ti ty parts = some v) (hl : parts'.size = parts.length)
    (hx : ∀ (j i : Nat) (v : V), parts[j]? = some (i, v) → ∃ v', parts'[j]? = some (i, v') ∧ VR ρ v v') :
    ∃ v', VR ρ v v' ∧ ∀ w, (Instr.build t parts').run P w = .ok v' w := by
  obtain ⟨i, d, z, hi, hd, hz, hk, hsz, hby, hzz⟩ := ty_info hty ht
  have hzr := zero_cells ρ z
  have hl' : parts'.toList.length = parts.length := by simpa using hl
  have hx' : ∀ (j i : Nat) (v : V), parts[j]? = some (i, v) → ∃ v', parts'.toList[j]? = some (i, v') ∧ VR ρ v v' := fun j i v hj => by simpa using hx j i v hj
  unfold buildV at h
  rw [← hk] at h
  split at h
  · rename_i fs hfs
    obtain ⟨g, rfl, rfl⟩ := kdOf_struct hfs
    split at h
    · rename_i hall
      split at h
      · rename_i cs hfill
        cases h
        rw [hzz] at hfill
        have hfi : ∀ f ∈ g, ∃ i, P.info? f.type = some i := fun f hf => by
          have := List.all_eq_true.1 hall (f.offset, f.type) (List.mem_map.2 ⟨f, by simpa using hf, rfl⟩)
          exact info_of_ty hty this
        have hplace : ∀ j x, placeS (g.toList.map fun f => (f.offset, f.type)) ty j = some x → (g.map fun f => (f.offset, P.cellsOf f.type))[j]? = some x := by
          intro j x hj
          unfold placeS at hj
          cases hg : g[j]? with
          | none => simp [hg] at hj
          | some f =>
            simp [hg] at hj
            split at hj
            · rename_i ti' hti
              cases hj
              obtain ⟨i', d', z', hi', _, _, _, hsz', _⟩ := ty_info hty hti
              simp [hg, Program.cellsOf, hi', hsz']
            · simp at hj
        obtain ⟨ca1, hf1, hv1⟩ := fill_ok (place' := fun j => (g.map fun f => (f.offset, P.cellsOf f.type))[j]?) hplace hfill hzr hl' hx'
        refine ⟨_, .agg hv1, fun w => ?_⟩
        simp only [Instr.build, Sem.run_bind, run_zero hi hz, Result.andThen_ok, run_under hd, run_places hfi, hf1, Sem.run_pure]
      · simp at h
    · simp at h
  · rename_i n e hfs
    obtain rfl := kdOf_arr hfs
    split at h
    · rename_i ei hei
      obtain ⟨i', d', z', hi', _, _, _, hsz', _⟩ := ty_info hty hei
      split at h
      · rename_i cs hfill
        cases h
        rw [hzz, hsz'] at hfill
        obtain ⟨ca1, hf1, hv1⟩ := fill_ok (place' := fun j => some (j * i'.size, i'.size)) (fun _ _ h => h) hfill hzr hl' hx'
        refine ⟨_, .agg hv1, fun w => ?_⟩
        simp only [Instr.build, Sem.run_bind, run_zero hi hz, Result.andThen_ok, run_under hd, run_size hi', hf1, Sem.run_pure]
      · simp at h
    · simp at h
  · simp at h
end
end Go.Rx
end
section
/- Soundness of the operations that neither read nor write memory: all of them. -/
namespace Go.Rx
open Go

section
variable {P : Program} {ty : TypeId → Option TI} {ρ : Ren}

inductive OptR (ρ : Ren) : Option V → Option Value → Prop
  | none : OptR ρ none none
  | some {v : V} {v' : Value} (h : VR ρ v v') : OptR ρ (some v) (some v')

theorem run_bound {x : V} {most dflt n y : Nat} (h : boundV (some x) most dflt = some n) {x' : Value} (hx : VR ρ x x') (hy : most ≤ y) (code : BoundsCode) (w : World) :
    (Instr.sliceBound x' y code).run P w = .ok n w ∧ n ≤ most := by
  unfold boundV at h
  split at h
  · rename_i heq; cases heq
  · rename_i k i heq
    cases heq
    cases hx
    split at h
    · rename_i hb
      cases h
      exact ⟨run_sliceBound w k i y code (by omega) (by omega), by omega⟩
    · simp at h
  · simp at h

theorem run_bounds {c len : Nat} {lo hi mx : Option V} {l h m : Nat} (hb : bounds3 c len lo hi mx = some (l, h, m)) {lo' hi' mx' : Option Value}
    (hlo : OptR ρ lo lo') (hhi : OptR ρ hi hi') (hmx : OptR ρ mx mx') {c' : Nat} (hc : c ≤ c') (isSlice : Bool) (w : World) :
    (Instr.sliceBounds isSlice len c' lo' hi' mx').run P w = .ok (l, h, match mx with | none => c' | some _ => m) w ∧
      (lo ≠ none → l ≤ h) ∧ m ≤ c ∧ (mx = none → m = c) ∧ (hi = none → h = len ∧ mx = none) ∧ (hi ≠ none → h ≤ m) ∧ (lo = none → l = 0) := by
  unfold bounds3 at hb
  split at hb
  · simp at hb
  · rename_i hn
    obtain ⟨m1, hm1, hb⟩ := Option.bind_eq_some_iff.1 hb
    obtain ⟨h1, hh1, hb⟩ := Option.bind_eq_some_iff.1 hb
    obtain ⟨l1, hl1, hb⟩ := Option.bind_eq_some_iff.1 hb
    cases hb
    have lowP : ∀ code, (match lo' with | some v => Instr.sliceBound v h code | none => pure 0).run P w = .ok l w ∧ (lo ≠ none → l ≤ h) ∧ (lo = none → l = 0) := by
      intro code
      cases hlo with
      | none => simp only [boundV] at hl1; cases hl1; exact ⟨rfl, fun e => absurd rfl e, fun _ => rfl⟩
      | some hlo => obtain ⟨hr, hle⟩ := run_bound (P := P) hl1 hlo (Nat.le_refl _) code w; exact ⟨hr, fun _ => hle, fun e => (by simp at e)⟩
    cases hmx with
    | none =>
      simp only [boundV] at hm1
      cases hm1
      cases hhi with
      | none =>
        simp only [boundV] at hh1
        cases hh1
        have := lowP .sliceB
        refine ⟨?_, this.2.1, Nat.le_refl _, fun _ => rfl, fun _ => ⟨rfl, rfl⟩, fun e => absurd rfl e, this.2.2⟩
        simp only [Instr.sliceBounds, Sem.run_bind, Sem.run_pure, Result.andThen_ok, Option.isSome_none, Bool.false_eq_true, if_false]
        cases lo' <;> simp_all
      | some hhi =>
        obtain ⟨hr, hle⟩ := run_bound (P := P) hh1 hhi (y := c') (by omega) (if isSlice then .sliceAcap else .sliceAlen) w
        have := lowP .sliceB
        refine ⟨?_, this.2.1, Nat.le_refl _, fun _ => rfl, fun e => (by simp at e), fun _ => hle, this.2.2⟩
        simp only [Instr.sliceBounds, Sem.run_bind, Sem.run_pure, Result.andThen_ok, hr, Option.isSome_none, Bool.false_eq_true, if_false]
        cases lo' <;> simp_all
    | some hmx =>
      cases hhi with
      | none => simp at hn
      | some hhi =>
        obtain ⟨hr0, hle0⟩ := run_bound (P := P) hm1 hmx (y := c') (by omega) (if isSlice then .slice3Acap else .slice3Alen) w
        obtain ⟨hr, hle⟩ := run_bound (P := P) hh1 hhi (Nat.le_refl _) .slice3B w
        have := lowP .slice3C
        refine ⟨?_, this.2.1, hle0, fun e => (by simp at e), fun e => (by simp at e), fun _ => hle, this.2.2⟩
        simp only [Instr.sliceBounds, Sem.run_bind, Sem.run_pure, Result.andThen_ok, hr, hr0, Option.isSome_some, if_true]
        cases lo' <;> simp_all

theorem add_mk (b o n : Nat) : Addr.add ⟨b, o, none⟩ n = ⟨b, o + n, none⟩ := Addr.add_lit b o n

theorem sliceArr_ok (hty : TyEnv P ty) {t e : TypeId} {n : Nat} {ti : TI} (hk : kd ty t = some (.arr n e)) (he : ty e = some ti) {x v : V} {lo hi mx : Option V}
    (h : sliceArr n ti.size x lo hi mx = some v) {x' : Value} (hx : VR ρ x x') {lo' hi' mx' : Option Value} (hlo : OptR ρ lo lo') (hhi : OptR ρ hi hi') (hmx : OptR ρ mx mx') :
    Yes P ρ v (Instr.sliceAt t x' lo' hi' mx') := by
  obtain ⟨d, hd, hdk⟩ := kd_under hty hk
  obtain rfl := kdOf_arr hdk
  obtain ⟨i, d', z, hinf, hd', _, _, hsz, _⟩ := ty_info hty he
  unfold sliceArr at h
  split at h
  · rename_i a
    cases hx with
    | ptr hb =>
    rename_i b b' o
    split at h
    · rename_i l h1 m hbb
      cases h
      have hbn : ∀ w, (Instr.sliceBounds false n n lo' hi' mx').run P w = .ok (l, h1, m) w ∧ True := fun w => by
        have := run_bounds (P := P) hbb hlo hhi hmx (Nat.le_refl _) false w
        refine ⟨?_, trivial⟩
        rw [this.1]
        cases mx with
        | none => simp [this.2.2.2.1 rfl]
        | some _ => rfl
      refine ⟨.slice (some (if m = l then ⟨b', o, none⟩ else Addr.add ⟨b', o, none⟩ (l * ti.size))) (h1 - l) (m - l), ?_, fun w => ?_⟩
      · by_cases hml : m = l
        · simp only [hml, if_true]; exact .slice hb (fun _ => ⟨rfl, rfl⟩) (fun e => by cases e)
        · simp only [hml, if_false, add_mk, add]; exact .slice hb (fun _ => ⟨rfl, rfl⟩) (fun e => by cases e)
      · simp only [Instr.sliceAt, Sem.run_bind, run_under hd, Result.andThen_ok, Instr.sureAddr, Sem.run_pure, (hbn w).1, run_size hinf, hsz]
    · simp at h
  · simp at h

theorem sliceSl_ok (hty : TyEnv P ty) {t e : TypeId} {ti : TI} (hk : kd ty t = some (.slice e)) (he : ty e = some ti) {x v : V} {lo hi mx : Option V}
    (h : sliceSl ti.size x lo hi mx = some v) {x' : Value} (hx : VR ρ x x') {lo' hi' mx' : Option Value} (hlo : OptR ρ lo lo') (hhi : OptR ρ hi hi') (hmx : OptR ρ mx mx') :
    Yes P ρ v (Instr.sliceAt t x' lo' hi' mx') := by
  obtain ⟨d, hd, hdk⟩ := kd_under hty hk
  obtain rfl := kdOf_slice hdk
  obtain ⟨i, d', z, hinf, hd', _, _, hsz, _⟩ := ty_info hty he
  have hrun : ∀ (a : Option Addr) (len c' l h1 m : Nat) (w : World), (Instr.sliceBounds true len c' lo' hi' mx').run P w = .ok (l, h1, m) w →
      (Instr.sliceAt t (.slice a len c') lo' hi' mx').run P w = .ok (.slice (if m = l then a else a.map (·.add (l * ti.size))) (h1 - l) (m - l)) w := by
    intro a len c' l h1 m w hb
    simp only [Instr.sliceAt, Instr.slice, Sem.run_bind, run_under hd, Result.andThen_ok, hb, run_size hinf, Sem.run_pure, hsz]
  unfold sliceSl at h
  split at h
  · rename_i ex
    cases hx
    split at h
    · rename_i x hbb
      obtain ⟨l, h1, m⟩ := x
      cases h
      refine ⟨.slice none 0 0, .nilslice _, fun w => ?_⟩
      have := run_bounds (P := P) hbb hlo hhi hmx (Nat.le_refl 0) true w
      have e1 := this.2.2.1
      have hm0 : m = 0 := by omega
      have hh0 : h1 = 0 := by
        by_cases e : hi = none
        · exact (this.2.2.2.2.1 e).1
        · have := this.2.2.2.2.2.1 e; omega
      have hl0 : l = 0 := by
        by_cases e : lo = none
        · exact this.2.2.2.2.2.2 e
        · have := this.2.1 e; omega
      subst hm0 hh0 hl0
      have hb2 : (Instr.sliceBounds true 0 0 lo' hi' mx').run P w = .ok (0, 0, 0) w := by
        rw [this.1]; cases mx <;> rfl
      rw [hrun none 0 0 0 0 0 w hb2]
      simp
    · simp at h
  · cases hx
    rename_i a
    split at h
    · rename_i x hbb
      obtain ⟨l, h1, m⟩ := x
      cases h
      refine ⟨.slice (some a) 0 0, .hollow _, fun w => ?_⟩
      have := run_bounds (P := P) hbb hlo hhi hmx (Nat.le_refl 0) true w
      have e1 := this.2.2.1
      have hm0 : m = 0 := by omega
      have hh0 : h1 = 0 := by
        by_cases e : hi = none
        · exact (this.2.2.2.2.1 e).1
        · have := this.2.2.2.2.2.1 e; omega
      have hl0 : l = 0 := by
        by_cases e : lo = none
        · exact this.2.2.2.2.2.2 e
        · have := this.2.1 e; omega
      subst hm0 hh0 hl0
      have hb2 : (Instr.sliceBounds true 0 0 lo' hi' mx').run P w = .ok (0, 0, 0) w := by
        rw [this.1]; cases mx <;> rfl
      rw [hrun (some a) 0 0 0 0 0 w hb2]
      simp
    · simp at h
  · rename_i a len c ex
    cases hx with
    | slice hb hex hin =>
    rename_i b b' o o' c'
    split at h
    · rename_i l h1 m hbb
      by_cases hexe : ex = true
      · rw [if_pos hexe] at h
        cases h
        obtain ⟨rfl, rfl⟩ := hex hexe
        refine ⟨.slice (some (if m = l then ⟨b', o', none⟩ else Addr.add ⟨b', o', none⟩ (l * ti.size))) (h1 - l) (m - l), ?_, fun w => ?_⟩
        · by_cases hml : m = l
          · simp only [hml, if_true]; exact .slice hb (fun _ => ⟨rfl, rfl⟩) (fun e => by cases e)
          · simp only [hml, if_false, add_mk, add]; exact .slice hb (fun _ => ⟨rfl, rfl⟩) (fun e => by cases e)
        · have := run_bounds (P := P) hbb hlo hhi hmx (Nat.le_refl c') true w
          have hb2 : (Instr.sliceBounds true len c' lo' hi' mx').run P w = .ok (l, h1, m) w := by
            rw [this.1]
            cases mx with
            | none => simp [this.2.2.2.1 rfl]
            | some _ => rfl
          rw [hrun _ _ _ _ _ _ w hb2]
          by_cases hml : m = l <;> simp [hml]
      · have hexf : ex = false := by simpa using hexe
        rw [if_neg hexe] at h
        obtain ⟨hcc, hoo, k, κ, hbk, hρ, hκ⟩ := hin hexf
        split at h
        · rename_i hsc
          split at h
          · rename_i hcond
            obtain ⟨hs0, hmn, hlen⟩ := hcond
            have hc0 : c = 0 := hsc.resolve_left hs0
            cases h
            have hmn' : mx = none := by cases mx with | none => rfl | some _ => simp at hmn
            subst hmn' hlen hc0
            have hb0 := run_bounds (P := P) hbb hlo hhi hmx hcc true default
            have hm0 := hb0.2.2.2.1 rfl
            have hh : h1 = 0 := by
              by_cases e : hi = none
              · exact (hb0.2.2.2.2.1 e).1
              · have := hb0.2.2.2.2.2.1 e; omega
            have hl : l = 0 := by
              by_cases e : lo = none
              · exact hb0.2.2.2.2.2.2 e
              · have := hb0.2.1 e; omega
            subst hh hl
            refine ⟨.slice (some ⟨b', o', none⟩) 0 c', .slice hb (fun e => by cases e) (fun _ => ⟨Nat.zero_le _, fun e => absurd rfl e, k, κ, hbk, hρ, fun _ e => absurd rfl e⟩), fun w => ?_⟩
            have := run_bounds (P := P) hbb hlo hhi hmx hcc true w
            rw [hrun _ _ _ _ _ _ w this.1]
            simp [add_mk]
          · simp at h
        · rename_i hsc
          have hs0 : ti.size ≠ 0 := fun e => hsc (.inl e)
          have hc0 : c ≠ 0 := fun e => hsc (.inr e)
          have ho := hoo hc0
          subst ho
          split at h
          · -- three indexes
            rename_i mv
            cases h
            refine ⟨.slice (some (if m = l then ⟨b', o', none⟩ else Addr.add ⟨b', o', none⟩ (l * ti.size))) (h1 - l) (m - l), ?_, fun w => ?_⟩
            · by_cases hml : m = l
              · simp only [hml, if_true]; exact .slice hb (fun _ => ⟨rfl, rfl⟩) (fun e => by cases e)
              · simp only [hml, if_false, add_mk, add]; exact .slice hb (fun _ => ⟨rfl, rfl⟩) (fun e => by cases e)
            · have := run_bounds (P := P) hbb hlo hhi hmx hcc true w
              rw [hrun _ _ _ _ _ _ w this.1]
              by_cases hml : m = l <;> simp [hml]
          · -- two indexes
            split at h
            · rename_i hlc
              cases h
              have hb0 := run_bounds (P := P) hbb hlo hhi hmx hcc true default
              have hmc := hb0.2.2.2.1 rfl
              subst hmc
              have hh : h1 ≤ m := by
                by_cases e : hi = none
                · have := (hb0.2.2.2.2.1 e).1; omega
                · exact hb0.2.2.2.2.2.1 e
              have hl : l ≤ h1 ∨ l = 0 := by
                by_cases e : lo = none
                · exact .inr (hb0.2.2.2.2.2.2 e)
                · exact .inl (hb0.2.1 e)
              refine ⟨.slice (if c' = l then some ⟨b', o', none⟩ else some (Addr.add ⟨b', o', none⟩ (l * ti.size))) (h1 - l) (c' - l), ?_, fun w => ?_⟩
              · by_cases hml : m = l
                · -- nothing is left
                  simp only [hml, if_true, Nat.sub_self]
                  have hz : ∀ (off : Nat), VR ρ (.slice (some ⟨b, o'⟩) (h1 - l) 0 false) (.slice (some ⟨b', off, none⟩) (h1 - l) (c' - l)) := fun off =>
                    .slice hb (fun e => by cases e) (fun _ => ⟨by omega, fun e => absurd rfl e, k, κ, hbk, hρ, fun _ e => absurd rfl e⟩)
                  by_cases hcl : c' = l
                  · have := hz o'; simpa [hcl] using this
                  · have := hz (o' + l * ti.size); simp only [hcl, if_false, add_mk]; exact this
                · have hcl : ¬ c' = l := by omega
                  simp only [hml, if_false, hcl, add_mk, add]
                  refine .slice hb (fun e => by cases e) (fun _ => ⟨by omega, fun _ => rfl, k, κ, hbk, hρ, fun e0 _ => ?_⟩)
                  have hl0 : l = 0 := by
                    rcases Nat.eq_zero_or_pos l with e | e
                    · exact e
                    · exfalso
                      have : 0 < l * ti.size := Nat.mul_pos e (by omega)
                      omega
                  subst hl0
                  have := hκ (by omega) hc0
                  omega
              · have := run_bounds (P := P) hbb hlo hhi hmx hcc true w
                rw [hrun _ _ _ _ _ _ w this.1]
                by_cases hcl : c' = l <;> simp [hcl]
            · simp at h
    · simp at h
  · simp at h
end
end Go.Rx
end
section
/- Soundness of the operations that neither read nor write memory: the theorem. -/
namespace Go.Rx
open Go

section
variable {P : Program} {ty : TypeId → Option TI} {ρ : Ren}

theorem OptR.map {ev : Ev} {ev' : Operand → Value} (hev : ∀ x, VR ρ (ev x) (ev' x)) (o : Option Operand) : OptR ρ (o.map ev) (o.map ev') := by
  cases o with
  | none => exact .none
  | some x => exact .some (hev x)

theorem VRs.map_ev {ev : Ev} {ev' : Operand → Value} (hev : ∀ x, VR ρ (ev x) (ev' x)) (l : List Operand) : VRs ρ (l.map ev) (l.map ev') := by
  induction l with
  | nil => exact .nil
  | cons x l ih => exact .cons (hev x) ih

theorem sliceStr_ok (hty : TyEnv P ty) {t : TypeId} (hk : kd ty t = some .str) {x v : V} {lo hi : Option V} (h : sliceStr x lo hi = some v) {x' : Value} (hx : VR ρ x x')
    {lo' hi' : Option Value} (hlo : OptR ρ lo lo') (hhi : OptR ρ hi hi') : Yes P ρ v (Instr.sliceAt t x' lo' hi' none) := by
  obtain ⟨d, hd, hdk⟩ := kd_under hty hk
  obtain rfl := kdOf_str hdk
  unfold sliceStr at h
  split at h
  · rename_i s
    cases hx
    split at h
    · rename_i l h1 m hb
      cases h
      refine ⟨_, .str _, fun w => ?_⟩
      have := run_bounds (P := P) hb hlo hhi OptR.none (Nat.le_refl _) false w
      have hr := this.1
      simp only [Instr.sliceAt, Instr.slice, Sem.run_bind, run_under hd, Result.andThen_ok, Option.isSome_none, Bool.false_eq_true, if_false, size_mk, hr, Sem.run_pure]
      congr 2
      apply ByteArray.ext
      rw [ByteArray.data_extract]
      apply Array.ext'
      simp only [Array.toList_extract, List.extract_eq_take_drop, List.drop_take]
    · simp at h
  · simp at h

theorem partV_ok (hty : TyEnv P ty) {t : TypeId} {ti : TI} (ht : ty t = some ti) {cs : List V} {cs' : Array Value} (hc : VRs ρ cs cs'.toList) {off : Nat} {v : V}
    (h : partV (isAggK ti.kind) ti.size cs off = some v) : Yes P ρ v (part t cs' off) := by
  obtain ⟨i, d, z, hi, hd, hz, hk, hsz, _⟩ := ty_info hty ht
  have hagg := run_isAgg hd
  rw [hk] at hagg
  unfold partV at h
  split at h
  · rename_i ha
    cases h
    refine ⟨_, .agg (c' := cs'.extract off (off + ti.size)) ?_, fun w => ?_⟩
    · have := (hc.drop off).take ti.size
      rw [Array.toList_extract, List.extract_eq_take_drop, Nat.add_sub_cancel_left]
      exact this
    · simp only [part, Sem.run_bind, hagg, Result.andThen_ok, ha, if_true, run_size hi, hsz, Sem.run_pure]
  · rename_i ha
    obtain ⟨v', hv', hvr⟩ := hc.get h
    refine ⟨v', hvr, fun w => ?_⟩
    have hv2 : cs'[off]? = some v' := by simpa using hv'
    simp only [part, Sem.run_bind, hagg, Result.andThen_ok, ha, Bool.false_eq_true, if_false, hv2, Sem.run_pure]

theorem fieldPtr_ok (hty : TyEnv P ty) {t : TypeId} {fs : List (Nat × TypeId)} (hk : kd ty t = some (.struct fs)) {x v : V} {f : Nat} (h : fieldPtr fs ty x f = some v)
    {x' : Value} (hx : VR ρ x x') : Yes P ρ v (Instr.fieldAt t x' f) := by
  obtain ⟨d, hd, hdk⟩ := kd_under hty hk
  obtain ⟨g, rfl, rfl⟩ := kdOf_struct hdk
  unfold fieldPtr at h
  split at h
  · rename_i a off u hf
    cases hx with
    | ptr hb =>
    rename_i b b' o
    split at h
    · rename_i ti hti
      split at h
      · simp at h
      · rename_i hs
        cases h
        obtain ⟨i, d', z, hi, _, _, _, hsz, _⟩ := ty_info hty hti
        cases hg : g[f]? with
        | none => simp [hg] at hf
        | some fl =>
          simp [hg] at hf
          obtain ⟨rfl, rfl⟩ := hf
          refine ⟨.pointer (some ⟨b', o + fl.offset, none⟩), .ptr hb, fun w => ?_⟩
          have hs' : ¬ i.size = 0 := by rw [← hsz]; exact hs
          simp only [Instr.fieldAt, Sem.run_bind, run_under hd, Result.andThen_ok, hg, Instr.sureAddr, Sem.run_pure, fieldPlace, run_size hi, Sem.run_ite, if_neg hs', add_mk]
    · simp at h
  · simp at h

theorem fieldV_ok (hty : TyEnv P ty) {t : TypeId} {fs : List (Nat × TypeId)} (hk : kd ty t = some (.struct fs)) {x v : V} {f : Nat} (h : fieldV fs ty x f = some v)
    {x' : Value} (hx : VR ρ x x') : Yes P ρ v (Instr.field t x' f) := by
  obtain ⟨d, hd, hdk⟩ := kd_under hty hk
  obtain ⟨g, rfl, rfl⟩ := kdOf_struct hdk
  unfold fieldV at h
  split at h
  · rename_i cs off u hf
    cases hx with
    | agg hc =>
    split at h
    · rename_i ti hti
      cases hg : g[f]? with
      | none => simp [hg] at hf
      | some fl =>
        simp [hg] at hf
        obtain ⟨rfl, rfl⟩ := hf
        obtain ⟨v', hv, hr⟩ := partV_ok (P := P) hty hti hc h
        refine ⟨v', hv, fun w => ?_⟩
        simp only [Instr.field, Sem.run_bind, run_under hd, Result.andThen_ok, hg, asAgg, Sem.run_pure, hr]
    · simp at h
  · simp at h

theorem elemPtr_slice_ok (hty : TyEnv P ty) {t e : TypeId} {ti : TI} (hk : kd ty t = some (.slice e)) (he : ty e = some ti) {x i v : V} (h : elemPtr none ti.size x i = some v)
    {x' i' : Value} (hx : VR ρ x x') (hi : VR ρ i i') : Yes P ρ v (Instr.indexAt t x' i') := by
  obtain ⟨d, hd, hdk⟩ := kd_under hty hk
  obtain rfl := kdOf_slice hdk
  obtain ⟨inf, d', z, hinf, _, _, _, hsz, _⟩ := ty_info hty he
  unfold elemPtr at h
  split at h
  · rename_i a len cap ex k n heq
    cases hi
    cases hx with
    | slice hb hex hin =>
    rename_i b b' o o' c'
    split at h
    · rename_i hc
      cases h
      have ho : o' = o := by
        rcases hc.2.2 with e | e
        · exact (hex e).1
        · cases ex with
          | true => exact (hex rfl).1
          | false => exact (hin rfl).2.1 e
      subst ho
      refine ⟨.pointer (some ⟨b', o' + n.toNat * ti.size, none⟩), .ptr hb, fun w => ?_⟩
      have hc' : 0 ≤ n ∧ n < (len : Int) := ⟨hc.1, hc.2.1⟩
      simp only [Instr.indexAt, Sem.run_bind, asIntOf, Sem.run_pure, Result.andThen_ok, run_under hd, Sem.run_ite, if_pos hc', run_size hinf, hsz, add_mk]
    · simp at h
  · rename_i heq; cases heq
  · simp at h

theorem elemPtr_arr_ok (hty : TyEnv P ty) {t e : TypeId} {m : Nat} {ti : TI} (hk : kd ty t = some (.arr m e)) (he : ty e = some ti) {x i v : V} (h : elemPtr (some m) ti.size x i = some v)
    {x' i' : Value} (hx : VR ρ x x') (hi : VR ρ i i') : Yes P ρ v (Instr.indexAt t x' i') := by
  obtain ⟨d, hd, hdk⟩ := kd_under hty hk
  obtain rfl := kdOf_arr hdk
  obtain ⟨inf, d', z, hinf, _, _, _, hsz, _⟩ := ty_info hty he
  unfold elemPtr at h
  split at h
  · rename_i heq; cases heq
  · rename_i n a k n heq
    cases heq
    cases hi
    cases hx with
    | ptr hb =>
    rename_i b b' o
    split at h
    · rename_i hc
      cases h
      refine ⟨.pointer (some ⟨b', o + n.toNat * ti.size, none⟩), .ptr hb, fun w => ?_⟩
      simp only [Instr.indexAt, Sem.run_bind, asIntOf, Sem.run_pure, Result.andThen_ok, run_under hd, Instr.sureAddr, Sem.run_ite, if_pos hc, run_size hinf, hsz, add_mk]
    · simp at h
  · simp at h

theorem indexV_ok (hty : TyEnv P ty) {t e : TypeId} {m : Nat} {ti : TI} (hk : kd ty t = some (.arr m e)) (he : ty e = some ti) {x i v : V} (h : indexV (isAggK ti.kind) m ti.size x i = some v)
    {x' i' : Value} (hx : VR ρ x x') (hi : VR ρ i i') : Yes P ρ v (Instr.index t x' i') := by
  obtain ⟨d, hd, hdk⟩ := kd_under hty hk
  obtain rfl := kdOf_arr hdk
  obtain ⟨inf, d', z, hinf, _, _, _, hsz, _⟩ := ty_info hty he
  unfold indexV at h
  split at h
  · rename_i cs k n
    cases hi
    cases hx with
    | agg hcs =>
    split at h
    · rename_i hc
      obtain ⟨v', hv, hr⟩ := partV_ok (P := P) hty he hcs h
      refine ⟨v', hv, fun w => ?_⟩
      simp only [Instr.index, Sem.run_bind, asIntOf, Sem.run_pure, Result.andThen_ok, run_under hd, Sem.run_ite, if_pos hc, run_size hinf, ← hsz, hr]
    · simp at h
  · simp at h

theorem indexS_ok (hty : TyEnv P ty) {t : TypeId} (hk : kd ty t = some .str) {x i v : V} (h : indexS x i = some v) {x' i' : Value} (hx : VR ρ x x') (hi : VR ρ i i') :
    Yes P ρ v (Instr.index t x' i') := by
  obtain ⟨d, hd, hdk⟩ := kd_under hty hk
  obtain rfl := kdOf_str hdk
  unfold indexS at h
  split at h
  · rename_i s k n
    cases hi; cases hx
    split at h
    · rename_i h0
      split at h
      · rename_i b hb
        cases h
        refine ⟨_, .int _ _, fun w => ?_⟩
        have hlt : n.toNat < s.length := (List.getElem?_eq_some_iff.1 hb).1
        have hg : (ByteArray.mk s.toArray)[n.toNat]? = some b := by
          rw [getElem?_pos _ _ (by show n.toNat < (ByteArray.mk s.toArray).size; rw [size_mk]; exact hlt)]
          congr 1
          have := (List.getElem?_eq_some_iff.1 hb).2
          exact this
        simp only [Instr.index, Sem.run_bind, asIntOf, Sem.run_pure, Result.andThen_ok, run_under hd, if_pos h0, hg]
      · simp at h
    · simp at h
  · simp at h

theorem nilV_ok {x v : V} (h : nilV x = some v) {o : Oper} {ev' : Operand → Value} {a : Operand} (ho : o.op = .nilCheck a) (hx : VR ρ x (ev' a)) :
    ∃ v', VR ρ v v' ∧ ∀ w, (execOp ev' o).run P w = .ok (.value v') w := by
  have key : ∀ v', VR ρ v v' → ev' a = v' → (match v' with | .pointer none | .nilIface | .nilFunc | .func (.method _) _ _ => False | _ => True) →
      ∃ v', VR ρ v v' ∧ ∀ w, (execOp ev' o).run P w = .ok (.value v') w := by
    intro v' hv he hh
    refine ⟨v', hv, fun w => ?_⟩
    simp only [execOp, ho, he]
    split <;> first | exact hh.elim | rfl
  unfold nilV at h
  split at h
  · cases h
    generalize hv : ev' a = v' at hx
    cases hx
    exact key _ (.ptr ‹_›) hv trivial
  · cases h
    generalize hv : ev' a = v' at hx
    cases hx
    exact key _ (.iface _ ‹_›) hv trivial
  · cases h
    generalize hv : ev' a = v' at hx
    cases hx
    exact key _ (.func _ ‹_› ‹_›) hv trivial
  all_goals first
    | (simp at h; done)
    | (cases h
       generalize hv : ev' a = v' at hx
       have hx2 := hx
       cases hx <;> exact key _ hx2 hv trivial)

theorem minmax_ok {f : V → V → Option V} {g : Value → Value → Sem Value} (hfg : ∀ x y z x' y', f x y = some z → VR ρ x x' → VR ρ y y' → Yes P ρ z (g x' y')) :
    ∀ {l : List V} {l' : List Value} {x v : V} {x' : Value}, foldV f x l = some v → VR ρ x x' → VRs ρ l l' → Yes P ρ v (l'.foldlM g x') := by
  intro l
  induction l with
  | nil => intro l' x v x' h hx hl; cases hl; cases h; exact Yes.pure hx
  | cons y l ih =>
    intro l' x v x' h hx hl
    cases hl with
    | cons hy ht =>
    simp only [foldV] at h
    split at h
    · rename_i z hz
      obtain ⟨z', hzr, hr⟩ := hfg _ _ _ _ _ hz hx hy
      obtain ⟨v', hv, hr2⟩ := ih h hzr ht
      exact ⟨v', hv, fun w => by rw [List.foldlM_cons, Sem.run_bind, hr w]; exact hr2 w⟩
    · simp at h
end
end Go.Rx
end
section
/- Soundness of the operations that neither read nor write memory: the theorem. -/
namespace Go.Rx
open Go

section
variable {P : Program} {ty : TypeId → Option TI} {ρ : Ren}

theorem yes_v {v : V} {x : Sem Value} (h : Yes P ρ v x) : ∃ v', VR ρ v v' ∧ ∀ w, (do pure (.value (← x)) : Sem Next).run P w = .ok (.value v') w := by
  obtain ⟨v', hv, hr⟩ := h
  exact ⟨v', hv, fun w => by rw [Sem.run_bind, hr w]; rfl⟩

theorem assertV_ok (hty : TyEnv P ty) {t u : TypeId} {ti : TI} (ht : ty t = some ti) {ok : Bool} {x v : V} (h : assertV (some ti.kind) t ti.zero ok x = some v) {x' : Value} (hx : VR ρ x x') :
    Yes P ρ v (Instr.typeAssert x' u t ok) := by
  obtain ⟨i, d, z, hi, hd, hz, hk, hsz, hby, hzz⟩ := ty_info hty ht
  have hzr : VR ρ ti.zero z := by rw [hzz]; exact ofV_VR ρ z
  unfold assertV at h
  split at h
  · simp at h
  · simp at h
  · rename_i k hni hk0
    cases hk0
    have hnd : ∀ ms, d ≠ .interface ms := by
      intro ms e; subst e
      exact hni _ (by rw [← hk]; rfl)
    have hrun : ∀ w (f : TypeDesc → Sem Value), (do f (← underlying t) : Sem Value).run P w = (f d).run P w := fun w f => by rw [Sem.run_bind, run_under hd]; rfl
    split at h
    · cases hx
      split at h
      · cases h
        rename_i hok
        refine ⟨.tuple #[z, .bool false], .tuple (.cons hzr (.cons (.bool _) .nil)), fun w => ?_⟩
        unfold Instr.typeAssert
        rw [Sem.run_bind, run_under hd]
        simp only [Result.andThen_ok]
        cases d <;> first
          | exact (hnd _ rfl).elim
          | simp [hok, run_zero hi hz]
      · simp at h
    · rename_i u' y
      cases hx with
      | iface _ hy =>
      rename_i y'
      split at h
      · rename_i hut
        subst hut
        cases ok with
        | true =>
          simp at h; subst h
          refine ⟨.tuple #[y', .bool true], .tuple (.cons hy (.cons (.bool _) .nil)), fun w => ?_⟩
          unfold Instr.typeAssert
          rw [Sem.run_bind, run_under hd]
          simp only [Result.andThen_ok]
          cases d <;> first
            | exact (hnd _ rfl).elim
            | simp
        | false =>
          simp at h; subst h
          refine ⟨y', hy, fun w => ?_⟩
          unfold Instr.typeAssert
          rw [Sem.run_bind, run_under hd]
          simp only [Result.andThen_ok]
          cases d <;> first
            | exact (hnd _ rfl).elim
            | simp
      · rename_i hut
        split at h
        · rename_i hok
          cases h
          refine ⟨.tuple #[z, .bool false], .tuple (.cons hzr (.cons (.bool _) .nil)), fun w => ?_⟩
          unfold Instr.typeAssert
          rw [Sem.run_bind, run_under hd]
          simp only [Result.andThen_ok]
          cases d <;> first
            | exact (hnd _ rfl).elim
            | simp [hut, hok, run_zero hi hz]
        · simp at h
    · simp at h

theorem lenV_ok (hty : TyEnv P ty) {t ty' : TypeId} {ts : Array TypeId} {k : Option Kd} (hts : ts[0]? = some t) (hk : kd ty t = k) {x v : V} (h : lenV k x = some v) {x' : Value} (hx : VR ρ x x') :
    Yes P ρ v (Builtin.len_ ts ty' #[x']) := by
  unfold lenV at h
  split at h
  · obtain ⟨d, hd, hdk⟩ := kd_under hty hk
    obtain rfl := kdOf_str hdk
    cases hx; cases h
    exact ⟨_, .int _ _, fun w => by simp [Builtin.len_, hts, run_under hd, goInt, size_mk]⟩
  · obtain ⟨d, hd, hdk⟩ := kd_under hty hk
    obtain rfl := kdOf_arr hdk
    cases h
    exact ⟨_, .int _ _, fun w => by simp [Builtin.len_, hts, run_under hd, goInt]⟩
  · obtain ⟨d, hd, hdk⟩ := kd_under hty hk
    obtain rfl := kdOf_slice hdk
    cases h
    cases hx <;> exact ⟨_, .int _ _, fun w => by simp [Builtin.len_, hts, run_under hd, goInt]⟩
  · obtain ⟨d, hd, hdk⟩ := kd_under hty hk
    obtain rfl := kdOf_map hdk
    cases h; cases hx
    exact ⟨_, .int _ _, fun w => by simp [Builtin.len_, hts, run_under hd, goInt]⟩
  · simp at h

theorem pureOp_ok (hty : TyEnv P ty) {o : Oper} {ev : Ev} {ev' : Operand → Value} {v : V} (h : pureOp ty o.op ev = some (some v)) (hev : ∀ x, VR ρ (ev x) (ev' x)) :
    ∃ v', VR ρ v v' ∧ ∀ w, (execOp ev' o).run P w = .ok (.value v') w := by
  obtain ⟨dst, op, type, pos, after, guard⟩ := o
  simp only at h
  cases op <;> simp only [pureOp] at h
  case move x => cases h; exact ⟨_, hev x, fun w => rfl⟩
  case assign x => cases h; exact ⟨_, hev x, fun w => rfl⟩
  case pick c a b =>
    have hc := hev c
    unfold pickV at h
    split at h
    · rename_i e; rw [e] at hc; cases h; generalize hv : ev' c = c' at hc; cases hc
      exact ⟨_, hev a, fun w => by simp [execOp, hv, asBool]⟩
    · rename_i e; rw [e] at hc; cases h; generalize hv : ev' c = c' at hc; cases hc
      exact ⟨_, hev b, fun w => by simp [execOp, hv, asBool]⟩
    · simp at h
  case build t parts =>
    split at h
    · rename_i ti hti
      simp only [Option.some.injEq] at h
      refine yes_v (x := Instr.build t (parts.map fun (i, x) => (i, ev' x))) (buildV_ok hty hti h (by simp) ?_)
      intro j i v hj
      simp at hj
      obtain ⟨a, b, hab, rfl, rfl⟩ := hj
      exact ⟨ev' b, by simp [hab], hev b⟩
    · simp at h
  case nilCheck x =>
    simp only [Option.some.injEq] at h
    exact nilV_ok h rfl (hev x)
  case binOp op t x y t2 =>
    simp only [Option.some.injEq] at h
    obtain ⟨v', hv, hr⟩ := binV_ok (P := P) hty h (hev x) (hev y)
    exact yes_v ⟨v', hv, hr⟩
  case unOp op t x =>
    simp only [Option.some.injEq] at h
    exact yes_v (unV_ok h (hev x))
  case convert a b x =>
    have hx := hev x
    unfold convI at h
    split at h
    · rename_i k q n hkb hex
      rw [hex] at hx
      split at h
      · rename_i hka
        cases h
        obtain ⟨da, hda, hdka⟩ := kd_under hty hka
        obtain ⟨db, hdb, hdkb⟩ := kd_under hty hkb
        obtain rfl := kdOf_int hdkb
        generalize hv : ev' x = x' at hx
        cases hx
        refine yes_v ⟨_, .int _ _, fun w => ?_⟩
        rw [hv]
        simp only [convert, Sem.run_bind, run_under hda, run_under hdb, Result.andThen_ok]
        cases da <;> rfl
      · simp at h
    · rename_i s hkb hex
      rw [hex] at hx
      split at h
      · rename_i hka
        cases h
        obtain ⟨da, hda, hdka⟩ := kd_under hty hka
        obtain ⟨db, hdb, hdkb⟩ := kd_under hty hkb
        obtain rfl := kdOf_str hdkb
        generalize hv : ev' x = x' at hx
        cases hx
        refine yes_v ⟨_, .str _, fun w => ?_⟩
        rw [hv]
        simp only [convert, Sem.run_bind, run_under hda, run_under hdb, Result.andThen_ok]
        cases da <;> rfl
      · simp at h
    · simp at h
  case makeInterface t x =>
    split at h
    · simp at h
    · simp at h
    · rename_i k hni hk
      cases h
      obtain ⟨d, hd, hdk⟩ := kd_under hty hk
      refine yes_v ⟨_, .iface t (hev x), fun w => ?_⟩
      simp only [Instr.makeInterface, Sem.run_bind, run_under hd, Result.andThen_ok]
      cases d <;> first
        | (simp only [kdOf] at hdk; exact (hni _ hdk.symm).elim)
        | rfl
  case makeFunc fn a b =>
    cases h
    exact yes_v ⟨.func fn (a.map ev') (b.map ev'), .func fn (by simpa using VRs.map_ev hev a.toList) (by simpa using VRs.map_ev hev b.toList), fun w => rfl⟩
  case slice t x lo hi mx =>
    split at h
    · rename_i hk
      split at h
      · simp only [Option.some.injEq] at h
        exact yes_v (sliceStr_ok hty hk h (hev x) (.map hev lo) (.map hev hi))
      · simp at h
    · rename_i n e hk
      split at h
      · rename_i i hi
        simp only [Option.some.injEq] at h
        exact yes_v (sliceArr_ok hty hk hi h (hev x) (.map hev lo) (.map hev _) (.map hev mx))
      · simp at h
    · rename_i e hk
      split at h
      · rename_i i hi
        simp only [Option.some.injEq] at h
        exact yes_v (sliceSl_ok hty hk hi h (hev x) (.map hev lo) (.map hev _) (.map hev mx))
      · simp at h
    · simp at h
  case fieldAddr t x f =>
    split at h
    · rename_i fs hk
      simp only [Option.some.injEq] at h
      exact yes_v (fieldPtr_ok hty hk h (hev x))
    · simp at h
  case field t x f =>
    split at h
    · rename_i fs hk
      simp only [Option.some.injEq] at h
      exact yes_v (fieldV_ok hty hk h (hev x))
    · simp at h
  case indexAddr t x i =>
    split at h
    · rename_i e hk
      split at h
      · rename_i j hj
        simp only [Option.some.injEq] at h
        exact yes_v (elemPtr_slice_ok hty hk hj h (hev x) (hev i))
      · simp at h
    · rename_i n e hk
      split at h
      · rename_i j hj
        simp only [Option.some.injEq] at h
        exact yes_v (elemPtr_arr_ok hty hk hj h (hev x) (hev i))
      · simp at h
    · simp at h
  case index t x i =>
    split at h
    · rename_i hk
      simp only [Option.some.injEq] at h
      exact yes_v (indexS_ok hty hk h (hev x) (hev i))
    · rename_i n e hk
      split at h
      · rename_i j hj
        simp only [Option.some.injEq] at h
        exact yes_v (indexV_ok hty hk hj h (hev x) (hev i))
      · simp at h
    · simp at h
  case typeAssert x xt t ok =>
    split at h
    · rename_i ti hti
      simp only [Option.some.injEq] at h
      exact yes_v (assertV_ok hty hti h (hev x))
    · simp at h
  case extract t i =>
    simp only [Option.some.injEq] at h
    have ht := hev t
    unfold extractV at h
    split at h
    · rename_i vs e
      rw [e] at ht
      generalize hv : ev' t = t' at ht
      cases ht with
      | tuple hc =>
      obtain ⟨v', hv', hr⟩ := hc.get h
      refine yes_v ⟨v', hr, fun w => ?_⟩
      have hg : ‹Array Value›[i]? = some v' := by simpa using hv'
      simp [Instr.extract, hv, hg]
    · simp at h
  case call c =>
    obtain ⟨callee, args, argTypes⟩ := c
    cases callee <;> simp only at h <;> try (simp at h; done)
    rename_i b
    split at h
    · rename_i x t ts hargs hts
      have ha : args = #[x] := Array.ext' hargs
      subst ha
      have hts0 : argTypes[0]? = some t := by
        have : argTypes.toList[0]? = some t := by rw [hts]; rfl
        simpa using this
      have fin : ∀ k, kd ty t = k → some (lenV k (ev x)) = some (some v) → ∃ v', VR ρ v v' ∧ ∀ w, (execOp ev' ⟨dst, .call ⟨.builtin .len, #[x], argTypes⟩, type, pos, after, guard⟩).run P w = .ok (.value v') w := by
        intro k hk h
        simp only [Option.some.injEq] at h
        obtain ⟨v', hv, hr⟩ := lenV_ok (P := P) (ty' := type) hty hts0 hk h (hev x)
        refine ⟨v', hv, fun w => ?_⟩
        simp [execOp, resolve, invoke, builtin, hr]
      split at h
      · rename_i q e hk
        split at h
        · rename_i hm
          simp only [Option.some.injEq] at h
          exact fin _ hk (by rw [hm]; simp [lenV]; exact h)
        · simp at h
      · exact fin _ rfl h
    · rename_i ts x r hargs
      have ha : args = (x :: r).toArray := Array.ext' hargs
      simp only [Option.some.injEq] at h
      obtain ⟨v', hv, hr⟩ := minmax_ok (P := P) (g := Builtin.min2) (f := min2V) (fun x y z x' y' hz hx hy => by
        unfold min2V at hz
        split at hz
        · cases hx; cases hy; cases hz; exact Yes.pure (.int _ _)
        · simp at hz) h (hev x) (VRs.map_ev hev r)
      refine ⟨v', hv, fun w => ?_⟩
      subst ha
      simp [execOp, resolve, invoke, builtin, Builtin.min_]
      rw [← List.foldlM_map]
      rw [List.map_id', hr w]; rfl
    · rename_i ts x r hargs
      have ha : args = (x :: r).toArray := Array.ext' hargs
      simp only [Option.some.injEq] at h
      obtain ⟨v', hv, hr⟩ := minmax_ok (P := P) (g := Builtin.max2) (f := max2V) (fun x y z x' y' hz hx hy => by
        unfold max2V at hz
        split at hz
        · cases hx; cases hy; cases hz; exact Yes.pure (.int _ _)
        · simp at hz) h (hev x) (VRs.map_ev hev r)
      refine ⟨v', hv, fun w => ?_⟩
      subst ha
      simp [execOp, resolve, invoke, builtin, Builtin.max_]
      rw [← List.foldlM_map]
      rw [List.map_id', hr w]; rfl
    · simp at h
  all_goals simp at h
end
end Go.Rx
end
