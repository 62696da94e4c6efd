/- A part of the proofs of the Vote laws: the evaluator and its operations on memory and maps, each sound against the model. -/
import Derived.Test.YtlmjmjpohjdogaaGreatDoorRxA
set_option linter.unusedVariables false
set_option linter.unusedSimpArgs false
section
/- The abstract side: regions, code, functions. -/
namespace Go.Rx

inductive Ex where
  | nrm
  | exit (id : Nat)
  | ret
  deriving DecidableEq

abbrev Tm := List V
abbrev KX := Ex → Tm → AS → Prop

/-- Temporaries while code runs: how many, and what each is. -/
structure TF where
  nt : Nat
  f : Nat → V
def TF.getD (tm : TF) (i : Nat) (d : V) : V := match Nat.blt i tm.nt with | true => tm.f i | false => d
def TF.set (tm : TF) (d : Nat) (v : V) : TF := ⟨tm.nt, fun i => match Nat.beq i d with | true => v | false => tm.f i⟩
def TF.ofL (nt : Nat) (l : Tm) : TF := ⟨nt, fun i => l.getD i .junk⟩
abbrev KF := Ex → TF → AS → Prop

theorem TF.blt_t {i n : Nat} (h : i < n) : Nat.blt i n = true := by rw [Nat.blt_eq]; exact h
theorem TF.blt_f {i n : Nat} (h : ¬ i < n) : Nat.blt i n = false := by
  cases hb : Nat.blt i n with
  | false => rfl
  | true => rw [Nat.blt_eq] at hb; exact absurd hb h
theorem TF.getD_in {tm : TF} {i : Nat} (h : i < tm.nt) (d : V) : tm.getD i d = tm.f i := by unfold TF.getD; rw [TF.blt_t h]
theorem TF.getD_out {tm : TF} {i : Nat} (h : ¬ i < tm.nt) (d : V) : tm.getD i d = d := by unfold TF.getD; rw [TF.blt_f h]
theorem TF.set_nt (tm : TF) (d : Nat) (v : V) : (tm.set d v).nt = tm.nt := rfl
theorem TF.set_f (tm : TF) (d i : Nat) (v : V) : (tm.set d v).f i = if i = d then v else tm.f i := by
  show (match Nat.beq i d with | true => v | false => tm.f i) = _
  cases h : Nat.beq i d with
  | true => rw [Nat.beq_eq] at h; rw [if_pos h]
  | false => rw [if_neg]; intro e; rw [show Nat.beq i d = true by rw [Nat.beq_eq]; exact e] at h; cases h
theorem TF.getD_set_eq {tm : TF} {d : Nat} {v : V} (h : d < tm.nt) (x : V) : (tm.set d v).getD d x = v := by
  rw [TF.getD_in (by rw [TF.set_nt]; exact h), TF.set_f, if_pos rfl]
theorem TF.getD_set_ne {tm : TF} {d i : Nat} {v : V} (h : d ≠ i) (x : V) : (tm.set d v).getD i x = tm.getD i x := by
  by_cases hi : i < tm.nt
  · rw [TF.getD_in (by rw [TF.set_nt]; exact hi), TF.getD_in hi, TF.set_f, if_neg (fun e => h e.symm)]
  · rw [TF.getD_out (by rw [TF.set_nt]; exact hi), TF.getD_out hi]
theorem TF.ext' {a b : TF} (h1 : a.nt = b.nt) (h2 : ∀ i, a.f i = b.f i) : a = b := by
  cases a; cases b
  simp only at h1
  subst h1
  congr 1
  exact funext h2
theorem TF.set_comm (tm : TF) {d e : Nat} (v u : V) (h : d ≠ e) : (tm.set d v).set e u = (tm.set e u).set d v := by
  refine TF.ext' rfl fun i => ?_
  rw [TF.set_f, TF.set_f, TF.set_f, TF.set_f]
  by_cases h1 : i = e
  · rw [if_pos h1, if_neg (fun h2 => h (h2.symm.trans h1)), if_pos h1]
  · rw [if_neg h1, if_neg h1]
theorem TF.getD_ofL {nt : Nat} (l : Tm) (hl : l.length = nt) (i : Nat) : (TF.ofL nt l).getD i .junk = l.getD i .junk := by
  by_cases hi : i < nt
  · exact TF.getD_in hi _
  · rw [TF.getD_out hi, List.getD_eq_getElem?_getD, List.getElem?_eq_none (by omega)]; rfl

def evO (tm : TF) : Operand → V
  | .tmp t => tm.getD t .junk
  | .const v => ofV v
  | .global g => .ptr (some ⟨.old g, 0⟩)
  | .func f => .func (.func f) [] []

def putT (tm : TF) (d : Option Tmp) (v : V) : TF := match d with | some d => tm.set d v | none => tm

/-- Is an operation wanted? X: yes; Y: no. -/
def evGuard (all : List Oper) (g : Option (Nat × Bool)) (tm : TF) (X Y : TF → Prop) : Prop :=
  match g with
  | none => X tm
  | some (j, want) => match (all[j]?).bind (·.dst) with
    | none => Y tm
    | some d => match tm.getD d .junk with
      | .bool true => match want with | true => X (tm.set d (.bool true)) | false => Y (tm.set d (.bool true))
      | .bool false => match want with | false => X (tm.set d (.bool false)) | true => Y (tm.set d (.bool false))
      | .tuple [] => Y (tm.set d undefV)
      | _ => False

/-- A region in the order of the text. -/
def evOps (E : Env) (all : List Oper) (ops : List Oper) : TF → AS → (TF → AS → Prop) → Prop :=
  List.rec (motive := fun _ => TF → AS → (TF → AS → Prop) → Prop)
    (fun tm s k => k tm s)
    (fun o _ ih tm s k =>
      evGuard all o.guard tm (fun tm => evOp E o.op (evO tm) s (fun v s' => ih (putT tm o.dst v) s' k)) (fun tm => ih (putT tm o.dst undefV) s k))
    ops

/-! ### a region whose order is open -/
def befs (ops : List Oper) : List Nat :=
  ops.foldl (fun acc o => acc ++ [o.after.toList.foldl (fun s e => if Region.binds .any e then Nat.lor (Nat.lor s (2 ^ e.on)) (acc.getD e.on 0) else s) 0]) []

def same0 (a b : V) : Bool :=
  match a, b with
  | .bool x, .bool y => x == y
  | .int k x, .int k' y => decide (k = k') && x == y
  | .str x, .str y => x == y
  | .ptr x, .ptr y => decide (x = y)
  | .slice x n c e, .slice y m d f => decide (x = y) && n == m && c == d && e == f
  | .map x, .map y => decide (x = y)
  | .chan x, .chan y => decide (x = y)
  | .nilFunc, .nilFunc => true
  | .nilIface, .nilIface => true
  | _, _ => false
def all2 (f : V → V → Bool) : List V → List V → Bool
  | [], [] => true
  | a :: r, b :: q => f a b && all2 f r q
  | _, _ => false
def sameV (a b : V) : Bool :=
  match a, b with
  | .agg x, .agg y => all2 same0 x y
  | .iface t x, .iface u y => t == u && same0 x y
  | .func f x c, .func g y d => decide (f = g) && all2 same0 x y && all2 same0 c d
  | a, b => same0 a b

/-- What kind an operation is: 0: it neither reads nor writes memory; 1: it loads; 2: anything else. -/
def opClass (ty : TypeId → Option TI) (o : Op) : Nat :=
  match o with
  | .move _ | .assign _ | .pick _ _ _ | .build _ _ | .nilCheck _ | .binOp _ _ _ _ _ | .unOp _ _ _ | .makeInterface _ _ | .makeFunc _ _ _ | .slice _ _ _ _ _
  | .fieldAddr _ _ _ | .field _ _ _ | .indexAddr _ _ _ | .index _ _ _ | .extract _ _ | .typeAssert _ _ _ _ => 0
  | .load _ _ => 1
  | .convert a b _ => match kd ty a, kd ty b with | some (.int _), some (.int _) => 0 | _, _ => 2
  | .call { callee := .builtin b, args, argTypes } => match b, args.toList, argTypes.toList with
    | .len, [_], t :: _ => match kd ty t with | some .str | some (.arr _ _) | some (.slice _) => 0 | _ => 2
    | .min, _ :: _, _ => 0
    | .max, _ :: _, _ => 0
    | _, _, _ => 2
  | _ => 2

def chkB (b : Bool) (X : Prop) : Prop := match b with | true => X | false => False

structure Ld where
  i : Nat
  ti : TI
  p : V
  v : V
structure Sn where
  i : Nat
  s : AS

/-- What a place holds. -/
def peek (ti : TI) (p : V) (s : AS) : Option V :=
  match p with
  | .ptr (some a) => match isAggK ti.kind with
    | true => match ldN s a ti.size with | some cs => some (.agg cs) | none => none
    | false => ldC s a
  | _ => none
def holds (ti : TI) (p : V) (s : AS) (v : V) : Bool := match peek ti p s with | some u => sameV v u | none => false

def unord (bs : List Nat) (i j : Nat) : Bool := match Nat.blt i j with | true => !((bs.getD j 0).testBit i) | false => !((bs.getD i 0).testBit j)

def chkLds (bs : List Nat) (i : Nat) (s : AS) (L : List Ld) (X : Prop) : Prop :=
  List.rec (motive := fun _ => Prop) X (fun l _ ih => match unord bs l.i i with | true => chkB (holds l.ti l.p s l.v) ih | false => ih) L
def chkSns (bs : List Nat) (i : Nat) (ti : TI) (p v : V) (S : List Sn) (X : Prop) : Prop :=
  List.rec (motive := fun _ => Prop) X (fun l _ ih => match unord bs l.i i with | true => chkB (holds ti p l.s v) ih | false => ih) S

/-- A region whose order is open, in the order of the text: with looks at whether that order matters. -/
def evDraw (E : Env) (all : List Oper) (bs : List Nat) (ops : List (Nat × Oper)) : TF → AS → List Ld → List Sn → (TF → AS → Prop) → Prop :=
  List.rec (motive := fun _ => TF → AS → List Ld → List Sn → (TF → AS → Prop) → Prop)
    (fun tm s _ _ k => k tm s)
    (fun o _ ih tm s L S k =>
      evGuard all o.2.guard tm
        (fun tm => match opClass E.ty o.2.op with
          | 0 => evOp E o.2.op (evO tm) s (fun v s' => ih (putT tm o.2.dst v) s' L S k)
          | 1 => match o.2.op with
            | .load t x => match E.ty t with
              | some ti => ldT ti (evO tm x) s (fun v s' => chkSns bs o.1 ti (evO tm x) v S (ih (putT tm o.2.dst v) s' (⟨o.1, ti, evO tm x, v⟩ :: L) S k))
              | none => False
            | _ => False
          | _ => evOp E o.2.op (evO tm) s (fun v s' => chkLds bs o.1 s' L (ih (putT tm o.2.dst v) s' L (⟨o.1, s⟩ :: S) k)))
        (fun tm => ih (putT tm o.2.dst undefV) s L S k))
    ops

def lookT (all : List Oper) (o : Oper) : List Tmp :=
  (o.op.operands.toList.filterMap fun | .tmp t => some t | _ => none) ++
  (match o.guard with
   | some (g, _) => (match (all[g]?).bind (·.dst) with | some d => [d] | none => [])
   | none => [])
def apartT (all : List Oper) (x y : Oper) : Bool :=
  (match x.dst with
   | some d => !((lookT all y).contains d) && (match y.dst with | some e => d != e | none => true)
   | none => true) &&
  (match y.dst with
   | some d => !((lookT all x).contains d)
   | none => true)
def isSel : Op → Bool | .select _ _ => true | _ => false

/-- An order in which all operations may be done, by a mode's edges. -/
def ordOk (md : Region.Mode) (ops : List Oper) (ord : List Nat) : Bool :=
  (ord.length == ops.length) && (List.range ops.length).all (fun i => ord.contains i) &&
  (List.range ord.length).all fun p => match ops[ord.getD p 0]? with
    | some o => o.after.toList.all fun e => !Region.binds md e || (ord.take p).contains e.on
    | none => false

/-- What may stand unordered, may be exchanged. -/
def pairsOk (ty : TypeId → Option TI) (ops : List Oper) (bs : List Nat) : Bool :=
  (List.range ops.length).all fun j => (List.range j).all fun i =>
    match ops[i]?, ops[j]? with
    | some x, some y => (bs.getD j 0).testBit i || (apartT ops x y && (match opClass ty x.op, opClass ty y.op with | 2, 2 => false | _, _ => true))
    | _, _ => false

def linOrd (md : Region.Mode) (ops : List Oper) : List Nat := Region.linearise md ops.toArray 0

def edgesUp (md : Region.Mode) (ops : List Oper) : Bool :=
  ops.zipIdx.all fun o => o.1.after.toList.all fun e => !Region.binds md e || decide (e.on < o.2)

def regOk (ty : TypeId → Option TI) (ops : List Oper) : Bool :=
  edgesUp .any ops && pairsOk ty ops (befs ops) && !(ops.any fun o => isSel o.op) &&
  (!(Region.departs ops.toArray) || ((edgesUp .text ops || ordOk .text ops (List.range ops.length)) && (edgesUp .gc ops || ordOk .gc ops (linOrd .gc ops))))

/-! ### code -/
/-- So many temporaries that are dead. -/
noncomputable def jk (n : Nat) (l : Tm) : Tm := Nat.rec l (fun _ r => V.junk :: r) n
noncomputable def scrubK (nt : Nat) (tm : TF) (keep : List Nat) : Nat → Tm :=
  List.rec (motive := fun _ => Nat → Tm) (fun i => jk (nt - i) []) (fun k _ ih i => match Nat.blt k i || Nat.ble nt k with | true => ih i | false => jk (k - i) (tm.getD k .junk :: ih (k + 1))) keep
/-- Only these temporaries are kept (by rising numbers). -/
noncomputable def scrub (nt : Nat) (keep : List Nat) (tm : TF) : Tm := scrubK nt tm keep 0
theorem jk_length : ∀ (n : Nat) (l : Tm), (jk n l).length = n + l.length
  | 0, l => (Nat.zero_add _).symm
  | n + 1, l => by
    have := jk_length n l
    show (V.junk :: jk n l).length = _
    rw [List.length_cons, this]; omega
theorem jk_get : ∀ (n : Nat) (l : Tm) (j : Nat), (jk n l).getD j .junk = if j < n then .junk else l.getD (j - n) .junk
  | 0, l, j => by rw [if_neg (Nat.not_lt_zero j)]; rfl
  | n + 1, l, 0 => by rw [if_pos (by omega)]; rfl
  | n + 1, l, j + 1 => by
    have := jk_get n l j
    show (jk n l).getD j .junk = _
    rw [this]
    by_cases h : j < n
    · rw [if_pos h, if_pos (by omega)]
    · rw [if_neg h, if_neg (by omega)]; congr 1; omega
theorem scrubK_length (nt : Nat) (tm : TF) : ∀ (keep : List Nat) (i : Nat), i ≤ nt → (scrubK nt tm keep i).length = nt - i
  | [], i, _ => by show (jk (nt - i) []).length = _; rw [jk_length]; rfl
  | k :: ks, i, hi => by
    show (match Nat.blt k i || Nat.ble nt k with | true => scrubK nt tm ks i | false => jk (k - i) (tm.getD k .junk :: scrubK nt tm ks (k + 1))).length = _
    cases h : (Nat.blt k i || Nat.ble nt k) with
    | true => exact scrubK_length nt tm ks i hi
    | false =>
      have h1 : ¬ k < i := fun hh => by rw [show Nat.blt k i = true by rw [Nat.blt_eq]; exact hh] at h; simp at h
      have h2 : ¬ nt ≤ k := fun hh => by rw [show Nat.ble nt k = true by rw [Nat.ble_eq]; exact hh] at h; simp at h
      show (jk (k - i) (tm.getD k .junk :: scrubK nt tm ks (k + 1))).length = _
      rw [jk_length, List.length_cons, scrubK_length nt tm ks (k + 1) (by omega)]; omega
theorem scrubK_get (nt : Nat) (tm : TF) : ∀ (keep : List Nat) (i j : Nat), (scrubK nt tm keep i).getD j .junk = .junk ∨ (scrubK nt tm keep i).getD j .junk = tm.getD (i + j) .junk
  | [], i, j => by
    left
    show (jk (nt - i) []).getD j .junk = _
    rw [jk_get]; split <;> rfl
  | k :: ks, i, j => by
    show (match Nat.blt k i || Nat.ble nt k with | true => scrubK nt tm ks i | false => jk (k - i) (tm.getD k .junk :: scrubK nt tm ks (k + 1))).getD j .junk = _ ∨ (match Nat.blt k i || Nat.ble nt k with | true => scrubK nt tm ks i | false => jk (k - i) (tm.getD k .junk :: scrubK nt tm ks (k + 1))).getD j .junk = _
    cases h : (Nat.blt k i || Nat.ble nt k) with
    | true => exact scrubK_get nt tm ks i j
    | false =>
      have h1 : ¬ k < i := fun hh => by rw [show Nat.blt k i = true by rw [Nat.blt_eq]; exact hh] at h; simp at h
      show (jk (k - i) (tm.getD k .junk :: scrubK nt tm ks (k + 1))).getD j .junk = _ ∨ (jk (k - i) (tm.getD k .junk :: scrubK nt tm ks (k + 1))).getD j .junk = _
      rw [jk_get]
      by_cases hj : j < k - i
      · left; rw [if_pos hj]
      · rw [if_neg hj]
        obtain ⟨q, hq⟩ : ∃ q, q = j - (k - i) := ⟨_, rfl⟩
        rw [← hq]
        cases q with
        | zero => right; rw [show i + j = k by omega]; rfl
        | succ q =>
          show (scrubK nt tm ks (k + 1)).getD q .junk = _ ∨ (scrubK nt tm ks (k + 1)).getD q .junk = _
          rw [show i + j = k + 1 + q by omega]
          exact scrubK_get nt tm ks (k + 1) q

def firstReg : Code → Nat
  | .region id _ _ => id
  | .seq a _ => firstReg a
  | .block _ b | .loop b | .scope b => firstReg b
  | _ => 0

def loopN (n : Nat) (B : Tm → AS → KX → Prop) : Tm → AS → KX → Prop :=
  Nat.rec (motive := fun _ => Tm → AS → KX → Prop) (fun _ _ _ => False)
    (fun _ ih tm s K => B tm s (fun e tm' s' => match e with | .nrm => ih tm' s' K | e => K e tm' s')) n

/-- How many rounds a loop may have. (Not by its number: so that no comparison counts it down.) -/
noncomputable def LOOPS : Nat := Classical.choose (⟨1099511627776, rfl⟩ : ∃ n : Nat, n = 1099511627776)
theorem LOOPS_eq : LOOPS = 1099511627776 := Classical.choose_spec (⟨1099511627776, rfl⟩ : ∃ n : Nat, n = 1099511627776)

def thenK (next : TF → AS → Prop) (K : KF) : KF := fun e tm s => match e with | .nrm => next tm s | e => K e tm s
def blockK (id : Nat) (K : KF) : KF := fun e tm s => match e with | .exit j => (match j == id with | true => K .nrm tm s | false => K (.exit j) tm s) | e => K e tm s
noncomputable def exitK (nt : Nat) (keep : List Nat) (K : KF) : KX := fun e tm s => match e with
  | .nrm => False
  | .exit j => K (.exit j) (.ofL nt (scrub nt keep (.ofL nt tm))) s
  | .ret => K .ret (.ofL nt (scrub nt keep (.ofL nt tm))) s
noncomputable def bodyK (nt : Nat) (keep kx : List Nat) (K : KX) : KF := fun e tm s => match e with
  | .nrm => K .nrm (scrub nt keep tm) s
  | .exit j => K (.exit j) (scrub nt kx tm) s
  | .ret => K .ret (scrub nt kx tm) s
def keyOf : Operand → Nat | .tmp t => t | _ => 0

def evReg (E : Env) (ops : List Oper) (draw : Bool) (tm : TF) (s : AS) (k : TF → AS → Prop) : Prop :=
  match draw with
  | false => evOps E ops ops tm s k
  | true => chkB (regOk E.ty ops) (evDraw E ops (befs ops) ((List.range ops.length).zip ops) tm s [] [] k)

noncomputable def evC (E : Env) (nt : Nat) (c : Code) : TF → AS → KF → Prop :=
  Code.rec (motive := fun _ => TF → AS → KF → Prop)
    (skip := fun tm s K => K .nrm tm s)
    (region := fun _ ops draw tm s K => evReg E ops.toList draw tm s (K .nrm))
    (seq := fun _ _ ia ib tm s K => ia tm s (thenK (fun tm s => ib tm s K) K))
    (cond := fun c _ _ ia ib tm s K => condV (evO tm c) (ia tm s K) (ib tm s K))
    (block := fun id _ ib tm s K => ib tm s (blockK id K))
    (loop := fun b ib tm s K => loopN LOOPS (fun tm s K => ib (.ofL nt (scrub nt (E.kl (firstReg b)) (.ofL nt tm))) s (bodyK nt (E.kl (firstReg b)) (E.kc (firstReg b)) K)) (scrub nt (E.kl (firstReg b)) tm) s (exitK nt (E.kc (firstReg b)) K))
    (rangeFunc := fun _ _ _ _ _ _ _ _ _ => False)
    (exit := fun id tm s K => K (.exit id) tm s)
    (scope := fun _ ib tm s K => ib tm s K)
    (label := fun _ tm s K => K .nrm tm s)
    (goto := fun _ _ _ _ => False)
    (ret := fun tm s K => K .ret tm s)
    (refuse := fun _ _ _ _ => False)
    c

/-! ### functions -/
def resOne (ty : TypeId → Option TI) (tm : TF) (r : ResultVar) (s : AS) : Option V :=
  match r with
  | .tmp t => some (tm.getD t .junk)
  | .cell a t => match ty t with | some ti => peek ti (tm.getD a .junk) s | none => none
def resAll (ty : TypeId → Option TI) (tm : TF) (s : AS) : List ResultVar → Option (List V)
  | [] => some []
  | r :: rs => match resOne ty tm r s with
    | some v => match resAll ty tm s rs with | some vs => some (v :: vs) | none => none
    | none => none
def resV (vs : List V) : V := match vs with | [v] => v | vs => .tuple vs

def finK (ty : TypeId → Option TI) (rs : List ResultVar) (K : K0) : KF := fun e tm s =>
  match e with
  | .nrm | .ret => match resAll ty tm s rs with | some vs => K (resV vs) s | none => False
  | _ => False

noncomputable def evF (E : Env) (fn : Func) (args : List V) : M := fun s K =>
  match fn.body with
  | some c => evC E (args ++ List.replicate (fn.ntmps - args.length) undefV).length c (.ofL (args ++ List.replicate (fn.ntmps - args.length) undefV).length (args ++ List.replicate (fn.ntmps - args.length) undefV)) s (finK E.ty fn.results.toList K)
  | none => False

end Go.Rx
end
section
/- Soundness of reading and writing memory. -/
namespace Go.Rx
open Go

section
variable {P : Program} {ty : TypeId → Option TI} {w0 : World} {ρ : Ren} {s : AS} {w : World}

/-- A value comes out of a step that may change memory. -/
def GoodV (w0 : World) (ρ : Ren) (K : K0) (r : Result Value) : Prop :=
  ∃ v' w', r = .ok v' w' ∧ ∃ v s' ρ', K v s' ∧ Ext ρ ρ' ∧ Rel w0 ρ' s' w' ∧ VR ρ' v v'
def GoodU (w0 : World) (ρ : Ren) (K : K0) (r : Result Unit) : Prop :=
  ∃ w', r = .ok () w' ∧ ∃ s' ρ', K undefV s' ∧ Ext ρ ρ' ∧ Rel w0 ρ' s' w'

theorem Rel.cells (h : Rel w0 ρ s w) {b : Blk} {b' : Nat} (hb : BR ρ b b') {cs : List V} (hc : cellsAt s b = some cs) :
    ∃ cs' e fr, w.heap[b']? = some (.cells cs' e fr) ∧ cs.length ≤ cs'.size ∧ VRs ρ cs (cs'.toList.take cs.length) := by
  cases b with
  | old b =>
    simp only [cellsAt] at hc
    obtain ⟨cs', e, fr, hw, hv⟩ := h.old b cs hc
    have hbb : b' = b := hb
    subst hbb
    have hlt : b' < w0.heap.size := (Array.getElem?_eq_some_iff.1 hw).1
    have hl := hv.length
    refine ⟨cs', e, fr, by rw [h.frame b' hlt]; exact hw, by simp at hl; omega, ?_⟩
    rw [List.take_of_length_le (by omega)]
    exact hv.mono (fun k b hk => by simp at hk)
  | new k =>
    simp only [cellsAt] at hc
    split at hc
    · rename_i c u hg
      cases hc
      obtain ⟨b1, κ, o', hρ, hw, ho⟩ := h.live k _ hg
      obtain ⟨κ', hρ'⟩ := hb
      rw [hρ] at hρ'; cases hρ'
      cases ho with
      | cells hl hu hf hv => exact ⟨_, _, _, hw, hl, hv⟩
    · simp at hc

theorem cell_of {c : Array Value} {e : TypeId} {fr : Nat × Nat} {b o : Nat} (h : w.heap[b]? = some (.cells c e fr)) : w.cell? ⟨b, o, none⟩ = c[o]? := by
  simp [World.cell?, h]

theorem Rel.ldC (h : Rel w0 ρ s w) {a : Ad} {v : V} (hv : ldC s a = some v) {b' : Nat} (hb : BR ρ a.blk b') : ∃ v', w.cell? ⟨b', a.off, none⟩ = some v' ∧ VR ρ v v' := by
  unfold Rx.ldC at hv
  split at hv
  · rename_i cs hc
    obtain ⟨cs', e, fr, hw, hl, hr⟩ := h.cells hb hc
    obtain ⟨v', hv', hvr⟩ := hr.get hv
    rw [List.getElem?_take] at hv'
    split at hv'
    · exact ⟨v', by rw [cell_of hw]; simpa using hv', hvr⟩
    · simp at hv'
  · simp at hv

theorem Rel.ldN (h : Rel w0 ρ s w) {a : Ad} {n : Nat} {cs : List V} (hv : ldN s a n = some cs) {b' : Nat} (hb : BR ρ a.blk b') :
    cs.length = n ∧ ∃ cs' : List Value, VRs ρ cs cs' ∧ ∀ j v, cs'[j]? = some v → w.cell? ((⟨b', a.off, none⟩ : Addr).add j) = some v := by
  unfold Rx.ldN at hv
  split at hv
  · rename_i c hc
    split at hv
    · rename_i hle
      cases hv
      obtain ⟨cs', e, fr, hw, hl, hr⟩ := h.cells hb hc
      refine ⟨by simp; omega, _, (hr.drop a.off).take n, fun j v hj => ?_⟩
      rw [add_mk, cell_of hw]
      have hj2 : j < n ∧ a.off + j < c.length := by
        have := (List.getElem?_eq_some_iff.1 hj).1
        simp at this; omega
      rw [List.getElem?_take, if_pos hj2.1, List.getElem?_drop, List.getElem?_take, if_pos hj2.2] at hj
      simpa using hj
    · simp at hv
  · simp at hv

theorem run_loadN (h : Rel w0 ρ s w) {a : Ad} {n : Nat} {cs : List V} (hv : ldN s a n = some cs) {b' : Nat} (hb : BR ρ a.blk b') :
    ∃ cs' : List Value, VRs ρ cs cs' ∧ (loadCells ⟨b', a.off, none⟩ n).run P w = .ok cs'.toArray w := by
  obtain ⟨hl, cs', hr, hc⟩ := h.ldN hv hb
  refine ⟨cs', hr, ?_⟩
  have := run_loadCells_list (P := P) w ⟨b', a.off, none⟩ cs' hc
  rwa [hr.length, hl] at this

/-- What a place holds: as the model reads it. -/
theorem peek_ok (hty : TyEnv P ty) (h : Rel w0 ρ s w) {t : TypeId} {ti : TI} (ht : ty t = some ti) {p v : V} (hp : peek ti p s = some v) {p' : Value} (hpr : VR ρ p p') :
    ∃ a v', p' = .pointer (some a) ∧ VR ρ v v' ∧ (loadVar t a).run P w = .ok v' w := by
  obtain ⟨i, d, z, hi, hd, hz, hk, hsz, _⟩ := ty_info hty ht
  have hagg := run_isAgg hd
  rw [hk] at hagg
  unfold peek at hp
  split at hp
  · rename_i a
    cases hpr with
    | ptr hb =>
    rename_i b b' o
    split at hp
    · rename_i ha
      split at hp
      · rename_i cs hcs
        cases hp
        obtain ⟨cs', hr, hrun⟩ := run_loadN (P := P) h hcs hb
        refine ⟨_, .agg cs'.toArray, rfl, .agg (by simpa using hr), ?_⟩
        rw [loadVar, Sem.run_bind, hagg w]
        simp only [Result.andThen_ok, ha, if_true, Sem.run_bind, run_size hi, ← hsz, hrun, Sem.run_pure]
      · simp at hp
    · rename_i ha
      obtain ⟨v', hv', hvr⟩ := h.ldC hp hb
      refine ⟨_, v', rfl, hvr, ?_⟩
      rw [loadVar, Sem.run_bind, hagg w]
      simp only [Result.andThen_ok, ha, Bool.false_eq_true, if_false, run_load, hv']
  · simp at hp

theorem ldT_peek {ti : TI} {p : V} {K : K0} : ldT ti p s K ↔ ∃ v, peek ti p s = some v ∧ K v s := by
  unfold ldT peek
  cases p with
  | ptr a =>
    cases a with
    | none => cases isAggK ti.kind <;> simp [ldA, ld1]
    | some a =>
      cases isAggK ti.kind with
      | true => simp only [ldA]; cases ldN s a ti.size <;> simp
      | false => simp only [ld1, optK]; cases ldC s a <;> simp
  | _ => cases isAggK ti.kind <;> simp [ldA, ld1]

theorem ldT_ok (hty : TyEnv P ty) (h : Rel w0 ρ s w) {t : TypeId} {ti : TI} (ht : ty t = some ti) {p : V} {K : K0} (hK : ldT ti p s K) {p' : Value} (hpr : VR ρ p p') :
    GoodV w0 ρ K ((Instr.loadAt t p').run P w) := by
  obtain ⟨v, hv, hk⟩ := ldT_peek.1 hK
  obtain ⟨a, v', rfl, hvr, hrun⟩ := peek_ok hty h ht hv hpr
  refine ⟨v', w, ?_, v, s, ρ, hk, Ext.refl ρ, h, hvr⟩
  simp only [Instr.loadAt, Sem.run_bind, Instr.sureAddr, Sem.run_pure, Result.andThen_ok, hrun]

/-! ### writing -/
theorem flat_one {v : V} {v' : Value} (h : VR ρ v v') (hf : flatV v = true) : v'.oneCell' = true := by
  cases h <;> first | rfl | assumption | (simp [flatV] at hf)

theorem flats_one {l : List V} {l' : List Value} (h : VRs ρ l l') (hf : l.all flatV = true) : ∀ v ∈ l', v.oneCell' = true := by
  induction l generalizing l' with
  | nil => cases h; simp
  | cons x l ih =>
    cases h with
    | cons hx ht =>
      simp at hf
      intro v hv
      cases hv with
      | head => exact flat_one hx hf.1
      | tail _ hv => exact ih ht (by simpa using hf.2) v hv

theorem run_storeCells (e : TypeId) (fr : Nat × Nat) (b : Nat)  :
    ∀ (vs : List Value) (w : World) (c : Array Value) (off i : Nat), w.heap[b]? = some (.cells c e fr) → (∀ j, j < c.size → ¬ (fr.1 ≤ j ∧ j < fr.2)) →
      off + i + vs.length ≤ c.size → (∀ v ∈ vs, v.oneCell' = true) →
      ∃ w' c', (storeCells ⟨b, off, none⟩ vs i).run P w = .ok () w' ∧ w'.heap.size = w.heap.size ∧ w'.os = w.os ∧ w'.tape = w.tape ∧ w'.output = w.output ∧
        (∀ k, k ≠ b → w'.heap[k]? = w.heap[k]?) ∧ w'.heap[b]? = some (.cells c' e fr) ∧ c'.size = c.size ∧
        c'.toList = c.toList.take (off + i) ++ (vs ++ c.toList.drop (off + i + vs.length)) := by
  intro vs
  induction vs with
  | nil =>
    intro w c off i hw hfr hle hone
    exact ⟨w, c, rfl, rfl, rfl, rfl, rfl, fun _ _ => rfl, hw, rfl, by simp⟩
  | cons v vs ih =>
    intro w c off i hw hfr hle hone
    simp only [List.length_cons] at hle
    have hv := hone v (by simp)
    have hlt : off + i < c.size := by omega
    have hcell : w.cell? ⟨b, off + i, none⟩ = some c[off + i] := by rw [cell_of hw]; simp [hlt]
    have hfrz : w.frozen? ⟨b, off + i, none⟩ = false := by
      have := hfr (off + i) hlt
      simp only [World.frozen?, hw]
      by_cases h1 : fr.1 ≤ off + i <;> by_cases h2 : off + i < fr.2 <;> simp [h1, h2]
      omega
    have hst : (store ((⟨b, off, none⟩ : Addr).add i) v).run P w = .ok () (w.setCell ⟨b, off + i, none⟩ v) := by
      rw [run_store P w _ v _ hv, add_mk, hcell]
      simp [hfrz]
    have hw1 : (w.setCell ⟨b, off + i, none⟩ v).heap[b]? = some (.cells (c.setIfInBounds (off + i) v) e fr) := by
      simp [World.setCell, Array.getElem?_modify, hw]
    obtain ⟨w', c', hr, h1, h2, h3, h4, h5, h6, h7, h8⟩ := ih (w.setCell ⟨b, off + i, none⟩ v) (c.setIfInBounds (off + i) v) off (i + 1) hw1 (by simpa using hfr) (by simp; omega) (fun u hu => hone u (by simp [hu]))
    refine ⟨w', c', ?_, by rw [h1]; simp, h2, h3, h4, ?_, h6, by rw [h7]; simp, ?_⟩
    · simp only [storeCells, Sem.run_bind, hst, Result.andThen_ok, hr]
    · intro k hk
      rw [h5 k hk]
      simp only [World.setCell, Array.getElem?_modify]
      rw [if_neg (by omega)]
    · rw [h8]
      simp only [Array.toList_setIfInBounds, List.length_cons]
      rw [show off + (i + 1) = off + i + 1 by omega, show off + i + (vs.length + 1) = off + i + 1 + vs.length by omega]
      rw [List.drop_set_of_lt (by omega)]
      rw [List.take_succ_eq_append_getElem (by simpa using hlt)]
      simp [List.take_set_of_le]

theorem take_splice {α : Type} (l : List α) (vs : List α) (off n : Nat) (h : off + vs.length ≤ n) (hn : n ≤ l.length) :
    (l.take off ++ (vs ++ l.drop (off + vs.length))).take n = (l.take n).take off ++ (vs ++ (l.take n).drop (off + vs.length)) := by
  rw [List.take_append, List.take_append, List.take_take, List.take_take]
  congr 1
  · congr 1; omega
  · congr 1
    · rw [List.take_of_length_le]; simp; omega
    · rw [List.drop_take]
      congr 1
      simp; omega

theorem setN_ok (h : Rel w0 ρ s w) {a : Ad} {vs : List V} {s' : AS} (hs : setN s a vs = some s') {b' : Nat} (hb : BR ρ a.blk b') {vs' : List Value} (hv : VRs ρ vs vs') :
    ∃ w', (storeCells ⟨b', a.off, none⟩ vs' 0).run P w = .ok () w' ∧ Rel w0 ρ s' w' := by
  unfold setN at hs
  split at hs
  · simp at hs
  · rename_i k hk
    split at hs
    · rename_i cs u hg
      split at hs
      · rename_i hc
        cases hs
        rw [hk] at hb
        obtain ⟨κ', hρ'⟩ := hb
        obtain ⟨b1, κ, o', hρ, hw, ho⟩ := h.live k _ hg
        rw [hρ] at hρ'
        obtain ⟨rfl, rfl⟩ : b1 = b' ∧ κ = κ' := by simpa using hρ'
        cases ho with
        | cells hl hu hf hr =>
        rename_i c' e fr
        obtain ⟨w', c1, hrun, h1, h2, h3, h4, h5, h6, h7, h8⟩ := run_storeCells (P := P) e fr b1 vs' w c' a.off 0 hw hf (by rw [hv.length]; omega) (flats_one hv hc.2)
        refine ⟨w', hrun, ?_⟩
        refine h.upd hg hρ h1 h2 h3 h4 h5 h6 (.cells ?_ (by intro e; rw [h7]; exact hu e) (by rw [h7]; exact hf) ?_)
        · rw [h7]; simp [spl]; omega
        · have hsl : (spl cs a.off vs).length = cs.length := by simp [spl]; omega
          rw [hsl, h8]
          have hvl := hv.length
          have := take_splice c'.toList vs' a.off cs.length (by omega) (by simpa using hl)
          simp only [Nat.add_zero]
          rw [this]
          exact spl_VRs hr hv a.off
      · simp at hs
    · simp at hs
end
end Go.Rx
end
section
/- Soundness of storing, making, appending, copying. -/
namespace Go.Rx
open Go

section
variable {P : Program} {ty : TypeId → Option TI} {w0 : World} {ρ : Ren} {s : AS} {w : World}

theorem st_ok (hty : TyEnv P ty) (h : Rel w0 ρ s w) {t : TypeId} {ti : TI} (ht : ty t = some ti) {p v : V} {K : K0} (hK : st ti.size p v s K) {p' v' : Value}
    (hp : VR ρ p p') (hv : VR ρ v v') : GoodU w0 ρ K ((Instr.storeAt t p' v').run P w) := by
  obtain ⟨i, d, z, hi, hd, hz, hk, hsz, _⟩ := ty_info hty ht
  unfold st at hK
  split at hK
  · exact hK.elim
  · rename_i a hj
    cases hp with
    | ptr hb =>
    rename_i b b' o
    split at hK
    · rename_i hlen
      split at hK
      · rename_i s' hs'
        have hcv := cells_VRs hv hj
        obtain ⟨w', hrun, hrel⟩ := setN_ok (P := P) h hs' hb hcv
        have hsize : v'.cells.size = i.size := by have := hcv.length; simp at this; omega
        refine ⟨w', ?_, s', ρ, hK, Ext.refl ρ, hrel⟩
        simp only [Instr.storeAt, Sem.run_bind, Instr.sureAddr, Sem.run_pure, Result.andThen_ok, storeVar, run_size hi, hsize, ne_eq, not_true_eq_false, if_false]
        exact hrun
      · exact hK.elim
    · exact hK.elim
  · exact hK.elim

theorem Rel.newCells (h : Rel w0 ρ s w) {cs : List V} {cs' : Array Value} (hc : VRs ρ cs cs'.toList) (e : TypeId) :
    ∃ ρ', Ext ρ ρ' ∧ Rel w0 ρ' (s.alloc (.cells cs 0)) (w.alloc (.cells cs' e)) ∧ ρ' s.next = some (w.heap.size, 0) := by
  have hl := hc.length
  have := h.alloc 0 (o := .cells cs 0) (o' := .cells cs' e (0, 0)) (.cells (by simp at hl; omega) (fun e => absurd rfl e) (fun i _ => by simp)
    (by rw [List.take_of_length_le (by omega)]; exact hc))
  exact ⟨_, this.1, this.2, by simp [ext1]⟩

theorem newC_ok (h : Rel w0 ρ s w) {cs : List V} {K : K0} (hK : newC cs s K) {cs' : Array Value} (hc : VRs ρ cs cs'.toList) (e : TypeId) :
    GoodV w0 ρ K ((do pure (.pointer (some (← newRow e cs'))) : Sem Value).run P w) := by
  obtain ⟨ρ', hx, hr, hn⟩ := h.newCells hc e
  exact ⟨_, _, by simp only [newRow, Sem.run_bind, run_newObj, Result.andThen_ok, Sem.run_pure]; rfl, _, _, ρ', hK, hx, hr, .ptr ⟨0, hn⟩⟩

theorem boxV_ok (h : Rel w0 ρ s w) {v : V} {K : K0} (hK : boxV v s K) {v' : Value} (hv : VR ρ v v') (e : TypeId) : GoodV w0 ρ K ((Instr.box e v').run P w) := by
  unfold boxV at hK
  split at hK
  · exact hK.elim
  · rename_i hj
    exact newC_ok h hK (cells_VRs hv hj) e

theorem alloc_ok (hty : TyEnv P ty) (h : Rel w0 ρ s w) {t : TypeId} {ti : TI} (ht : ty t = some ti) {K : K0} (hK : boxV ti.zero s K) : GoodV w0 ρ K ((Instr.alloc t true (.tuple #[])).run P w) := by
  obtain ⟨i, d, z, hi, hd, hz, hk, hsz, hby, hzz⟩ := ty_info hty ht
  have := boxV_ok (P := P) h hK (by rw [hzz]; exact ofV_VR ρ z) t
  have e : (Instr.alloc t true (.tuple #[])).run P w = (Instr.box t z).run P w := by
    simp only [Instr.alloc, Instr.box, Sem.run_bind, run_zero hi hz, Result.andThen_ok]
  rw [e]; exact this

theorem zeros_length (z : List V) (n : Nat) : (zeros z n).length = n * z.length := by
  induction n with
  | zero => simp [zeros]
  | succ n ih => simp only [zeros, List.replicate_succ, List.flatten_cons, List.length_append] at *; rw [ih, Nat.succ_mul]; omega

theorem zeros_getElem? (z : List V) (n i : Nat) (h : i < n * z.length) : (zeros z n)[i]? = z[i % z.length]? := by
  induction n generalizing i with
  | zero => simp at h
  | succ n ih =>
    simp only [zeros, List.replicate_succ, List.flatten_cons] at *
    by_cases hi : i < z.length
    · rw [List.getElem?_append_left hi, Nat.mod_eq_of_lt hi]
    · rw [List.getElem?_append_right (by omega), ih (i - z.length) (by rw [Nat.succ_mul] at h; omega)]
      rw [Nat.mod_eq_sub_mod (Nat.le_of_not_lt hi)]

theorem zeros_VRs {z : List V} {z' : Array Value} (hz : VRs ρ z z'.toList) (n m : Nat) (hm : m = n * z.length) :
    VRs ρ (zeros z n) ((Array.range m).map fun i => z'[i % z'.size]!).toList := by
  have hl := hz.length
  simp at hl
  refine VRs.of_get (by simp [zeros_length, hm]) fun i v hv => ?_
  have hi : i < n * z.length := by have := (List.getElem?_eq_some_iff.1 hv).1; rwa [zeros_length] at this
  rw [zeros_getElem? z n i hi] at hv
  obtain ⟨v', hv', hr⟩ := hz.get hv
  refine ⟨v', ?_, hr⟩
  have hi2 : i < m := by omega
  simp [hi2, hl]
  have hlt : i % z.length < z'.size := by rw [hl]; exact (List.getElem?_eq_some_iff.1 hv).1
  rw [getElem!_pos z' _ hlt]
  simpa [Array.getElem?_eq_getElem hlt] using hv'

theorem zeroCells_VRs {z : List V} {z' : Array Value} (hz : VRs ρ z z'.toList) (n : Nat) : VRs ρ (zeros z n) (Builtin.zeroCells z' n).toList := by
  unfold Builtin.zeroCells
  refine zeros_VRs hz n _ ?_
  have hl := hz.length
  simp at hl
  rw [hl]

theorem newS_ok (h : Rel w0 ρ s w) {cs : List V} {n : Nat} {K : K0} (hK : newS cs n s K) {cs' : Array Value} (hc : VRs ρ cs cs'.toList) (e : TypeId) :
    GoodV w0 ρ K ((do pure (.slice (some (← newRow e cs')) n n) : Sem Value).run P w) := by
  obtain ⟨ρ', hx, hr, hn⟩ := h.newCells hc e
  exact ⟨_, _, by simp only [newRow, Sem.run_bind, run_newObj, Result.andThen_ok, Sem.run_pure]; rfl, _, _, ρ', hK, hx, hr, .slice ⟨0, hn⟩ (fun _ => ⟨rfl, rfl⟩) (fun e => by cases e)⟩

theorem buildSlice_ok (hty : TyEnv P ty) (h : Rel w0 ρ s w) {t e : TypeId} {ti : TI} (hk : kd ty t = some (.slice e)) (he : ty e = some ti) {len : Nat} {K : K0} {parts : List (Nat × V)} {cs : List V}
    (hl : len * ti.size ≤ 16777216) (hf : fillV (fun j => some (j * ti.size, ti.size)) (zeros (cellsV ti.zero) len) parts = some cs) (hzl : (cellsV ti.zero).length = ti.size)
    (hK : newS cs len s K) {parts' : Array (Nat × Value)} (hpl : parts'.size = parts.length)
    (hx : ∀ (j i : Nat) (v : V), parts[j]? = some (i, v) → ∃ v', parts'[j]? = some (i, v') ∧ VR ρ v v') :
    GoodV w0 ρ K ((Instr.buildSlice t len parts').run P w) := by
  obtain ⟨d, hd, hdk⟩ := kd_under hty hk
  obtain rfl := kdOf_slice hdk
  obtain ⟨i, d', z, hi, hd', hz, hk', hsz, hby, hzz⟩ := ty_info hty he
  have hzr := zero_cells ρ z
  rw [← hzz] at hzr
  have hnl : ¬ (len * i.size > 2 ^ 24) := by rw [← hsz]; omega
  have hzs : z.cells.size = ti.size := by have := hzr.length; simp at this; omega
  have hzv : VRs ρ (zeros (cellsV ti.zero) len) ((Array.range (len * i.size)).map fun q => z.cells[q % z.cells.size]!).toList := zeros_VRs hzr len _ (by rw [hzl, hsz])
  obtain ⟨ca, hfa, hva⟩ := fill_ok (place' := fun j => some (j * i.size, i.size)) (by intro j x hj; rw [← hsz]; exact hj) hf hzv (by rw [Array.length_toList]; exact hpl) (fun j i v hj => by simpa using hx j i v hj)
  have hrun : (Instr.buildSlice t len parts').run P w = (do pure (.slice (some (← newRow e ca)) len len) : Sem Value).run P w := by
    unfold Instr.buildSlice
    rw [Sem.run_bind, run_under hd]
    simp only [Result.andThen_ok]
    rw [Sem.run_bind, run_size hi]
    simp only [Result.andThen_ok, if_neg hnl]
    by_cases h0 : len * i.size = 0
    · have e0 : (Array.range (len * i.size)).map (fun q => z.cells[q % z.cells.size]!) = #[] := by rw [h0, Array.range_zero', Array.map_empty]
      rw [e0] at hfa
      simp only [h0, if_true, Sem.run_bind, Sem.run_pure, Result.andThen_ok]
      rw [Array.range_zero', Array.map_empty, hfa]
      simp only [Sem.run_bind, Sem.run_pure]
    · simp only [if_neg h0, Sem.run_bind, run_zero hi hz, Sem.run_pure, Result.andThen_ok, hfa]
  rw [hrun]
  exact newS_ok h hK hva e

/-! ### append, copy -/
theorem srcLen_ok {x : V} {n : Nat} (h : srcLen x = some n) {x' : Value} (hx : VR ρ x x') (w : World) : (Builtin.lenOf x').run P w = .ok n w := by
  unfold srcLen at h
  split at h
  · cases h; cases hx <;> rfl
  · cases h; cases hx; simp [Builtin.lenOf, size_mk]
  · simp at h

theorem srcN_ok (h : Rel w0 ρ s w) {size n : Nat} {x : V} {xs : List V} (hs : srcN size n x s = some xs) {x' : Value} (hx : VR ρ x x') :
    xs.length = n * size ∧ ∃ xs' : List Value, VRs ρ xs xs' ∧ (Builtin.firstCells size n x').run P w = .ok xs'.toArray w := by
  unfold srcN at hs
  split at hs
  · split at hs
    · rename_i hn
      cases hs; cases hx
      exact ⟨by simp [hn], [], .nil, by simp [Builtin.firstCells]⟩
    · simp at hs
  · rename_i a len c ex
    cases hx with
    | slice hb hex hin =>
    rename_i b b' o o' c'
    split at hs
    · rename_i h0
      cases hs
      refine ⟨by simp [h0], [], .nil, ?_⟩
      simp only [Builtin.firstCells, h0]
      rfl
    · split at hs
      · rename_i hc
        have ho : o' = o := by
          rcases hc with e | e
          · exact (hex e).1
          · cases ex with
            | true => exact (hex rfl).1
            | false => exact (hin rfl).2.1 e
        subst ho
        obtain ⟨hl, _⟩ := h.ldN hs hb
        obtain ⟨cs', hr, hrun⟩ := run_loadN (P := P) h hs hb
        exact ⟨hl, cs', hr, hrun⟩
      · simp at hs
  · rename_i bs
    cases hx
    split at hs
    · rename_i hc
      cases hs
      refine ⟨by simp [hc.1]; omega, (bs.take n).map fun b => .int .u8 b.toNat, ?_, ?_⟩
      · generalize bs.take n = l
        induction l with
        | nil => exact .nil
        | cons x l ih => exact .cons (.int _ _) ih
      · simp only [Builtin.firstCells, Sem.run_pure]
        congr 1
        apply Array.ext'
        rw [ByteArray.data_extract]
        simp
    · simp at hs
  · simp at hs

theorem srcX_ok (h : Rel w0 ρ s w) {size n : Nat} {x : V} {xs : List V} (hs : srcX size n x s = some xs) {x' : Value} (hx : VR ρ x x') :
    xs.length = n * size ∧ ∃ xs' : List Value, VRs ρ xs xs' ∧ (Builtin.firstCells size n x').run P w = .ok xs'.toArray w := by
  unfold srcX at hs
  split at hs
  · cases hx
    split at hs
    · rename_i hn
      cases hs
      refine ⟨by simp [hn], [], .nil, ?_⟩
      subst hn
      simp only [Builtin.firstCells, Nat.zero_mul]; rfl
    · cases hs
  · exact srcN_ok h hs hx

/-- The end of an append that may have grown: a new row with room to spare. -/
theorem Rel.newRoom (h : Rel w0 ρ s w) {cs : List V} {size : Nat} {all : Array Value} (hc : VRs ρ cs (all.toList.take cs.length)) (hl : cs.length ≤ all.size) (κ : Nat) (hk : size ≠ 0 → all.size = κ * size) (e : TypeId) :
    ∃ ρ', Ext ρ ρ' ∧ Rel w0 ρ' (s.alloc (.cells cs size)) (w.alloc (.cells all e)) ∧ ρ' s.next = some (w.heap.size, κ) := by
  have := h.alloc κ (o := .cells cs size) (o' := .cells all e (0, 0)) (.cells hl hk (fun i _ => by simp) hc)
  exact ⟨_, this.1, this.2, by simp [ext1]⟩

theorem run_step {α β : Type} {x : Sem α} {f : α → Sem β} {a : α} {w w' : World} (h : x.run P w = .ok a w') : (x >>= f).run P w = (f a).run P w' := by
  rw [Sem.run_bind, h]; rfl

theorem app_run_fit {t u e ty' : TypeId} {ts : Array TypeId} {d : TypeDesc} {i : TypeInfo} (ht : P.underlying t = some (.slice e)) (hu : P.underlying u = some d) (hd : ∀ k, d ≠ .int k) (hi : P.info? e = some i)
    (ht0 : ts[0]? = some t) (ht1 : ts[1]? = some u) {base : Option Addr} {len c n : Nat} {x' : Value} (hn : (Builtin.lenOf x').run P w = .ok n w) (hfit : len + n ≤ c)
    {xs : List Value} (hx : (Builtin.firstCells i.size n x').run P w = .ok xs.toArray w) {w' : World}
    (hst : ∀ a, base = some a → (storeCells (a.add (len * i.size)) xs 0).run P w = .ok () w') (hb : base = none → w' = w) :
    (Builtin.append_ ts ty' #[.slice base len c, x']).run P w = .ok (.slice base (len + n) c) w' := by
  unfold Builtin.append_
  simp only [ht0, ht1, List.getElem?_toArray, List.getElem?_cons_zero, List.getElem?_cons_succ]
  refine (run_step (run_under ht w)).trans ?_
  refine (run_step (run_size hi w)).trans ?_
  refine (run_step (run_under hu w)).trans ?_
  refine (run_step (a := false) (w' := w) ?_).trans ?_
  · cases d <;> first | rfl | exact (hd _ rfl).elim
  simp only [Bool.false_eq_true, if_false, Bool.not_false, if_true]
  refine (run_step hn).trans ?_
  rw [if_pos hfit]
  refine (run_step hx).trans ?_
  cases base with
  | none => have := hb rfl; subst this; rfl
  | some a =>
    refine (run_step (hst a rfl)).trans ?_
    rfl

theorem app_run_grow {t u e ty' : TypeId} {ts : Array TypeId} {d : TypeDesc} {i : TypeInfo} {z : Value} (ht : P.underlying t = some (.slice e)) (hu : P.underlying u = some d) (hd : ∀ k, d ≠ .int k) (hi : P.info? e = some i) (hz : i.zero = some z)
    (ht0 : ts[0]? = some t) (ht1 : ts[1]? = some u) {base : Option Addr} {len c n : Nat} {x' : Value} (hn : (Builtin.lenOf x').run P w = .ok n w) (hfit : ¬ len + n ≤ c)
    (hb0 : i.bytes ≠ 0) (hroom : (len + n) * i.bytes ≤ 140737488355328)
    {xs olds : List Value} (hx : (Builtin.firstCells i.size n x').run P w.drew = .ok xs.toArray w.drew) (ho : (Builtin.firstCells i.size len (.slice base len c)).run P w.drew = .ok olds.toArray w.drew) :
    (Builtin.append_ ts ty' #[.slice base len c, x']).run P w = .ok (.slice (some ⟨w.heap.size, 0, none⟩) (len + n) (grownCap w (len + n) c e))
      (w.drew.alloc (.cells (olds.toArray ++ xs.toArray ++ Builtin.zeroCells z.cells (grownCap w (len + n) c e - (len + n))) e)) := by
  have hgf := growslice_fits (need := len + n) (old := c) (bytes := i.bytes) (by omega) hroom
  have h48 : ¬ (Builtin.nextslicecap (len + n) c * i.bytes > 2 ^ 48) := by omega
  unfold Builtin.append_
  simp only [ht0, ht1, List.getElem?_toArray, List.getElem?_cons_zero, List.getElem?_cons_succ]
  refine (run_step (run_under ht w)).trans ?_
  refine (run_step (run_size hi w)).trans ?_
  refine (run_step (run_under hu w)).trans ?_
  refine (run_step (a := false) (w' := w) ?_).trans ?_
  · cases d <;> first | rfl | exact (hd _ rfl).elim
  simp only [Bool.false_eq_true, if_false, Bool.not_false, if_true, false_or]
  refine (run_step hn).trans ?_
  rw [if_neg hfit]
  refine (run_step (run_info hi w)).trans ?_
  rw [if_neg (fun h => hb0 h.2)]
  refine (run_step (run_info hi w)).trans ?_
  rw [if_neg h48]
  refine (run_step (a := grownCap w (len + n) c e) (w' := w.drew) ?_).trans ?_
  · rw [run_choose]; rfl
  refine (run_step (run_info hi _)).trans ?_
  refine (run_step (run_askRoom P _ _)).trans ?_
  refine (run_step ho).trans ?_
  refine (run_step hx).trans ?_
  refine (run_step (run_zero hi hz _)).trans ?_
  simp only [newRow, Sem.run_bind, run_newObj, Result.andThen_ok, Sem.run_pure, World.size_drew, World.alloc_eq]

theorem grownCap_ge (w : World) (need old : Nat) (e : TypeId) : need ≤ grownCap w need old e := by
  unfold grownCap Question.cut
  simp only []
  omega

theorem room_ok {n bytes : Nat} (h : roomB n bytes = true) : n * bytes ≤ 140737488355328 ∧ bytes ≠ 0 := by
  unfold roomB at h
  simp at h
  exact h

theorem app_ok (hty : TyEnv P ty) (h : Rel w0 ρ s w) {t u e ty' : TypeId} {ts : Array TypeId} {ti : TI} {k : Kd} (hk : kd ty t = some (.slice e)) (hu : kd ty u = some k) (hui : ∀ q, k ≠ .int q) (he : ty e = some ti)
    (ht0 : ts[0]? = some t) (ht1 : ts[1]? = some u) (hzl : (cellsV ti.zero).length = ti.size) {sl x : V} {K : K0} (hK : app ti.size ti.bytes sl x s K) {sl' x' : Value} (hs : VR ρ sl sl') (hx : VR ρ x x') :
    GoodV w0 ρ K ((Builtin.append_ ts ty' #[sl', x']).run P w) := by
  obtain ⟨d, hd, hdk⟩ := kd_under hty hk
  obtain rfl := kdOf_slice hdk
  obtain ⟨du, hdu, hduk⟩ := kd_under hty hu
  have hdu' : ∀ q, du ≠ .int q := by intro q e; subst e; exact hui q hduk.symm
  obtain ⟨i, d', z, hi, hd', hz, hk', hsz, hby, hzz⟩ := ty_info hty he
  have hzr := zero_cells ρ z
  rw [← hzz] at hzr
  have hzs : z.cells.size = ti.size := by have := hzr.length; simp at this; omega
  unfold app at hK
  split at hK
  · exact hK.elim
  · rename_i n hn
    have hlen := srcLen_ok (P := P) hn hx
    split at hK
    · exact hK.elim
    · rename_i xs hxs
      obtain ⟨hxl, xs', hxr, hxrun⟩ := srcX_ok (P := P) h hxs hx
      obtain ⟨_, xs2, hxr2, hxrun2⟩ := srcX_ok (P := P) h.drew hxs hx
      rw [hsz] at hxrun hxrun2
      -- what grows
      have grow : ∀ (s1 : AS) (olds : List V) (olds' : List Value) (base : Option Addr) (len c : Nat), Rel w0 ρ s1 w.drew → s1.next = s.next → VRs ρ olds olds' → olds.length = len * ti.size → ¬ len + n ≤ c →
          roomB (len + n) ti.bytes = true → (Builtin.firstCells i.size len (.slice base len c)).run P w.drew = .ok olds'.toArray w.drew →
          K (.slice (some ⟨.new s.next, 0⟩) (len + n) (len + n) false) (s1.alloc (.cells (olds ++ xs) ti.size)) →
          GoodV w0 ρ K ((Builtin.append_ ts ty' #[.slice base len c, x']).run P w) := by
        intro s1 olds olds' base len c hrel1 hnext hor hol hfit hroom hof hK
        obtain ⟨hr1, hr2⟩ := room_ok hroom
        rw [hby] at hr1 hr2
        have hrun := app_run_grow (ty' := ty') hd hdu hdu' hi hz ht0 ht1 (hlen w) hfit hr2 hr1 hxrun2 hof
        have hge := grownCap_ge w (len + n) c e
        generalize grownCap w (len + n) c e = cap at hrun hge
        have hzc := zeroCells_VRs hzr (cap - (len + n))
        have hall : VRs ρ (olds ++ xs) ((olds'.toArray ++ xs2.toArray ++ Builtin.zeroCells z.cells (cap - (len + n))).toList.take (olds ++ xs).length) := by
          have h1 := hor.append hxr2
          have h2 := h1.length
          simp only [Array.toList_append, List.toList_toArray]
          rw [List.take_append_of_le_length (by omega), List.take_of_length_le (by omega)]
          exact h1
        have hsize : (olds'.toArray ++ xs2.toArray ++ Builtin.zeroCells z.cells (cap - (len + n))).size = cap * ti.size := by
          have h1 := hor.length
          have h2 := hxr2.length
          have h3 := hzc.length
          rw [zeros_length, hzl] at h3
          simp only [Array.size_append, List.size_toArray]
          simp only [Array.length_toList] at h3
          rw [h1, h2, h3, hol, hxl, ← Nat.add_mul, ← Nat.add_mul]
          congr 1
          omega
        obtain ⟨ρ', hx', hrel, hnew⟩ := hrel1.newRoom (size := ti.size) hall (by rw [hsize]; simp [hol, hxl]; rw [← Nat.add_mul]; exact Nat.mul_le_mul_right _ hge) cap (fun _ => hsize) e
        refine ⟨_, _, hrun, _, _, ρ', hK, hx', hrel, ?_⟩
        rw [← hnext]
        exact .slice ⟨cap, hnew⟩ (fun e => by cases e) (fun _ => ⟨hge, fun _ => rfl, _, cap, rfl, hnew, fun _ _ => rfl⟩)
      split at hK
      · -- a nil slice
        rename_i ex
        cases hs
        split at hK
        · rename_i hn0
          subst hn0
          have hrun := app_run_fit (ty' := ty') hd hdu hdu' hi ht0 ht1 (base := none) (len := 0) (c := 0) (hlen w) (by omega) hxrun (w' := w) (fun a e => by cases e) (fun _ => rfl)
          exact ⟨_, _, hrun, _, _, ρ, hK, Ext.refl ρ, h, .nilslice ex⟩
        · rename_i hn0
          split at hK
          · rename_i hc
            refine grow s [] [] none 0 0 h.drew rfl .nil (by simp) (by omega) (by simpa using hc.1) (by simp [Builtin.firstCells]) ?_
            simpa using hK
          · exact hK.elim
      · -- a slice
        rename_i a len c ex
        cases hs with
        | slice hb hex hin =>
        rename_i b b' o o' c'
        split at hK
        · rename_i hn0
          split at hK
          · rename_i hlc
            subst hn0
            have hxs0 : xs' = [] := by have := hxr.length; rw [hxl] at this; simpa using this
            subst hxs0
            have hcc : len ≤ c' := by
              cases ex with
              | true => have := (hex rfl).2; omega
              | false => have := (hin rfl).1; omega
            have hrun := app_run_fit (ty' := ty') hd hdu hdu' hi ht0 ht1 (base := some ⟨b', o', none⟩) (len := len) (c := c') (hlen w) (by omega) hxrun (w' := w) (fun a e => by cases e; rfl) (fun e => by cases e)
            exact ⟨_, _, hrun, _, _, ρ, hK, Ext.refl ρ, h, .slice hb hex hin⟩
          · exact hK.elim
        · rename_i hn0
          split at hK
          · -- it fits
            rename_i hfit
            split at hK
            · rename_i s' hs'
              have hc0 : c ≠ 0 := by omega
              have ho : o' = o := by
                cases ex with
                | true => exact (hex rfl).1
                | false => exact (hin rfl).2.1 hc0
              have hcc : c ≤ c' := by
                cases ex with
                | true => have := (hex rfl).2; omega
                | false => exact (hin rfl).1
              subst ho
              obtain ⟨w', hst, hrel⟩ := setN_ok (P := P) h hs' (b' := b') hb hxr
              have hrun := app_run_fit (ty' := ty') hd hdu hdu' hi ht0 ht1 (base := some ⟨b', o', none⟩) (len := len) (c := c') (hlen w) (by omega) hxrun (w' := w')
                (fun a e => by cases e; rw [add_mk, ← hsz]; exact hst) (fun e => by cases e)
              exact ⟨_, _, hrun, _, _, ρ, hK, Ext.refl ρ, hrel, .slice hb hex hin⟩
            · exact hK.elim
          · rename_i hfit
            split at hK
            · exact hK.elim
            · rename_i olds holds
              have hso : VR ρ (.slice (some ⟨b, o⟩) len c ex) (.slice (some ⟨b', o', none⟩) len c') := .slice hb hex hin
              obtain ⟨hol, olds', hor, horun⟩ := srcN_ok (P := P) h.drew holds hso
              rw [hsz] at horun
              split at hK
              · rename_i hc
                split at hK
                · -- a row of which all is known
                  have := (hex rfl)
                  exact grow s olds olds' _ len c' h.drew rfl hor hol (by omega) hc.1 horun hK
                · -- a row that may have room
                  split at hK
                  · rename_i k cs u heq hget
                    cases heq
                    split at hK
                    · rename_i hcu
                      obtain ⟨hc0, hu0, hs0⟩ := hcu
                      subst hu0
                      have ho := (hin rfl).2.1 hc0
                      subst ho
                      by_cases hfit' : len + n ≤ c'
                      · -- it has
                        obtain ⟨_, _, k', κ, hbk, hρ, hκ⟩ := hin rfl
                        cases hbk
                        have hck := hκ rfl hc0
                        subst hck
                        simp only at hget
                        obtain ⟨b1, κ1, o1, hρ1, hw1, ho1⟩ := h.live k _ hget
                        rw [hρ] at hρ1
                        obtain ⟨rfl, rfl⟩ : b' = b1 ∧ c' = κ1 := by simpa using hρ1
                        cases ho1 with
                        | cells hl1 hu1 hf1 hr1 =>
                        rename_i ca ec fr
                        have hsize := hu1 hs0
                        have hnx : len * ti.size + xs'.length ≤ ca.size := by
                          rw [hxr.length, hxl, hsize, ← Nat.add_mul]; exact Nat.mul_le_mul_right _ hfit'
                        obtain ⟨w', c1, hrun, g1, g2, g3, g4, g5, g6, g7, g8⟩ := run_storeCells (P := P) ec fr b' xs' w ca (0 + len * ti.size) 0 hw1 hf1 (by omega) (flats_one hxr hc.2.2)
                        have happ := app_run_fit (ty' := ty') hd hdu hdu' hi ht0 ht1 (base := some ⟨b', 0, none⟩) (len := len) (c := c') (hlen w) hfit' hxrun (w' := w')
                          (fun a e => by cases e; rw [add_mk, ← hsz]; exact hrun) (fun e => by cases e)
                        -- the old cells as they lie
                        obtain ⟨_, olds2, hor2, hocell⟩ : olds.length = len * ti.size ∧ ∃ cs' : List Value, VRs ρ olds cs' ∧ ca.toList.take (len * ti.size) = cs' := by
                          refine ⟨hol, _, ?_, rfl⟩
                          unfold srcN at holds
                          simp only at holds
                          split at holds
                          · rename_i h0
                            cases holds
                            rw [h0]; exact .nil
                          · rw [if_pos (Or.inr hc0)] at holds
                            unfold Rx.ldN cellsAt at holds
                            simp only [hget] at holds
                            split at holds
                            · rename_i hle
                              cases holds
                              have := hr1.take (len * ti.size)
                              rw [List.take_take, Nat.min_eq_left (by omega)] at this
                              simpa using this
                            · simp at holds
                        have hnl : (olds ++ xs).length = (len + n) * ti.size := by simp [hol, hxl, Nat.add_mul]
                        have hnew : ORel ρ c' (.cells (olds ++ xs) ti.size) (.cells c1 ec fr) := by
                          refine .cells (by rw [g7, hnl, hsize]; exact Nat.mul_le_mul_right _ hfit') (fun _ => by rw [g7]; exact hsize) (by rw [g7]; exact hf1) ?_
                          rw [g8, hnl]
                          have e1 : (ca.toList.take (0 + len * ti.size + 0) ++ (xs' ++ ca.toList.drop (0 + len * ti.size + 0 + xs'.length))).take ((len + n) * ti.size) = ca.toList.take (len * ti.size) ++ xs' := by
                            have hx1 := hxr.length
                            rw [hxl] at hx1
                            have hlt : (ca.toList.take (0 + len * ti.size + 0)).length = len * ti.size := by simp; omega
                            rw [List.take_append, List.take_of_length_le (by rw [hlt, Nat.add_mul]; omega), hlt]
                            have : (len + n) * ti.size - len * ti.size = xs'.length := by rw [hx1, Nat.add_mul]; omega
                            rw [this, List.take_append_of_le_length (Nat.le_refl _), List.take_of_length_le (Nat.le_refl _)]
                            simp
                          rw [e1, hocell]
                          exact hor2.append hxr
                        have hfin := h.rename hget hρ g1 g2 g3 g4 g5 g6 hnew
                        refine ⟨_, _, happ, _, _, _, hK, hfin.1, hfin.2, ?_⟩
                        refine .slice ⟨c', by simp [ext1]⟩ (fun e => by cases e) (fun _ => ⟨hfit', fun _ => rfl, s.next, c', rfl, by simp [ext1], fun _ _ => rfl⟩)
                      · -- it has not
                        exact grow (s.put k none) olds olds' _ len c' (h.drew.forget k) rfl hor hol hfit' hc.1 horun hK
                    · exact hK.elim
                  · exact hK.elim
              · exact hK.elim
      · exact hK.elim
end
end Go.Rx
end
section
/- Soundness of copying, making slices, turning bytes into strings and back, clearing. -/
namespace Go.Rx
open Go

section
variable {P : Program} {ty : TypeId → Option TI} {w0 : World} {ρ : Ren} {s : AS} {w : World}

theorem cpy_ok (hty : TyEnv P ty) (h : Rel w0 ρ s w) {t e ty' : TypeId} {ts : Array TypeId} {ti : TI} (hk : kd ty t = some (.slice e)) (he : ty e = some ti)
    (ht0 : ts[0]? = some t) {x y : V} {K : K0} (hK : cpy ti.size x y s K) {x' y' : Value} (hx : VR ρ x x') (hy : VR ρ y y') :
    GoodV w0 ρ K ((Builtin.copy_ ts ty' #[x', y']).run P w) := by
  obtain ⟨d, hd, hdk⟩ := kd_under hty hk
  obtain rfl := kdOf_slice hdk
  obtain ⟨i, d', z, hi, hd', hz, hk', hsz, hby, hzz⟩ := ty_info hty he
  have run0 : ∀ (base : Option Addr) (len c n : Nat) (xs : List Value) (w' : World), (Builtin.lenOf y').run P w = .ok n w →
      (Builtin.firstCells i.size (Nat.min n len) y').run P w = .ok xs.toArray w → (∀ a, base = some a → (storeCells a xs 0).run P w = .ok () w') → (base = none → w' = w) →
      (Builtin.copy_ ts ty' #[.slice base len c, y']).run P w = .ok (.int .i64 (Nat.min n len : Nat)) w' := by
    intro base len c n xs w' hn hf hst hb
    unfold Builtin.copy_
    simp only [ht0, List.getElem?_toArray, List.getElem?_cons_zero, List.getElem?_cons_succ]
    refine (run_step (run_under hd w)).trans ?_
    refine (run_step hn).trans ?_
    refine (run_step (run_size hi w)).trans ?_
    refine (run_step hf).trans ?_
    cases base with
    | none => have := hb rfl; subst this; rfl
    | some a => refine (run_step (hst a rfl)).trans ?_; rfl
  unfold cpy at hK
  split at hK
  · rename_i n hn
    cases hx
    have hlen := srcLen_ok (P := P) hn hy w
    have : srcN 1 0 y s = some [] ∨ True := .inr trivial
    have hf : (Builtin.firstCells i.size (Nat.min n 0) y').run P w = .ok ([] : List Value).toArray w := by
      rw [show Nat.min n 0 = 0 from Nat.min_zero n]
      unfold srcLen at hn
      split at hn
      · cases hy with
        | nilslice => simp [Builtin.firstCells]
        | hollow => simp only [Builtin.firstCells, Nat.zero_mul]; rfl
        | slice => simp only [Builtin.firstCells, Nat.zero_mul]; rfl
      · cases hy; simp [Builtin.firstCells]
      · simp at hn
    have := run0 none 0 0 n [] w hlen hf (fun a e => by cases e) (fun _ => rfl)
    rw [show Nat.min n 0 = 0 from Nat.min_zero n] at this
    exact ⟨_, _, this, _, _, ρ, hK, Ext.refl ρ, h, .int _ _⟩
  · rename_i a len c ex n hn
    cases hx with
    | slice hb hex hin =>
    rename_i b b' o o' c'
    have hlen := srcLen_ok (P := P) hn hy w
    split at hK
    · exact hK.elim
    · rename_i xs hxs
      obtain ⟨hxl, xs', hxr, hxrun⟩ := srcN_ok (P := P) h hxs hy
      rw [hsz] at hxrun
      split at hK
      · rename_i h0
        have hx0 : xs' = [] := by have := hxr.length; rw [hxl, h0] at this; simpa using this
        subst hx0
        have := run0 (some ⟨b', o', none⟩) len c' n [] w hlen hxrun (fun a e => by cases e; rfl) (fun e => by cases e)
        exact ⟨_, _, this, _, _, ρ, hK, Ext.refl ρ, h, .int _ _⟩
      · split at hK
        · rename_i hc
          have ho : o' = o := by
            rcases hc with e | e
            · exact (hex e).1
            · cases ex with
              | true => exact (hex rfl).1
              | false => exact (hin rfl).2.1 e
          subst ho
          split at hK
          · rename_i s' hs'
            obtain ⟨w', hst, hrel⟩ := setN_ok (P := P) h hs' (b' := b') hb hxr
            have := run0 (some ⟨b', o', none⟩) len c' n xs' w' hlen hxrun (fun a e => by cases e; exact hst) (fun e => by cases e)
            exact ⟨_, _, this, _, _, ρ, hK, Ext.refl ρ, hrel, .int _ _⟩
          · exact hK.elim
        · exact hK.elim
  · exact hK.elim

theorem wrap64_nat {n : Int} (h0 : 0 ≤ n) (h1 : n ≤ 140737488355328) : IntKind.i64.wrap n = n := by
  unfold IntKind.wrap IntKind.bits IntKind.signed
  simp only [Bool.true_and]
  have : n % 2 ^ 64 = n := Int.emod_eq_of_lt h0 (by omega)
  rw [this]
  rw [if_neg]
  simp; omega

theorem mkSl_ok (hty : TyEnv P ty) (h : Rel w0 ρ s w) {t e : TypeId} {ti : TI} (hk : kd ty t = some (.slice e)) (he : ty e = some ti)
    {l c : V} {K : K0} (hK : mkSl ti.size ti.bytes (cellsV ti.zero) l c s K) {l' c' : Value} (hl : VR ρ l l') (hc : VR ρ c c') :
    GoodV w0 ρ K ((Instr.makeSlice t l' c').run P w) := by
  obtain ⟨d, hd, hdk⟩ := kd_under hty hk
  obtain rfl := kdOf_slice hdk
  obtain ⟨i, d', z, hi, hd', hz, hk', hsz, hby, hzz⟩ := ty_info hty he
  have hzr := zero_cells ρ z
  rw [← hzz] at hzr
  unfold mkSl at hK
  split at hK
  · rename_i kl l kc c
    cases hl; cases hc
    split at hK
    · rename_i hcond
      obtain ⟨h0, hlc, hbc, hc47, hzl, hzf⟩ := hcond
      rw [hby] at hbc
      have hwl := wrap64_nat h0 (by omega)
      have hwc := wrap64_nat (n := c) (by omega) hc47
      have hcells : VRs ρ (zeros (cellsV ti.zero) c.toNat) ((Array.range (c.toNat * i.size)).map fun q => z.cells[q % z.cells.size]!).toList := zeros_VRs hzr c.toNat _ (by rw [hzl, hsz])
      have hrun : (Instr.makeSlice t (.int kl l) (.int kc c)).run P w =
          (do pure (.slice (some (← newRow e ((Array.range (c.toNat * i.size)).map fun q => z.cells[q % z.cells.size]!))) l.toNat c.toNat) : Sem Value).run P w := by
        unfold Instr.makeSlice
        refine (run_step (run_under hd w)).trans ?_
        refine (run_step (a := l) (w' := w) rfl).trans ?_
        refine (run_step (a := c) (w' := w) rfl).trans ?_
        refine (run_step (run_info hi w)).trans ?_
        simp only [hwl, hwc]
        have hcn : ¬ ((decide (c < 0) || decide ((i.bytes : Int) * c > 2 ^ 48)) || decide (l < 0) || decide (l > c)) = true := by
          simp; omega
        rw [if_neg hcn]
        refine (run_step (run_askRoom P _ _)).trans ?_
        refine (run_step (run_size hi _)).trans ?_
        by_cases hn : c.toNat * i.size = 0
        · rw [if_pos hn]
          refine (run_step (a := #[]) (w' := w) rfl).trans ?_
          rw [hn]
          simp only [Array.range_zero', Array.map_empty]
        · rw [if_neg hn]
          refine (run_step (run_zero hi hz w)).trans ?_
          refine (run_step (a := z.cells) (w' := w) rfl).trans ?_
          rfl
      rw [hrun]
      obtain ⟨ρ', hx, hr, hn⟩ := h.newCells hcells e
      exact ⟨_, _, by simp only [newRow, Sem.run_bind, run_newObj, Result.andThen_ok, Sem.run_pure]; rfl, _, _, ρ', hK, hx, hr, .slice ⟨0, hn⟩ (fun _ => ⟨rfl, rfl⟩) (fun e => by cases e)⟩
    · exact hK.elim
  · exact hK.elim

theorem bytes_cells {cs : List V} {l : List UInt8} (h : bytesOfCells cs = some l) {cs' : List Value} (hc : VRs ρ cs cs') :
    ∃ ns : List Int, cs' = ns.map (Value.int .u8) ∧ l = ns.map fun n => UInt8.ofNat n.toNat := by
  induction cs generalizing l cs' with
  | nil => cases hc; simp [bytesOfCells] at h; subst h; exact ⟨[], rfl, rfl⟩
  | cons x cs ih =>
    cases hc with
    | cons hx ht =>
    unfold bytesOfCells at h
    split at h
    · rename_i heq; cases heq
    · rename_i n r heq
      cases heq
      cases hx
      split at h
      · rename_i l' hl'
        cases h
        obtain ⟨ns, rfl, rfl⟩ := ih hl' ht
        exact ⟨n :: ns, rfl, rfl⟩
      · simp at h
    · simp at h

theorem run_bytes_loop (ns : List Int) (acc : List UInt8) (w : World) :
    (forIn (ns.map (Value.int .u8)) (⟨acc.toArray⟩ : ByteArray) (fun c s => do
      let .int .u8 n := c | stuck "bytesToString: byte expected"
      pure PUnit.unit
      pure (ForInStep.yield (s.push (UInt8.ofNat n.toNat)))) : Sem ByteArray).run P w = .ok ⟨(acc ++ ns.map fun n => UInt8.ofNat n.toNat).toArray⟩ w := by
  induction ns generalizing acc with
  | nil => simp
  | cons n ns ih =>
    simp only [List.map_cons, List.forIn_cons, Sem.run_bind, Sem.run_pure, Result.andThen_ok]
    have : (ByteArray.mk acc.toArray).push (UInt8.ofNat n.toNat) = ⟨(acc ++ [UInt8.ofNat n.toNat]).toArray⟩ := by
      apply ByteArray.ext; simp [ByteArray.push]
    rw [this, ih]
    simp

theorem toStr_ok (h : Rel w0 ρ s w) {x : V} {K : K0} (hK : toStr x s K) {x' : Value} (hx : VR ρ x x') : GoodV w0 ρ K ((Conv.bytesToString x').run P w) := by
  unfold toStr at hK
  split at hK
  · cases hx
    exact ⟨_, _, rfl, _, _, ρ, hK, Ext.refl ρ, h, .str []⟩
  · rename_i a n c ex
    split at hK
    · rename_i cs hcs
      split at hK
      · rename_i l hl
        obtain ⟨hlen, cs', hr, hrun⟩ := srcN_ok (P := P) h hcs hx
        obtain ⟨ns, rfl, rfl⟩ := bytes_cells hl hr
        cases hx with
        | slice hb hex hin =>
        rename_i b b' o o' c'
        refine ⟨_, _, ?_, _, _, ρ, hK, Ext.refl ρ, h, .str _⟩
        unfold Conv.bytesToString
        simp only [Builtin.firstCells, Nat.mul_one] at hrun
        simp only []
        refine (run_step hrun).trans ?_
        rw [← Array.forIn_toList]
        refine (run_step (a := ⟨(ns.map fun n => UInt8.ofNat n.toNat).toArray⟩) (w' := w) ?_).trans ?_
        · have := run_bytes_loop (P := P) ns [] w
          simp only [List.nil_append] at this
          exact this
        · rfl
      · exact hK.elim
    · exact hK.elim
  · exact hK.elim

theorem toBytes_ok (hty : TyEnv P ty) (h : Rel w0 ρ s w) {e : TypeId} (he : kd ty e = some (.int .u8)) {x : V} {K : K0} (hK : toBytes x s K) {sv : ByteArray} (hx : VR ρ x (.string sv)) :
    GoodV w0 ρ K ((Conv.stringToBytes e sv).run P w) := by
  unfold toBytes at hK
  split at hK
  · rename_i bs
    cases hx
    split at hK
    · rename_i hb
      let cap := grownCap w (ByteArray.mk bs.toArray).size 0 e
      have hge : bs.length ≤ cap := by have := grownCap_ge w (ByteArray.mk bs.toArray).size 0 e; rw [size_mk] at this; exact this
      let all : Array Value := bs.toArray.map (fun b => Value.int .u8 b.toNat) ++ Array.replicate (cap - bs.length) (.int .u8 0)
      have hall : all.size = cap := by simp [all]; omega
      have hvr : VRs ρ (bs.map fun b => V.int .u8 b.toNat) (all.toList.take bs.length) := by
        simp only [all, Array.toList_append, Array.toList_map, List.toList_toArray]
        rw [List.take_append_of_le_length (by simp), List.take_of_length_le (by simp)]
        generalize bs = l
        induction l with
        | nil => exact .nil
        | cons x l ih => exact .cons (.int _ _) ih
      let w1 : World := (w.drew.alloc (.cells all e)).freeze ⟨w.heap.size, cap, none⟩ 1
      have hrun : (Conv.stringToBytes e ⟨bs.toArray⟩).run P w = .ok (.slice (some ⟨w.heap.size, 0, none⟩) bs.length cap) w1 := by
        unfold Conv.stringToBytes
        refine (run_step (a := cap) (w' := w.drew) ?_).trans ?_
        · rw [run_choose]; rfl
        simp only [size_mk]
        refine (run_step (a := (⟨w.heap.size, 0, none⟩ : Addr)) (w' := w.drew.alloc (.cells all e)) ?_).trans ?_
        · simp only [newRow, Sem.run_bind, run_newObj, Result.andThen_ok, Sem.run_pure, World.size_drew, World.alloc_eq]
          rfl
        refine (run_step (a := PUnit.unit) (w' := w1) ?_).trans ?_
        · unfold markStringish
          have hsh : (w.drew.alloc (.cells all e)).shape? w.heap.size = some (e, all.size) := by
            simp only [World.shape?]
            rw [show (w.drew.alloc (.cells all e)).heap[w.heap.size]? = some (.cells all e) from heap_push_eq w.drew _]
          refine (run_step (run_shape P _ _)).trans ?_
          simp only [hsh, hall]
          rfl
        · rfl
      have hrel0 := h.drew.alloc cap (o := .cells (bs.map fun b => V.int .u8 b.toNat) 1) (o' := .cells all e (cap, cap + 1))
        (.cells (by simp [hall]; exact hge) (fun _ => by rw [hall, Nat.mul_one]) (fun i hi => by rw [hall] at hi; simp; omega) (by simpa using hvr))
      have hw1 : w1 = w.drew.alloc (.cells all e (cap, cap + 1)) := by
        simp only [w1, World.freeze, if_neg (show ¬ (1 : Nat) = 0 by omega)]
        unfold World.alloc
        congr 1
        apply Array.ext_getElem?
        intro j
        rw [Array.getElem?_modify]
        simp only [Array.getElem?_push, World.size_drew]
        by_cases hj : w.heap.size = j
        · subst hj; simp
        · rw [if_neg hj]
          by_cases hj2 : j = w.drew.heap.size
          · exact absurd hj2.symm hj
          · simp only [World.size_drew] at hj2; simp [hj2]
      refine ⟨_, _, hrun, _, _, _, hK, hrel0.1, by rw [hw1]; exact hrel0.2, ?_⟩
      exact .slice ⟨cap, by simp [ext1]⟩ (fun e => by cases e) (fun _ => ⟨hge, fun _ => rfl, s.next, cap, rfl, by simp [ext1], fun _ _ => rfl⟩)
    · exact hK.elim
  · exact hK.elim

theorem clr_ok (hty : TyEnv P ty) (h : Rel w0 ρ s w) {t e ty' : TypeId} {ts : Array TypeId} {ti : TI} (hk : kd ty t = some (.slice e)) (he : ty e = some ti)
    (ht0 : ts[0]? = some t) {x : V} {K : K0} (hK : clr ti.size (cellsV ti.zero) x s K) {x' : Value} (hx : VR ρ x x') :
    GoodV w0 ρ K ((Builtin.clear_ ts ty' #[x']).run P w) := by
  obtain ⟨d, hd, hdk⟩ := kd_under hty hk
  obtain rfl := kdOf_slice hdk
  obtain ⟨i, d', z, hi, hd', hz, hk', hsz, hby, hzz⟩ := ty_info hty he
  have hzr := zero_cells ρ z
  rw [← hzz] at hzr
  have run0 : ∀ (v : Value) (w' : World), (v = .slice none 0 0 ∨ (∃ a c, v = .slice a 0 c)) → w' = w → (Builtin.clear_ ts ty' #[v]).run P w = .ok (.tuple #[]) w' := by
    intro v w' hv hw
    subst hw
    unfold Builtin.clear_
    simp only [ht0, List.getElem?_toArray, List.getElem?_cons_zero]
    refine (run_step (run_under hd _)).trans ?_
    rcases hv with rfl | ⟨a, c, rfl⟩
    · rfl
    · cases a <;> rfl
  unfold clr at hK
  split at hK
  · cases hx
    exact ⟨_, _, run0 _ w (.inl rfl) rfl, _, _, ρ, hK, Ext.refl ρ, h, .tuple .nil⟩
  · rename_i a n c ex
    cases hx with
    | slice hb hex hin =>
    rename_i b b' o o' c'
    split at hK
    · rename_i hn
      subst hn
      exact ⟨_, _, run0 _ w (.inr ⟨_, _, rfl⟩) rfl, _, _, ρ, hK, Ext.refl ρ, h, .tuple .nil⟩
    · rename_i hn
      split at hK
      · rename_i hc
        have ho : o' = o := by
          rcases hc.1 with e | e
          · exact (hex e).1
          · cases ex with
            | true => exact (hex rfl).1
            | false => exact (hin rfl).2.1 e
        subst ho
        split at hK
        · rename_i s' hs'
          obtain ⟨w', hst, hrel⟩ := setN_ok (P := P) h hs' (b' := b') hb (zeroCells_VRs hzr n)
          refine ⟨_, _, ?_, _, _, ρ, hK, Ext.refl ρ, hrel, .tuple .nil⟩
          cases n with
          | zero => exact absurd rfl hn
          | succ n =>
            unfold Builtin.clear_
            simp only [ht0, List.getElem?_toArray, List.getElem?_cons_zero]
            refine (run_step (run_under hd w)).trans ?_
            refine (run_step (run_zero hi hz w)).trans ?_
            exact (run_step hst).trans rfl
        · exact hK.elim
      · exact hK.elim
  · exact hK.elim
end
end Go.Rx
end
section
/- Soundness of the operations on maps. -/
namespace Go.Rx
open Go

section
variable {P : Program} {ty : TypeId → Option TI} {w0 : World} {ρ : Ren} {s : AS} {w : World}

inductive FindR (ρ : Ren) : Option (Nat × V) → Option (Nat × Value) → Prop
  | none : FindR ρ none none
  | some {i : Nat} {v : V} {v' : Value} (h : VR ρ v v') : FindR ρ (some (i, v)) (some (i, v'))

theorem keyEq_now {d : TypeDesc} {x y : V} {b : Bool} (h : keyEq (kdOf d) x y = some b) {x' y' : Value} (hx : VR ρ x x') (hy : VR ρ y y') :
    Instr.sameNow d x' y' = some b ∧ (b = true → Instr.sameBits 10000 y' x' = true) := by
  unfold keyEq at h
  split at h
  · rename_i hq
    obtain rfl := kdOf_int hq
    cases hx; cases hy
    split at h
    · rename_i hk; subst hk; cases h
      refine ⟨by simp [Instr.sameNow], fun e => ?_⟩
      simp at e
      simp [Instr.sameBits, e]
    · simp at h
  · rename_i hq
    obtain rfl := kdOf_str hq
    cases hx; cases hy; cases h
    rename_i a b
    have e : ((ByteArray.mk a.toArray) == (ByteArray.mk b.toArray)) = (a == b) := by
      show (a.toArray == b.toArray) = (a == b)
      simp
    refine ⟨by simp only [Instr.sameNow]; rw [e], fun h => ?_⟩
    have hab : a = b := by simpa using h
    subst hab
    simp only [Instr.sameBits]
    show (a.toArray == a.toArray) = true
    simp
  · rename_i hq
    obtain rfl := kdOf_bool hq
    cases hx; cases hy; cases h
    refine ⟨rfl, fun h => ?_⟩
    simp at h
    simp [Instr.sameBits, h]
  · simp at h

theorem keyKd_of_find {q : Kd} {k : V} {es : List (V × V × Nat)} {i : Nat} {r : Option (Nat × V)} (h : findE q k es i = some r) : keyKd q = true := by
  induction es generalizing i with
  | nil => unfold findE at h; split at h; · assumption
           · simp at h
  | cons e es ih =>
    unfold findE at h
    split at h
    · rename_i hk; unfold keyEq at hk; split at hk <;> first | rfl | simp at hk
    · exact ih h
    · simp at h

theorem findE_ok {d : TypeDesc} {k : V} {k' : Value} (hk : VR ρ k k') : ∀ {es : List (V × V × Nat)} {es' : List MapEntry} {i : Nat} {r : Option (Nat × V)},
    findE (kdOf d) k es i = some r → EntsR ρ es es' → ∃ r', Instr.findNow d k' es' i = some r' ∧ FindR ρ r r' ∧
      (∀ j v, r = some (j, v) → i ≤ j ∧ ∃ e, es'[j - i]? = some e ∧ Instr.sameBits 10000 e.key k' = true ∧ j - i < es.length) := by
  intro es
  induction es with
  | nil =>
    intro es' i r h he
    cases he
    unfold findE at h
    split at h
    · cases h; exact ⟨none, rfl, .none, fun j v e => by cases e⟩
    · simp at h
  | cons e es ih =>
    intro es' i r h he
    cases he with
    | cons hee ht =>
    rename_i e' l'
    unfold findE at h
    split at h
    · rename_i hq
      cases h
      obtain ⟨h1, h2⟩ := keyEq_now hq hk hee.1
      refine ⟨some (i, e'.val), by simp [Instr.findNow, h1], .some hee.2.1, fun j v e => ?_⟩
      cases e
      exact ⟨Nat.le_refl _, e', by simp, h2 rfl, by simp⟩
    · rename_i hq
      obtain ⟨h1, h2⟩ := keyEq_now hq hk hee.1
      obtain ⟨r', hr', hfr, hj⟩ := ih h ht
      refine ⟨r', by simp [Instr.findNow, h1, hr'], hfr, fun j v e => ?_⟩
      obtain ⟨hij, e2, he2, hs, hlt⟩ := hj j v e
      refine ⟨by omega, e2, ?_, hs, by simp; omega⟩
      rw [show j - i = (j - (i + 1)) + 1 by omega]
      simpa using he2
    · simp at h

theorem checkKey_ok {q : TypeId} {d : TypeDesc} (hd : P.underlying q = some d) (hk : keyKd (kdOf d) = true) (b : Bool) (k' : Value) (w : World) : (Instr.checkKey b 10000 q k').run P w = .ok () w := by
  rw [show 10000 = 9999 + 1 from rfl]
  unfold Instr.checkKey
  refine (run_step (run_under hd w)).trans ?_
  cases d <;> first | (simp [kdOf, keyKd] at hk; done) | rfl

theorem findKey_ok {q : TypeId} {d : TypeDesc} (hd : P.underlying q = some d) {k' : Value} {es' : List MapEntry} {r' : Option (Nat × Value)} (h : Instr.findNow d k' es' 0 = some r') (w : World) :
    (Instr.findKey q k' es').run P w = .ok r' w := by
  unfold Instr.findKey
  refine (run_step (run_under hd w)).trans ?_
  rw [h]; rfl

theorem mapAt_ok (h : Rel w0 ρ s w) {k : Nat} {es : List (V × V × Nat)} {c : Nat} (hm : mapAt s (.map (some k)) = some (es, c)) :
    ∃ b κ es', ρ k = some (b, κ) ∧ s.get k = some (.map es c) ∧ w.heap[b]? = some (.map es' c) ∧ EntsR ρ es es'.toList := by
  unfold mapAt at hm
  simp only at hm
  split at hm
  · rename_i es1 c1 hg
    cases hm
    obtain ⟨b, κ, o', hρ, hw, ho⟩ := h.live k _ hg
    cases ho with
    | map he => exact ⟨b, κ, _, hρ, hg, hw, he⟩
  · simp at hm

theorem run_getObj {r : Nat} {o : Obj} (h : w.heap[r]? = some o) (hc : ∀ c e f, o ≠ .cells c e f) : (getObj r).run P w = .ok o w := by
  simp only [getObj, Sem.run, h]

theorem run_setObj {r : Nat} {o o2 : Obj} (h : w.heap[r]? = some o) (hc : ∀ c e f, o ≠ .cells c e f) : (setObj r o2).run P w = .ok () { w with heap := w.heap.setIfInBounds r o2 } := by
  simp only [setObj, Sem.run, h]

theorem Rel.setObj (h : Rel w0 ρ s w) {k b κ : Nat} {x o : AObj} {o' : Obj} (hk : s.get k = some x) (hb : ρ k = some (b, κ)) (ho : ORel ρ κ o o') :
    Rel w0 ρ (s.put k (some o)) { w with heap := w.heap.setIfInBounds b o' } := by
  have hlt := (h.rng k b κ hb).2
  refine h.upd hk hb (by simp) rfl rfl rfl ?_ ?_ ho
  · intro c hc
    rw [Array.getElem?_setIfInBounds_ne (by omega)]
  · simp [hlt]

theorem lookV_ok (hty : TyEnv P ty) (h : Rel w0 ρ s w) {t q e : TypeId} {qk : Kd} {ti : TI} (hk : kd ty t = some (.map q e)) (hq : kd ty q = some qk) (he : ty e = some ti) {ok : Bool}
    {m k : V} {K : K0} (hK : lookV qk ti.zero ok m k s K) {m' k' : Value} (hm : VR ρ m m') (hkk : VR ρ k k') : GoodV w0 ρ K ((Instr.lookup t m' k' ok).run P w) := by
  obtain ⟨d, hd, hdk⟩ := kd_under hty hk
  obtain rfl := kdOf_map hdk
  obtain ⟨dq, hdq, rfl⟩ := kd_under hty hq
  obtain ⟨i, d', z, hi, hd', hz, hk', hsz, hby, hzz⟩ := ty_info hty he
  have hzr : VR ρ ti.zero z := by rw [hzz]; exact ofV_VR ρ z
  have fin : ∀ (es : List (V × V × Nat)) (es' : Array MapEntry), EntsR ρ es es'.toList →
      (match findE (kdOf dq) k es 0 with
        | none => False
        | some none => K (tupOk ok false ti.zero) s
        | some (some (_, v)) => K (tupOk ok true v) s) →
      ∃ r' v v', K v s ∧ VR ρ v v' ∧ (∀ b, (Instr.checkKey b 10000 q k').run P w = .ok () w) ∧ (Instr.findKey q k' es'.toList).run P w = .ok r' w ∧
        ((r' = none ∧ v' = if ok then .tuple #[z, .bool false] else z) ∨ ∃ j x, r' = some (j, x) ∧ v' = if ok then .tuple #[x, .bool true] else x) := by
    intro es es' her hh
    cases hf : findE (kdOf dq) k es 0 with
    | none => rw [hf] at hh; exact hh.elim
    | some r =>
      rw [hf] at hh
      obtain ⟨r', hr', hfr, _⟩ := findE_ok hkk hf her
      have hck := fun b => checkKey_ok (P := P) hdq (keyKd_of_find hf) b k' w
      have hfk := findKey_ok (P := P) hdq hr' w
      cases hfr with
      | none =>
        refine ⟨none, _, _, hh, ?_, hck, hfk, .inl ⟨rfl, rfl⟩⟩
        cases ok
        · exact hzr
        · exact .tuple (.cons hzr (.cons (.bool _) .nil))
      | some hv =>
        refine ⟨_, _, _, hh, ?_, hck, hfk, .inr ⟨_, _, rfl, rfl⟩⟩
        cases ok
        · exact hv
        · exact .tuple (.cons hv (.cons (.bool _) .nil))
  unfold lookV at hK
  cases hm with
  | nilmap =>
    simp only at hK
    obtain ⟨r', v, v', hKv, hvr, hck, hfk, hres⟩ := fin [] #[] .nil hK
    refine ⟨v', w, ?_, v, s, ρ, hKv, Ext.refl ρ, h, hvr⟩
    unfold Instr.lookup
    refine (run_step (run_under hd w)).trans ?_
    dsimp only
    refine (run_step (hck _)).trans ?_
    refine (run_step hfk).trans ?_
    rcases hres with ⟨rfl, rfl⟩ | ⟨j, x, rfl, rfl⟩
    · exact (run_step (run_zero hi hz w)).trans rfl
    · rfl
  | map hρ =>
    rename_i r b κ0
    simp only at hK
    split at hK
    · exact hK.elim
    · rename_i es c hma
      obtain ⟨b1, κ, es', hρ1, hg, hw, her⟩ := mapAt_ok h hma
      rw [hρ] at hρ1
      obtain ⟨rfl, rfl⟩ : b = b1 ∧ κ0 = κ := by simpa using hρ1
      obtain ⟨r', v, v', hKv, hvr, hck, hfk, hres⟩ := fin es es' her hK
      refine ⟨v', w, ?_, v, s, ρ, hKv, Ext.refl ρ, h, hvr⟩
      unfold Instr.lookup
      refine (run_step (run_under hd w)).trans ?_
      dsimp only
      refine (run_step (run_getObj hw (by intro _ _ _ e; cases e))).trans ?_
      dsimp only
      refine (run_step (hck _)).trans ?_
      refine (run_step hfk).trans ?_
      rcases hres with ⟨rfl, rfl⟩ | ⟨j, x, rfl, rfl⟩
      · exact (run_step (run_zero hi hz w)).trans rfl
      · rfl
  | junk => simp [mapAt] at hK
  | _ => simp [mapAt] at hK

theorem EntsR.length {l : List (V × V × Nat)} {l' : List MapEntry} (h : EntsR ρ l l') : l'.length = l.length := by
  induction h with
  | nil => rfl
  | cons _ _ ih => simp [ih]

theorem EntsR.append {a b : List (V × V × Nat)} {a' b' : List MapEntry} (h : EntsR ρ a a') (g : EntsR ρ b b') : EntsR ρ (a ++ b) (a' ++ b') := by
  induction h with
  | nil => exact g
  | cons he _ ih => exact .cons he ih

theorem EntsR.modify {l : List (V × V × Nat)} {l' : List MapEntry} (h : EntsR ρ l l') (i : Nat) {k v : V} {k' v' : Value} (hk : VR ρ k k') (hv : VR ρ v v') :
    EntsR ρ (updE l i k v) (l'.modify i fun e => { e with key := k', val := v' }) := by
  unfold updE
  induction h generalizing i with
  | nil => simp; exact .nil
  | cons he ht ih =>
    cases i with
    | zero => simp; exact .cons ⟨hk, hv, he.2.2⟩ ht
    | succ i => simp only [List.modify_succ_cons]; exact .cons he (ih i)

theorem EntsR.erase {l : List (V × V × Nat)} {l' : List MapEntry} (h : EntsR ρ l l') (i : Nat) : EntsR ρ (l.eraseIdx i) (l'.eraseIdx i) := by
  induction h generalizing i with
  | nil => simp; exact .nil
  | cons he ht ih =>
    cases i with
    | zero => exact ht
    | succ i => exact .cons he (ih i)

theorem mapSet_ok (hty : TyEnv P ty) (h : Rel w0 ρ s w) {t q e : TypeId} {qk : Kd} (hk : kd ty t = some (.map q e)) (hq : kd ty q = some qk)
    {m k v : V} {K : K0} (hK : mapSet qk m k v s K) {m' k' v' : Value} (hm : VR ρ m m') (hkk : VR ρ k k') (hv : VR ρ v v') : GoodU w0 ρ K ((Instr.mapUpdate t m' k' v').run P w) := by
  obtain ⟨d, hd, hdk⟩ := kd_under hty hk
  obtain rfl := kdOf_map hdk
  obtain ⟨dq, hdq, rfl⟩ := kd_under hty hq
  unfold mapSet at hK
  split at hK
  · rename_i r es c hma
    cases hm with
    | map hρ =>
    rename_i b κ0
    obtain ⟨b1, κ, es', hρ1, hg, hw, her⟩ := mapAt_ok h hma
    rw [hρ] at hρ1
    obtain ⟨rfl, rfl⟩ : b = b1 ∧ κ0 = κ := by simpa using hρ1
    have hgo : (getObj b).run P w = .ok (.map es' c) w := run_getObj hw (by intro _ _ _ e; cases e)
    split at hK
    · exact hK.elim
    · rename_i i x hf
      obtain ⟨r', hr', hfr, hj⟩ := findE_ok hkk hf her
      cases hfr with
      | some hx =>
      obtain ⟨_, e2, he2, hsb, hlt⟩ := hj i x rfl
      simp only [Nat.sub_zero] at he2
      have hck := checkKey_ok (P := P) hdq (keyKd_of_find hf) false k' w
      have hfk := findKey_ok (P := P) hdq hr' w
      have hrel := h.setObj hg hρ (.map (clock := c) (es' := es'.modify i fun e => { e with key := k', val := v' }) (by rw [Array.toList_modify]; exact her.modify i hkk hv))
      refine ⟨_, ?_, s.put r (some (.map (updE es i k v) c)), ρ, hK, Ext.refl ρ, hrel⟩
      unfold Instr.mapUpdate
      refine (run_step (run_under hd w)).trans ?_
      refine (run_step hgo).trans ?_
      refine (run_step hck).trans ?_
      refine (run_step hfk).trans ?_
      refine (run_step (a := k') (w' := w) ?_).trans ?_
      · have : (((es'[i]?).map (·.key)).getD k') = e2.key := by
          have : es'[i]? = some e2 := by simpa using he2
          simp [this]
        rw [this]
        unfold Instr.keyThatStays
        rw [if_pos hsb]; rfl
      · exact run_setObj hw (by intro _ _ _ e; cases e)
    · rename_i hf
      obtain ⟨r', hr', hfr, _⟩ := findE_ok hkk hf her
      cases hfr
      have hck := checkKey_ok (P := P) hdq (keyKd_of_find hf) false k' w
      have hfk := findKey_ok (P := P) hdq hr' w
      have hrel := h.setObj hg hρ (.map (clock := c + 1) (es' := es'.push { key := k', val := v', born := c }) (by rw [Array.toList_push]; exact her.append (.cons (e := (k, v, c)) ⟨hkk, hv, rfl⟩ .nil)))
      refine ⟨_, ?_, s.put r (some (.map (es ++ [(k, v, c)]) (c + 1))), ρ, hK, Ext.refl ρ, hrel⟩
      unfold Instr.mapUpdate
      refine (run_step (run_under hd w)).trans ?_
      refine (run_step hgo).trans ?_
      refine (run_step hck).trans ?_
      refine (run_step hfk).trans ?_
      exact run_setObj hw (by intro _ _ _ e; cases e)
  · exact hK.elim

theorem mapDel_ok (hty : TyEnv P ty) (h : Rel w0 ρ s w) {t q e ty' : TypeId} {ts : Array TypeId} {qk : Kd} (hk : kd ty t = some (.map q e)) (hq : kd ty q = some qk) (ht0 : ts[0]? = some t)
    {m k : V} {K : K0} (hK : mapDel qk m k s K) {m' k' : Value} (hm : VR ρ m m') (hkk : VR ρ k k') : GoodV w0 ρ K ((Builtin.delete_ ts ty' #[m', k']).run P w) := by
  obtain ⟨d, hd, hdk⟩ := kd_under hty hk
  obtain rfl := kdOf_map hdk
  obtain ⟨dq, hdq, rfl⟩ := kd_under hty hq
  unfold mapDel at hK
  split at hK
  · cases hm
    split at hK
    · rename_i hkd
      refine ⟨.tuple #[], w, ?_, _, _, ρ, hK, Ext.refl ρ, h, .tuple .nil⟩
      unfold Builtin.delete_
      simp only [ht0, List.getElem?_toArray, List.getElem?_cons_zero, List.getElem?_cons_succ]
      refine (run_step (run_under hd w)).trans ?_
      exact (run_step (checkKey_ok (P := P) hdq hkd true k' w)).trans rfl
    · exact hK.elim
  · rename_i r
    cases hm with
    | map hρ =>
    rename_i b κ0
    split at hK
    · rename_i es c hma
      obtain ⟨b1, κ, es', hρ1, hg, hw, her⟩ := mapAt_ok h hma
      rw [hρ] at hρ1
      obtain ⟨rfl, rfl⟩ : b = b1 ∧ κ0 = κ := by simpa using hρ1
      have hgo : (getObj b).run P w = .ok (.map es' c) w := run_getObj hw (by intro _ _ _ e; cases e)
      split at hK
      · exact hK.elim
      · rename_i i x hf
        obtain ⟨r', hr', hfr, _⟩ := findE_ok hkk hf her
        cases hfr with
        | some hx =>
        have hck := checkKey_ok (P := P) hdq (keyKd_of_find hf) es'.isEmpty k' w
        have hfk := findKey_ok (P := P) hdq hr' w
        have hrel := h.setObj hg hρ (.map (clock := c) (es' := es'.eraseIdxIfInBounds i) (by
          have : (es'.eraseIdxIfInBounds i).toList = es'.toList.eraseIdx i := by
            unfold Array.eraseIdxIfInBounds
            split
            · simp
            · rename_i hlt
              rw [List.eraseIdx_of_length_le (by simp; omega)]
          rw [this]; exact her.erase i))
        refine ⟨.tuple #[], _, ?_, undefV, s.put r (some (.map (es.eraseIdx i) c)), ρ, hK, Ext.refl ρ, hrel, .tuple .nil⟩
        unfold Builtin.delete_
        simp only [ht0, List.getElem?_toArray, List.getElem?_cons_zero, List.getElem?_cons_succ]
        refine (run_step (run_under hd w)).trans ?_
        refine (run_step hgo).trans ?_
        refine (run_step hck).trans ?_
        refine (run_step hfk).trans ?_
        exact (run_step (run_setObj hw (by intro _ _ _ e; cases e))).trans rfl
      · rename_i hf
        obtain ⟨r', hr', hfr, _⟩ := findE_ok hkk hf her
        cases hfr
        have hck := checkKey_ok (P := P) hdq (keyKd_of_find hf) es'.isEmpty k' w
        have hfk := findKey_ok (P := P) hdq hr' w
        have hrel := h.setObj hg hρ (.map (clock := c) (es' := es') her)
        refine ⟨.tuple #[], _, ?_, undefV, s.put r (some (.map es c)), ρ, hK, Ext.refl ρ, hrel, .tuple .nil⟩
        unfold Builtin.delete_
        simp only [ht0, List.getElem?_toArray, List.getElem?_cons_zero, List.getElem?_cons_succ]
        refine (run_step (run_under hd w)).trans ?_
        refine (run_step hgo).trans ?_
        refine (run_step hck).trans ?_
        refine (run_step hfk).trans ?_
        exact (run_step (run_setObj hw (by intro _ _ _ e; cases e))).trans rfl
    · exact hK.elim
  · exact hK.elim

theorem mkMap_ok (h : Rel w0 ρ s w) {K : K0} (hK : mkMap s K) : GoodV w0 ρ K ((do pure (.map (some (← newObj (.map #[] 0)))) : Sem Value).run P w) := by
  have := h.alloc 0 (o := .map [] 0) (o' := .map #[] 0) (.map .nil)
  exact ⟨_, _, by simp only [Sem.run_bind, run_newObj, Result.andThen_ok, Sem.run_pure]; rfl, _, _, _, hK, this.1, this.2, .map (κ := 0) (by simp [ext1])⟩

theorem mapLen_ok (hty : TyEnv P ty) (h : Rel w0 ρ s w) {t q e ty' : TypeId} {ts : Array TypeId} (hk : kd ty t = some (.map q e)) (ht0 : ts[0]? = some t)
    {m : V} {K : K0} (hK : mapLen m s K) {m' : Value} (hm : VR ρ m m') : GoodV w0 ρ K ((Builtin.len_ ts ty' #[m']).run P w) := by
  obtain ⟨d, hd, hdk⟩ := kd_under hty hk
  obtain rfl := kdOf_map hdk
  unfold mapLen at hK
  split at hK
  · rename_i es c hma
    cases hm with
    | map hρ =>
      rename_i r b κ0
      obtain ⟨b1, κ, es', hρ1, hg, hw, her⟩ := mapAt_ok h hma
      rw [hρ] at hρ1
      obtain ⟨rfl, rfl⟩ : b = b1 ∧ κ0 = κ := by simpa using hρ1
      have hgo : (getObj b).run P w = .ok (.map es' c) w := run_getObj hw (by intro _ _ _ e; cases e)
      have hl : es'.size = es.length := by have := her.length; simpa using this
      refine ⟨.int .i64 (es'.size : Nat), w, ?_, _, _, ρ, hK, Ext.refl ρ, h, by rw [hl]; exact .int _ _⟩
      unfold Builtin.len_
      simp only [ht0, List.getElem?_toArray, List.getElem?_cons_zero]
      refine (run_step (run_under hd w)).trans ?_
      exact (run_step hgo).trans rfl
    | _ => simp [mapAt] at hma
  · exact hK.elim

theorem rangeM_ok (hty : TyEnv P ty) (h : Rel w0 ρ s w) {t q e : TypeId} (hk : kd ty t = some (.map q e)) {m : V} {K : K0} (hK : rangeM m s K) {m' : Value} (hm : VR ρ m m') :
    GoodV w0 ρ K ((Instr.range t m').run P w) := by
  obtain ⟨d, hd, hdk⟩ := kd_under hty hk
  obtain rfl := kdOf_map hdk
  unfold rangeM at hK
  split at hK
  · cases hm
    have := h.alloc 0 (o := .miter none 0 [] 0) (o' := .mapIter none 0 #[] 0) .miter0
    refine ⟨_, _, ?_, _, _, _, hK, this.1, this.2, .ptr (b' := w.heap.size) ⟨0, by simp [ext1]⟩⟩
    unfold Instr.range
    refine (run_step (run_under hd w)).trans ?_
    refine (run_step (a := .mapIter none 0 #[] 0) (w' := w) rfl).trans ?_
    simp only [Sem.run_bind, run_newObj, Result.andThen_ok, Sem.run_pure, World.alloc_eq]
  · rename_i k
    split at hK
    · rename_i es c hma
      cases hm with
      | map hρ =>
      rename_i b κ0
      obtain ⟨b1, κ, es', hρ1, hg, hw, her⟩ := mapAt_ok h hma
      rw [hρ] at hρ1
      obtain ⟨rfl, rfl⟩ : b = b1 ∧ κ0 = κ := by simpa using hρ1
      have hgo : (getObj b).run P w = .ok (.map es' c) w := run_getObj hw (by intro _ _ _ e; cases e)
      have := h.alloc 0 (o := .miter (some k) c [] c) (o' := .mapIter (some b) c #[] c) (.miter hρ)
      refine ⟨_, _, ?_, _, _, _, hK, this.1, this.2, .ptr (b' := w.heap.size) ⟨0, by simp [ext1]⟩⟩
      unfold Instr.range
      refine (run_step (run_under hd w)).trans ?_
      dsimp only
      refine (run_step hgo).trans ?_
      dsimp only
      refine (run_step (a := .mapIter (some b) c #[] c) (w' := w) rfl).trans ?_
      simp only [Sem.run_bind, run_newObj, Result.andThen_ok, Sem.run_pure, World.alloc_eq]
    · exact hK.elim
  · exact hK.elim

theorem rangeS_ok (hty : TyEnv P ty) (h : Rel w0 ρ s w) {t : TypeId} (hk : kd ty t = some .str) {x : V} {K : K0} (hK : rangeS x s K) {x' : Value} (hx : VR ρ x x') :
    GoodV w0 ρ K ((Instr.range t x').run P w) := by
  obtain ⟨d, hd, hdk⟩ := kd_under hty hk
  obtain rfl := kdOf_str hdk
  unfold rangeS at hK
  split at hK
  · rename_i bs
    cases hx
    have := h.alloc 0 (o := .siter bs 0) (o' := .stringIter ⟨bs.toArray⟩ 0) .siter
    refine ⟨_, _, ?_, _, _, _, hK, this.1, this.2, .ptr (b' := w.heap.size) ⟨0, by simp [ext1]⟩⟩
    unfold Instr.range
    refine (run_step (run_under hd w)).trans ?_
    refine (run_step (a := .stringIter ⟨bs.toArray⟩ 0) (w' := w) rfl).trans ?_
    simp only [Sem.run_bind, run_newObj, Result.andThen_ok, Sem.run_pure, World.alloc_eq]
  · exact hK.elim
end
end Go.Rx
end
section
/- Every operation goes on with what it is given, and has an outcome. -/
namespace Go.Rx
open Go

/-- Monotone, and never without an outcome. -/
structure Prd (m : M) : Prop where
  mono : ∀ (s : AS) (K K' : K0), (∀ v s', K v s' → K' v s') → m s K → m s K'
  live : ∀ (s : AS) (K : K0), m s K → ∃ v s', K v s'

theorem Prd.no : Prd (fun _ _ => False) := ⟨fun _ _ _ _ h => h, fun _ _ h => h.elim⟩
theorem Prd.of_det {m : M} (h : ∀ s, (∃ v s', ∀ K, m s K ↔ K v s') ∨ ∀ K, ¬ m s K) : Prd m := by
  refine ⟨fun s K K' hk hm => ?_, fun s K hm => ?_⟩
  · rcases h s with ⟨v, s', hv⟩ | hn
    · exact (hv K').2 (hk _ _ ((hv K).1 hm))
    · exact (hn K hm).elim
  · rcases h s with ⟨v, s', hv⟩ | hn
    · exact ⟨v, s', (hv K).1 hm⟩
    · exact (hn K hm).elim

abbrev DetAt (m : M) (s : AS) : Prop := (∃ v s', ∀ K, m s K ↔ K v s') ∨ ∀ K, ¬ m s K

theorem det_optK (o : Option V) : ∀ s, DetAt (fun s K => optK o s K) s := by
  intro s; cases o with
  | none => exact .inr fun K h => h
  | some v => exact .inl ⟨v, s, fun K => Iff.rfl⟩

theorem det_ld1 (p : V) (s : AS) : DetAt (ld1 p) s := by
  unfold DetAt ld1
  split
  · exact det_optK _ s
  · exact .inr fun K h => h
theorem det_ldA (n : Nat) (p : V) (s : AS) : DetAt (ldA n p) s := by
  unfold DetAt ldA
  split
  · split
    · exact .inl ⟨_, s, fun K => Iff.rfl⟩
    · exact .inr fun K h => h
  · exact .inr fun K h => h
theorem det_ldT (ti : TI) (p : V) (s : AS) : DetAt (ldT ti p) s := by
  unfold DetAt ldT
  cases isAggK ti.kind
  · exact det_ld1 _ s
  · exact det_ldA _ _ s
theorem det_st (n : Nat) (p v : V) (s : AS) : DetAt (st n p v) s := by
  unfold DetAt st
  split
  · exact .inr fun K h => h
  · split
    · split
      · exact .inl ⟨_, _, fun K => Iff.rfl⟩
      · exact .inr fun K h => h
    · exact .inr fun K h => h
  · exact .inr fun K h => h
theorem det_newC (cs : List V) (s : AS) : DetAt (newC cs) s := .inl ⟨_, _, fun K => Iff.rfl⟩
theorem det_newS (cs : List V) (n : Nat) (s : AS) : DetAt (newS cs n) s := .inl ⟨_, _, fun K => Iff.rfl⟩
theorem det_boxV (v : V) (s : AS) : DetAt (boxV v) s := by
  unfold DetAt boxV
  split
  · exact .inr fun K h => h
  · exact det_newC _ s
theorem det_app (size bytes : Nat) (sl x : V) (s : AS) : DetAt (app size bytes sl x) s := by
  unfold DetAt app
  split
  · exact .inr fun K h => h
  · split
    · exact .inr fun K h => h
    · split
      · split
        · exact .inl ⟨_, _, fun K => Iff.rfl⟩
        · split
          · exact .inl ⟨_, _, fun K => Iff.rfl⟩
          · exact .inr fun K h => h
      · split
        · split
          · exact .inl ⟨_, _, fun K => Iff.rfl⟩
          · exact .inr fun K h => h
        · split
          · split
            · exact .inl ⟨_, _, fun K => Iff.rfl⟩
            · exact .inr fun K h => h
          · split
            · exact .inr fun K h => h
            · split
              · split
                · exact .inl ⟨_, _, fun K => Iff.rfl⟩
                · split
                  · split
                    · exact .inl ⟨_, _, fun K => Iff.rfl⟩
                    · exact .inr fun K h => h
                  · exact .inr fun K h => h
              · exact .inr fun K h => h
      · exact .inr fun K h => h
theorem det_cpy (size : Nat) (x y : V) (s : AS) : DetAt (cpy size x y) s := by
  unfold DetAt cpy
  split
  · exact .inl ⟨_, _, fun K => Iff.rfl⟩
  · split
    · exact .inr fun K h => h
    · split
      · exact .inl ⟨_, _, fun K => Iff.rfl⟩
      · split
        · split
          · exact .inl ⟨_, _, fun K => Iff.rfl⟩
          · exact .inr fun K h => h
        · exact .inr fun K h => h
  · exact .inr fun K h => h
theorem det_mkSl (size bytes : Nat) (z : List V) (l c : V) (s : AS) : DetAt (mkSl size bytes z l c) s := by
  unfold DetAt mkSl
  split
  · split
    · exact .inl ⟨_, _, fun K => Iff.rfl⟩
    · exact .inr fun K h => h
  · exact .inr fun K h => h
theorem det_toStr (x : V) (s : AS) : DetAt (toStr x) s := by
  unfold DetAt toStr
  split
  · exact .inl ⟨_, _, fun K => Iff.rfl⟩
  · split
    · split
      · exact .inl ⟨_, _, fun K => Iff.rfl⟩
      · exact .inr fun K h => h
    · exact .inr fun K h => h
  · exact .inr fun K h => h
theorem det_toBytes (x : V) (s : AS) : DetAt (toBytes x) s := by
  unfold DetAt toBytes
  split
  · split
    · exact .inl ⟨_, _, fun K => Iff.rfl⟩
    · exact .inr fun K h => h
  · exact .inr fun K h => h
theorem det_clr (size : Nat) (z : List V) (x : V) (s : AS) : DetAt (clr size z x) s := by
  unfold DetAt clr
  split
  · exact .inl ⟨_, _, fun K => Iff.rfl⟩
  · split
    · exact .inl ⟨_, _, fun K => Iff.rfl⟩
    · split
      · split
        · exact .inl ⟨_, _, fun K => Iff.rfl⟩
        · exact .inr fun K h => h
      · exact .inr fun K h => h
  · exact .inr fun K h => h
theorem det_lookV (q : Kd) (z : V) (ok : Bool) (m k : V) (s : AS) : DetAt (lookV q z ok m k) s := by
  unfold DetAt lookV
  split
  · exact .inr fun K h => h
  · split
    · exact .inr fun K h => h
    · exact .inl ⟨_, _, fun K => Iff.rfl⟩
    · exact .inl ⟨_, _, fun K => Iff.rfl⟩
theorem det_mapSet (q : Kd) (m k v : V) (s : AS) : DetAt (mapSet q m k v) s := by
  unfold DetAt mapSet
  split
  · split
    · exact .inr fun K h => h
    · exact .inl ⟨_, _, fun K => Iff.rfl⟩
    · exact .inl ⟨_, _, fun K => Iff.rfl⟩
  · exact .inr fun K h => h
theorem det_mapDel (q : Kd) (m k : V) (s : AS) : DetAt (mapDel q m k) s := by
  unfold DetAt mapDel
  split
  · split
    · exact .inl ⟨_, _, fun K => Iff.rfl⟩
    · exact .inr fun K h => h
  · split
    · split
      · exact .inr fun K h => h
      · exact .inl ⟨_, _, fun K => Iff.rfl⟩
      · exact .inl ⟨_, _, fun K => Iff.rfl⟩
    · exact .inr fun K h => h
  · exact .inr fun K h => h
theorem det_mapLen (m : V) (s : AS) : DetAt (mapLen m) s := by
  unfold DetAt mapLen
  split
  · exact .inl ⟨_, _, fun K => Iff.rfl⟩
  · exact .inr fun K h => h
theorem det_rangeM (m : V) (s : AS) : DetAt (rangeM m) s := by
  unfold DetAt rangeM
  split
  · exact .inl ⟨_, _, fun K => Iff.rfl⟩
  · split
    · exact .inl ⟨_, _, fun K => Iff.rfl⟩
    · exact .inr fun K h => h
  · exact .inr fun K h => h
theorem det_rangeS (x : V) (s : AS) : DetAt (rangeS x) s := by
  unfold DetAt rangeS
  split
  · exact .inl ⟨_, _, fun K => Iff.rfl⟩
  · exact .inr fun K h => h

theorem det_entryM (it : V) (s : AS) : DetAt (entryM it) s := by
  unfold DetAt entryM
  split
  · split
    · split
      · split
        · split
          · split
            · exact .inl ⟨_, _, fun K => Iff.rfl⟩
            · exact .inr fun K h => h
          · exact .inr fun K h => h
        · exact .inr fun K h => h
      · exact .inr fun K h => h
    · exact .inr fun K h => h
  · exact .inr fun K h => h

theorem prd_nextM (it : V) : Prd (nextM it) := by
  constructor
  · intro s K K' hk h
    unfold nextM at h ⊢
    split at h
    · split at h
      · exact hk _ _ h
      · split at h
        · split at h
          · exact h.elim
          · rename_i hc
            rw [if_neg hc]
            exact ⟨fun e => hk _ _ (h.1 e), fun e he hs => hk _ _ (h.2 e he hs)⟩
        · exact h.elim
      · exact h.elim
    · exact h.elim
  · intro s K h
    unfold nextM at h
    split at h
    · split at h
      · exact ⟨_, _, h⟩
      · rename_i m since seen last _
        split at h
        · rename_i es clock _
          split at h
          · exact h.elim
          · cases hf : (es.filter fun e => !seen.contains e.2.2).filter (fun e => decide (e.2.2 < since)) with
            | nil => exact ⟨_, _, h.1 hf⟩
            | cons e l =>
              have : e ∈ (es.filter fun e => !seen.contains e.2.2).filter (fun e => decide (e.2.2 < since)) := by rw [hf]; simp
              rw [List.mem_filter, List.mem_filter] at this
              exact ⟨_, _, h.2 e this.1.1 (by simpa using this.1.2)⟩
        · exact h.elim
      · exact h.elim
    · exact h.elim

structure EnvPrd (E : Env) : Prop where
  C : ∀ f args, Prd (E.C f args)

theorem prd_callV {E : Env} (hE : EnvPrd E) (f : V) (args : List V) : Prd (callV E f args) := by
  constructor
  · intro s K K' hk h
    unfold callV at h ⊢
    split at h
    · exact (hE.C _ _).mono _ _ _ hk h
    · exact h.elim
  · intro s K h
    unfold callV at h
    split at h
    · exact (hE.C _ _).live _ _ h
    · exact h.elim

theorem prd_invV {E : Env} (hE : EnvPrd E) (r : V) (name : String) (args : List V) : Prd (invV E r name args) := by
  constructor
  · intro s K K' hk h
    unfold invV at h ⊢
    split at h
    · split at h
      · exact (hE.C _ _).mono _ _ _ hk h
      · exact h.elim
    · exact h.elim
  · intro s K h
    unfold invV at h
    split at h
    · split at h
      · exact (hE.C _ _).live _ _ h
      · exact h.elim
    · exact h.elim

theorem prd_builtin {E : Env} (b : Builtin) (ts : List TypeId) (args : List V) : Prd (builtinOp E b ts args) := by
  apply Prd.of_det
  intro s
  unfold builtinOp
  split
  · split
    · split
      · exact .inr fun K h => h
      · split
        · exact det_app _ _ _ _ s
        · exact .inr fun K h => h
      · exact .inr fun K h => h
    · exact .inr fun K h => h
  · split
    · split
      · exact det_cpy _ _ _ s
      · exact .inr fun K h => h
    · exact .inr fun K h => h
  · split
    · split
      · exact det_clr _ _ _ s
      · exact .inr fun K h => h
    · exact .inr fun K h => h
  · split
    · exact det_mapLen _ s
    · exact .inr fun K h => h
  · split
    · split
      · exact det_mapDel _ _ _ s
      · exact .inr fun K h => h
    · exact .inr fun K h => h
  · exact .inr fun K h => h

theorem prd_evOp {E : Env} (hE : EnvPrd E) (o : Op) (ev : Ev) : Prd (evOp E o ev) := by
  unfold evOp
  split
  · exact Prd.of_det (det_optK _)
  · split
    · split
      · exact Prd.of_det (det_ldT _ _)
      · exact Prd.no
    · split
      · exact Prd.of_det (det_st _ _ _)
      · exact Prd.no
    · split
      · exact Prd.of_det (det_boxV _)
      · exact Prd.no
    · split
      · exact Prd.of_det (det_boxV _)
      · exact Prd.no
    · apply Prd.of_det
      intro s
      split
      · split
        · split
          · split
            · split
              · exact det_newS _ _ s
              · exact .inr fun K h => h
            · exact .inr fun K h => h
          · exact .inr fun K h => h
        · exact .inr fun K h => h
      · exact .inr fun K h => h
    · apply Prd.of_det
      intro s
      split
      · split
        · exact det_toStr _ s
        · exact .inr fun K h => h
      · split
        · exact det_toBytes _ s
        · exact .inr fun K h => h
      · exact .inr fun K h => h
    · apply Prd.of_det
      intro s
      split
      · split
        · exact det_mkSl _ _ _ _ _ s
        · exact .inr fun K h => h
      · exact .inr fun K h => h
    · apply Prd.of_det
      intro s
      split
      · exact .inl ⟨_, _, fun K => Iff.rfl⟩
      · split
        · exact .inl ⟨_, _, fun K => Iff.rfl⟩
        · exact .inr fun K h => h
    · apply Prd.of_det
      intro s
      split
      · split
        · exact det_lookV _ _ _ _ _ s
        · exact .inr fun K h => h
      · exact .inr fun K h => h
    · apply Prd.of_det
      intro s
      split
      · split
        · exact det_mapSet _ _ _ _ s
        · exact .inr fun K h => h
      · exact .inr fun K h => h
    · apply Prd.of_det
      intro s
      split
      · split
        · exact det_mapSet _ _ _ _ s
        · exact .inr fun K h => h
      · exact .inr fun K h => h
    · apply Prd.of_det
      intro s
      split
      · exact det_rangeM _ s
      · exact det_rangeS _ s
      · exact .inr fun K h => h
    · split
      · exact prd_nextM _
      · exact Prd.no
    · apply Prd.of_det
      intro s
      exact det_entryM _ s
    · split
      · exact prd_callV hE _ _
      · exact prd_invV hE _ _ _
      · exact prd_builtin _ _ _
    · exact Prd.no
end Go.Rx
end
