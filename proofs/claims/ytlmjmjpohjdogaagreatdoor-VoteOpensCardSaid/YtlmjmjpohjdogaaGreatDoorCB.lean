/- A part of the proofs of the Vote laws: contracts of the digest's functions. -/
import Derived.Test.YtlmjmjpohjdogaaGreatDoorCA
import Derived.Test.YtlmjmjpohjdogaaGreatDoorRxD
set_option linter.unusedVariables false
set_option linter.unusedSimpArgs false
section
/- SHA-256: words. -/
namespace Go.Proofs.Vt
open Go Go.Rx Go.Proofs

def turnW (x : BitVec 32) (n : Nat) : BitVec 32 := (x >>> n) ||| (x <<< (32 - n))

theorem turn_ok (x : BitVec 32) (n : Nat) (hn : n ≤ 32) (s : AS) (K : K0) : fn190 (w32 x) (.int .i64 (n : Nat)) s K = K (w32 (turnW x n)) s := by
  unfold fn190 fn190_q turnW
  have w : IntKind.i64.wrap (32 - (n : Int)) = ((32 - n : Nat) : Int) := by rw [wrap64 (by omega) (by omega)]; omega
  simp only [w_shr _ _ _ x n hn, optK_some, bin_sub, w, w_shl _ _ _ x (32 - n) (by omega), w_or]
end Go.Proofs.Vt
end
section
/- SHA-256: the words of a block. -/
namespace Go.Proofs.Vt
open Go Go.Rx Go.Proofs

def byteW (y : UInt8) : BitVec 32 := BitVec.ofNat 32 y.toNat
theorem cvt_byte (y : UInt8) (s : AS) (K : K0) : cvt (Kd.int .u8) (Kd.int .u32) (byteV y) s K = K (w32 (byteW y)) s := by
  have h : IntKind.u32.wrap (y.toNat : Int) = ((byteW y).toNat : Int) := by
    have := y.toNat_lt
    rw [wrapu32 (by omega) (by omega)]
    unfold byteW
    rw [BitVec.toNat_ofNat, Nat.mod_eq_of_lt (by omega)]
  show K (.int .u32 (IntKind.u32.wrap (y.toNat : Int))) s = _
  rw [h]; rfl

def be4 (ys : List UInt8) (i : Nat) : BitVec 32 :=
  (((byteW (ys.getD (4 * i) 0) <<< 24) ||| (byteW (ys.getD (4 * i + 1) 0) <<< 16)) ||| (byteW (ys.getD (4 * i + 2) 0) <<< 8)) ||| byteW (ys.getD (4 * i + 3) 0)
def nextW (ys : List UInt8) (l : List (BitVec 32)) (i : Nat) : BitVec 32 :=
  if i < 16 then be4 ys i else
    (((turnW (l.getD (i - 2) 0) 17 ^^^ turnW (l.getD (i - 2) 0) 19) ^^^ (l.getD (i - 2) 0 >>> 10)) + l.getD (i - 7) 0 +
      ((turnW (l.getD (i - 15) 0) 7 ^^^ turnW (l.getD (i - 15) 0) 18) ^^^ (l.getD (i - 15) 0 >>> 3))) + l.getD (i - 16) 0
def wordsL (ys : List UInt8) : Nat → List (BitVec 32)
  | 0 => []
  | i + 1 => wordsL ys i ++ [nextW ys (wordsL ys i) i]
@[simp] theorem wordsL_length (ys : List UInt8) (i : Nat) : (wordsL ys i).length = i := by
  induction i with
  | zero => rfl
  | succ i ih => simp [wordsL, ih]

/-- The words in memory, up to one. -/
def wCells (ys : List UInt8) (i : Nat) : List V := (wordsL ys i).map w32 ++ List.replicate (64 - i) (.int .u32 0)
theorem wCells_length (ys : List UInt8) {i : Nat} (hi : i ≤ 64) : (wCells ys i).length = 64 := by simp [wCells]; omega
theorem wCells_get (ys : List UInt8) {i j : Nat} (hj : j < i) : (wCells ys i)[j]? = some (w32 ((wordsL ys i).getD j 0)) := by
  unfold wCells
  rw [List.getElem?_append_left (by simpa using hj), List.getElem?_map, List.getD_eq_getElem?_getD]
  have : j < (wordsL ys i).length := by simpa using hj
  rw [List.getElem?_eq_getElem this]; rfl
theorem wCells_set (ys : List UInt8) {i : Nat} (hi : i < 64) : (wCells ys i).set i (w32 (nextW ys (wordsL ys i) i)) = wCells ys (i + 1) := by
  unfold wCells
  rw [List.set_append_right _ _ (by simp)]
  obtain ⟨m, hm⟩ : ∃ m, 64 - i = m + 1 := ⟨64 - i - 1, by omega⟩
  have hm' : 64 - (i + 1) = m := by omega
  rw [hm, hm']
  simp [wordsL, List.replicate_succ]

theorem elemA_ok {n i o : Nat} {b : Blk} {q : IntKind} (hi : i < n) : elemPtr (some n) 1 (.ptr (some ⟨b, o⟩)) (.int q (i : Nat)) = some (.ptr (some ⟨b, o + i⟩)) := by
  have : (0 : Int) ≤ (i : Nat) ∧ ((i : Nat) : Int) < n := ⟨by omega, by omega⟩
  simp only [elemPtr]
  rw [if_pos this]
  simp [add]
end Go.Proofs.Vt
end
section
/- SHA-256: the loop that makes a block's words. -/
namespace Go.Proofs.Vt
open Go Go.Rx Go.Proofs
variable {G : Nat → Option (List V)}

theorem rd_at {s : AS} {v : V} {ys : List UInt8} (h : Rd s v ys) {i : Nat} (hi : i < ys.length) : ∃ p, elemPtr none 1 v (.int .i64 (i : Nat)) = some (.ptr (some p)) ∧ ∀ K, ld1 (.ptr (some p)) s K = K (byteV (ys.getD i 0)) s := by
  have : ys[i]? = some (ys.getD i 0) := by rw [List.getD_eq_getElem?_getD, List.getElem?_eq_getElem hi]; rfl
  exact rd_elem h this .i64

theorem sameV_w32 (x : BitVec 32) : sameV (w32 x) (w32 x) = true := by simp [w32, sameV, same0]

set_option maxHeartbeats 1000000 in
set_option maxRecDepth 20000 in
theorem take_loop1 {K : KX} {s : AS} {kw : Nat} {v t2 t4 : V} {ys : List UInt8} {tm : Tm} {r : List HP} (hr : Reads G r v ys) (hy : 64 ≤ ys.length)
    (hs0 : Hs G (Ob kw (.cells (wCells ys 0) 0) :: r) s) (h1 : tm.getD 1 .junk = v) (h2 : tm.getD 2 .junk = t2) (h4 : tm.getD 4 .junk = t4) (h5 : tm.getD 5 .junk = .ptr (some ⟨.new kw, 0⟩)) (h23 : tm.getD 23 .junk = .int .i64 0)
    (hK : ∀ tm' s', Hs G (Ob kw (.cells (wCells ys 64) 0) :: r) s' → tm'.getD 2 .junk = t2 → tm'.getD 4 .junk = t4 → tm'.getD 5 .junk = .ptr (some ⟨.new kw, 0⟩) → K (.exit 0) tm' s') :
    loopN LOOPS (fun tm s K => fn180_L1 fn190 (tm.getD 1 .junk) (tm.getD 2 .junk) (tm.getD 4 .junk) (tm.getD 5 .junk) (tm.getD 23 .junk) s K) tm s K := by
  refine loop_rule (fun m tm s1 => ∃ i : Nat, i + m = 64 ∧ Hs G (Ob kw (.cells (wCells ys i) 0) :: r) s1 ∧
      tm.getD 1 .junk = v ∧ tm.getD 2 .junk = t2 ∧ tm.getD 4 .junk = t4 ∧ tm.getD 5 .junk = .ptr (some ⟨.new kw, 0⟩) ∧ tm.getD 23 .junk = .int .i64 (i : Nat)) ?_ (m := 64) (by omega) ⟨0, rfl, hs0, h1, h2, h4, h5, h23⟩
  rintro m tm s1 Kn ⟨i, him, hs1, h1, h2, h4, h5, h23⟩ hnext
  simp only [h1, h2, h4, h5, h23]
  unfold fn180_L1
  have hg1 := hs1.get
  have hr1 : Rd s1 v ys := (hr s1 hs1.tail).1.toRd
  by_cases hi : i < 64
  · have d64 : decide ((i : Int) < 64) = true := by simp; omega
    have wi : IntKind.i64.wrap ((i : Int) + 1) = ((i + 1 : Nat) : Int) := by rw [wrap64 (by omega) (by omega)]; omega
    have est : ∀ (K : K0), st 1 (.ptr (some ⟨.new kw, i⟩)) (w32 (nextW ys (wordsL ys i) i)) s1 K = K undefV (s1.put kw (some (.cells (wCells ys (i + 1)) 0))) := fun K => by
      rw [st1_new hg1 (by rw [wCells_length ys (by omega)]; omega) rfl, wCells_set ys hi]
    obtain ⟨s2, hs2⟩ : ∃ s2, s2 = s1.put kw (some (.cells (wCells ys (i + 1)) 0)) := ⟨_, rfl⟩
    have g2 : Hs G (Ob kw (.cells (wCells ys (i + 1)) 0) :: r) s2 := by rw [hs2]; exact hs1.put _
    simp only [← hs2] at est
    by_cases h16 : i < 16
    · have d16 : decide ((i : Int) < 16) = true := by simp; omega
      have m4 : IntKind.i64.wrap (4 * (i : Int)) = ((4 * i : Nat) : Int) := by rw [wrap64 (by omega) (by omega)]; omega
      have a1 : IntKind.i64.wrap (((4 * i : Nat) : Int) + 1) = ((4 * i + 1 : Nat) : Int) := by rw [wrap64 (by omega) (by omega)]; omega
      have a2 : IntKind.i64.wrap (((4 * i : Nat) : Int) + 2) = ((4 * i + 2 : Nat) : Int) := by rw [wrap64 (by omega) (by omega)]; omega
      have a3 : IntKind.i64.wrap (((4 * i : Nat) : Int) + 3) = ((4 * i + 3 : Nat) : Int) := by rw [wrap64 (by omega) (by omega)]; omega
      obtain ⟨p0, e0, l0⟩ := rd_at hr1 (i := 4 * i) (by omega)
      obtain ⟨p1, e1, l1⟩ := rd_at hr1 (i := 4 * i + 1) (by omega)
      obtain ⟨p2, e2, l2⟩ := rd_at hr1 (i := 4 * i + 2) (by omega)
      obtain ⟨p3, e3, l3⟩ := rd_at hr1 (i := 4 * i + 3) (by omega)
      have s24 : ∀ x, binV .shl (some (Kd.int .u32)) true (w32 x) (.int .u64 24) = some (w32 (x <<< 24)) := fun x => w_shl _ _ _ x 24 (by omega)
      have s16 : ∀ x, binV .shl (some (Kd.int .u32)) true (w32 x) (.int .u64 16) = some (w32 (x <<< 16)) := fun x => w_shl _ _ _ x 16 (by omega)
      have s8 : ∀ x, binV .shl (some (Kd.int .u32)) true (w32 x) (.int .u64 8) = some (w32 (x <<< 8)) := fun x => w_shl _ _ _ x 8 (by omega)
      have hv : nextW ys (wordsL ys i) i = be4 ys i := by unfold nextW; rw [if_pos h16]
      rw [hv] at est
      unfold be4 at est
      simp only [bin_lss, optK_some, d64, d16, condV_true, bin_mul, m4, e0, l0, cvt_byte, s24, bin_add, a1, e1, l1, s16, w_or, a2, e2, l2, s8, a3, e3, l3, elemA_ok hi, Nat.zero_add, est, wi, nx_nrm]
      exact hnext (64 - (i + 1)) _ _ (by omega) ⟨i + 1, by omega, g2, rfl, rfl, rfl, rfl, rfl⟩
    · have d16 : decide ((i : Int) < 16) = false := by simp; omega
      have b15 : IntKind.i64.wrap ((i : Int) - 15) = ((i - 15 : Nat) : Int) := by rw [wrap64 (by omega) (by omega)]; omega
      have b2 : IntKind.i64.wrap ((i : Int) - 2) = ((i - 2 : Nat) : Int) := by rw [wrap64 (by omega) (by omega)]; omega
      have b7 : IntKind.i64.wrap ((i : Int) - 7) = ((i - 7 : Nat) : Int) := by rw [wrap64 (by omega) (by omega)]; omega
      have b16 : IntKind.i64.wrap ((i : Int) - 16) = ((i - 16 : Nat) : Int) := by rw [wrap64 (by omega) (by omega)]; omega
      have q15 := wCells_get ys (i := i) (j := i - 15) (by omega)
      have q2 := wCells_get ys (i := i) (j := i - 2) (by omega)
      have q7 := wCells_get ys (i := i) (j := i - 7) (by omega)
      have q16 := wCells_get ys (i := i) (j := i - 16) (by omega)
      have c15 : elemPtr (some 64) 1 (.ptr (some ⟨.new kw, 0⟩)) (.int .i64 ((i - 15 : Nat) : Int)) = some (.ptr (some ⟨.new kw, i - 15⟩)) := by rw [elemA_ok (by omega)]; simp
      have c2 : elemPtr (some 64) 1 (.ptr (some ⟨.new kw, 0⟩)) (.int .i64 ((i - 2 : Nat) : Int)) = some (.ptr (some ⟨.new kw, i - 2⟩)) := by rw [elemA_ok (by omega)]; simp
      have c7 : elemPtr (some 64) 1 (.ptr (some ⟨.new kw, 0⟩)) (.int .i64 ((i - 7 : Nat) : Int)) = some (.ptr (some ⟨.new kw, i - 7⟩)) := by rw [elemA_ok (by omega)]; simp
      have c16 : elemPtr (some 64) 1 (.ptr (some ⟨.new kw, 0⟩)) (.int .i64 ((i - 16 : Nat) : Int)) = some (.ptr (some ⟨.new kw, i - 16⟩)) := by rw [elemA_ok (by omega)]; simp
      have c0 : elemPtr (some 64) 1 (.ptr (some ⟨.new kw, 0⟩)) (.int .i64 ((i : Nat) : Int)) = some (.ptr (some ⟨.new kw, i⟩)) := by rw [elemA_ok (by omega)]; simp
      have t17 : ∀ x s K, fn190 (w32 x) (.int .i64 17) s K = K (w32 (turnW x 17)) s := fun x s K => turn_ok x 17 (by omega) s K
      have t19 : ∀ x s K, fn190 (w32 x) (.int .i64 19) s K = K (w32 (turnW x 19)) s := fun x s K => turn_ok x 19 (by omega) s K
      have t7 : ∀ x s K, fn190 (w32 x) (.int .i64 7) s K = K (w32 (turnW x 7)) s := fun x s K => turn_ok x 7 (by omega) s K
      have t18 : ∀ x s K, fn190 (w32 x) (.int .i64 18) s K = K (w32 (turnW x 18)) s := fun x s K => turn_ok x 18 (by omega) s K
      have r10 : ∀ x, binV .shr (some (Kd.int .u32)) true (w32 x) (.int .u64 10) = some (w32 (x >>> 10)) := fun x => w_shr _ _ _ x 10 (by omega)
      have r3 : ∀ x, binV .shr (some (Kd.int .u32)) true (w32 x) (.int .u64 3) = some (w32 (x >>> 3)) := fun x => w_shr _ _ _ x 3 (by omega)
      have h7 := holds_new (ti := ti145) rfl hg1 q7 (sameV_w32 _)
      have h16' := holds_new (ti := ti145) rfl hg1 q16 (sameV_w32 _)
      have hv : nextW ys (wordsL ys i) i = (((turnW ((wordsL ys i).getD (i - 2) 0) 17 ^^^ turnW ((wordsL ys i).getD (i - 2) 0) 19) ^^^ ((wordsL ys i).getD (i - 2) 0 >>> 10)) + (wordsL ys i).getD (i - 7) 0 +
          ((turnW ((wordsL ys i).getD (i - 15) 0) 7 ^^^ turnW ((wordsL ys i).getD (i - 15) 0) 18) ^^^ ((wordsL ys i).getD (i - 15) 0 >>> 3))) + (wordsL ys i).getD (i - 16) 0 := by unfold nextW; rw [if_neg h16]
      rw [hv] at est
      obtain ⟨y, hy'⟩ : ∃ y, y = (wordsL ys i).getD (i - 2) 0 := ⟨_, rfl⟩
      obtain ⟨x, hx'⟩ : ∃ x, x = (wordsL ys i).getD (i - 15) 0 := ⟨_, rfl⟩
      obtain ⟨z, hz'⟩ : ∃ z, z = (wordsL ys i).getD (i - 7) 0 := ⟨_, rfl⟩
      obtain ⟨u, hu'⟩ : ∃ u, u = (wordsL ys i).getD (i - 16) 0 := ⟨_, rfl⟩
      rw [← hy', ← hx', ← hz', ← hu'] at est
      rw [← hx'] at q15
      rw [← hy'] at q2
      rw [← hz'] at q7 h7
      rw [← hu'] at q16 h16'
      clear hv hy' hx' hz' hu'
      rw [bin_lss, optK_some, d64, condV_true, bin_lss, optK_some, d16, condV_false]
      rw [bin_sub, optK_some, b15, c15, optK_some, ld1_new hg1, q15, optK_some]
      rw [bin_sub, optK_some, b2, c2, optK_some, ld1_new hg1, q2, optK_some]
      rw [t17, t19, w_xor, optK_some, r10, optK_some, w_xor, optK_some]
      rw [bin_sub, optK_some, b7, c7, optK_some, ld1_new hg1, q7, optK_some, h7, chkB_true, chkB_true]
      rw [w_add, optK_some, t7, h7, chkB_true, t18, h7, chkB_true, w_xor, optK_some, r3, optK_some, w_xor, optK_some, w_add, optK_some]
      rw [bin_sub, optK_some, b16, c16, optK_some, ld1_new hg1, q16, optK_some, h16', chkB_true, chkB_true, chkB_true, chkB_true]
      rw [w_add, optK_some, c0, optK_some, est, bin_add, optK_some, wi, nx_nrm]
      exact hnext (64 - (i + 1)) _ _ (by omega) ⟨i + 1, by omega, g2, rfl, rfl, rfl, rfl, rfl⟩
  · have : i = 64 := by omega
    subst this
    have d64 : decide (((64 : Nat) : Int) < 64) = false := by decide
    simp only [bin_lss, optK_some, d64, condV_false, nx_exit]
    exact hK _ _ hs1 rfl rfl rfl
end Go.Proofs.Vt
end
section
/- SHA-256: a block is summed up. -/
namespace Go.Proofs.Vt
open Go Go.Rx Go.Proofs
variable {G : Nat → Option (List V)}

def shaRound : List (BitVec 32) := [0x428a2f98, 0x71374491, 0xb5c0fbcf, 0xe9b5dba5, 0x3956c25b, 0x59f111f1, 0x923f82a4, 0xab1c5ed5, 0xd807aa98, 0x12835b01, 0x243185be, 0x550c7dc3, 0x72be5d74, 0x80deb1fe, 0x9bdc06a7, 0xc19bf174, 0xe49b69c1, 0xefbe4786, 0x0fc19dc6, 0x240ca1cc, 0x2de92c6f, 0x4a7484aa, 0x5cb0a9dc, 0x76f988da, 0x983e5152, 0xa831c66d, 0xb00327c8, 0xbf597fc7, 0xc6e00bf3, 0xd5a79147, 0x06ca6351, 0x14292967, 0x27b70a85, 0x2e1b2138, 0x4d2c6dfc, 0x53380d13, 0x650a7354, 0x766a0abb, 0x81c2c92e, 0x92722c85, 0xa2bfe8a1, 0xa81a664b, 0xc24b8b70, 0xc76c51a3, 0xd192e819, 0xd6990624, 0xf40e3585, 0x106aa070, 0x19a4c116, 0x1e376c08, 0x2748774c, 0x34b0bcb5, 0x391c0cb3, 0x4ed8aa4a, 0x5b9cca4f, 0x682e6ff3, 0x748f82ee, 0x78a5636f, 0x84c87814, 0x8cc70208, 0x90befffa, 0xa4506ceb, 0xbef9a3f7, 0xc67178f2]
def shaFirst : List (BitVec 32) := [0x6a09e667, 0xbb67ae85, 0x3c6ef372, 0xa54ff53a, 0x510e527f, 0x9b05688c, 0x1f83d9ab, 0x5be0cd19]
/-- What the package's variables hold. -/
structure ShaG (G : Nat → Option (List V)) : Prop where
  first : G 0 = some (shaFirst.map w32)
  round : G 1 = some (shaRound.map w32)

structure R8 where
  a : BitVec 32
  b : BitVec 32
  c : BitVec 32
  d : BitVec 32
  e : BitVec 32
  f : BitVec 32
  g : BitVec 32
  h : BitVec 32
def rT (k w : BitVec 32) (r : R8) : BitVec 32 := (((r.h + ((turnW r.e 6 ^^^ turnW r.e 11) ^^^ turnW r.e 25)) + (r.g ^^^ (r.e &&& (r.f ^^^ r.g)))) + k) + w
def rU (r : R8) : BitVec 32 := ((turnW r.a 2 ^^^ turnW r.a 13) ^^^ turnW r.a 22) + ((r.a &&& r.b) ||| (r.c &&& (r.a ||| r.b)))
def rnd (k w : BitVec 32) (r : R8) : R8 := ⟨rT k w r + rU r, r.a, r.b, r.c, r.d + rT k w r, r.e, r.f, r.g⟩
def rounds (ys : List UInt8) (r : R8) : Nat → R8
  | 0 => r
  | i + 1 => rnd (shaRound.getD i 0) ((wordsL ys 64).getD i 0) (rounds ys r i)
def r8 (v : List (BitVec 32)) : R8 := ⟨v.getD 0 0, v.getD 1 0, v.getD 2 0, v.getD 3 0, v.getD 4 0, v.getD 5 0, v.getD 6 0, v.getD 7 0⟩
def R8.l (r : R8) : List (BitVec 32) := [r.a, r.b, r.c, r.d, r.e, r.f, r.g, r.h]
def addW (v x : List (BitVec 32)) (i : Nat) : List (BitVec 32) := (List.range 8).map fun j => if j < i then v.getD j 0 + x.getD j 0 else v.getD j 0
def takeF (v : List (BitVec 32)) (ys : List UInt8) : List (BitVec 32) := addW v (rounds ys (r8 v) 64).l 8
@[simp] theorem addW_length (v x : List (BitVec 32)) (i : Nat) : (addW v x i).length = 8 := by simp [addW]
theorem addW_get (v x : List (BitVec 32)) (i : Nat) {j : Nat} (hj : j < 8) : (addW v x i).getD j 0 = if j < i then v.getD j 0 + x.getD j 0 else v.getD j 0 := by
  simp [addW, List.getD_eq_getElem?_getD, hj]
theorem addW_zero {v : List (BitVec 32)} (hv : v.length = 8) (x : List (BitVec 32)) : addW v x 0 = v := by
  apply List.ext_getElem?
  intro j
  by_cases hj : j < 8
  · simp [addW, hj, List.getD_eq_getElem?_getD, List.getElem?_eq_getElem (show j < v.length by omega)]
  · rw [List.getElem?_eq_none (by simp; omega), List.getElem?_eq_none (by omega)]
theorem addW_set (v x : List (BitVec 32)) {i : Nat} (hi : i < 8) : (addW v x i).set i (v.getD i 0 + x.getD i 0) = addW v x (i + 1) := by
  apply List.ext_getElem?
  intro j
  rw [List.getElem?_set]
  by_cases hj : j < 8
  · by_cases hij : i = j
    · subst hij; simp [addW, hi]
    · rw [if_neg hij]
      have : j < i + 1 ↔ j < i := by omega
      simp [addW, hj, this]
  · rw [if_neg (by omega), List.getElem?_eq_none (by simp; omega), List.getElem?_eq_none (by simp; omega)]
theorem w_cell {v : List (BitVec 32)} {j : Nat} (hj : j < v.length) : (v.map w32)[j]? = some (w32 (v.getD j 0)) := by
  rw [List.getElem?_map, List.getD_eq_getElem?_getD, List.getElem?_eq_getElem hj]; rfl

set_option maxRecDepth 20000 in
theorem take_loop2 {K : KX} {s : AS} {kw : Nat} {t2 t4 : V} {ys : List UInt8} {tm : Tm} {r : List HP} {v : R8} (hs : Hs G (Ob kw (.cells (wCells ys 64) 0) :: r) s)
    (h2 : tm.getD 2 .junk = t2) (h4 : tm.getD 4 .junk = t4) (h5 : tm.getD 5 .junk = .ptr (some ⟨.new kw, 0⟩)) (ha : tm.getD 9 .junk = w32 v.a) (hb : tm.getD 10 .junk = w32 v.b) (hc : tm.getD 11 .junk = w32 v.c) (hd : tm.getD 12 .junk = w32 v.d)
    (he : tm.getD 13 .junk = w32 v.e) (hf : tm.getD 14 .junk = w32 v.f) (hg : tm.getD 15 .junk = w32 v.g) (hh : tm.getD 16 .junk = w32 v.h) (hr : tm.getD 117 .junk = .agg (shaRound.map w32)) (hi : tm.getD 118 .junk = .int .i64 0)
    (hK : ∀ tm', tm'.getD 2 .junk = t2 → tm'.getD 4 .junk = t4 → tm'.getD 9 .junk = w32 (rounds ys v 64).a → tm'.getD 10 .junk = w32 (rounds ys v 64).b → tm'.getD 11 .junk = w32 (rounds ys v 64).c → tm'.getD 12 .junk = w32 (rounds ys v 64).d →
      tm'.getD 13 .junk = w32 (rounds ys v 64).e → tm'.getD 14 .junk = w32 (rounds ys v 64).f → tm'.getD 15 .junk = w32 (rounds ys v 64).g → tm'.getD 16 .junk = w32 (rounds ys v 64).h → K (.exit 2) tm' s) :
    loopN LOOPS (fun tm s K => fn180_L2 fn190 (tm.getD 2 .junk) (tm.getD 4 .junk) (tm.getD 5 .junk) (tm.getD 9 .junk) (tm.getD 10 .junk) (tm.getD 11 .junk) (tm.getD 12 .junk) (tm.getD 13 .junk) (tm.getD 14 .junk) (tm.getD 15 .junk) (tm.getD 16 .junk) (tm.getD 117 .junk) (tm.getD 118 .junk) s K) tm s K := by
  refine loop_rule (fun m tm s1 => ∃ i : Nat, i + m = 64 ∧ s1 = s ∧ tm.getD 2 .junk = t2 ∧ tm.getD 4 .junk = t4 ∧ tm.getD 5 .junk = .ptr (some ⟨.new kw, 0⟩) ∧ tm.getD 9 .junk = w32 (rounds ys v i).a ∧ tm.getD 10 .junk = w32 (rounds ys v i).b ∧ tm.getD 11 .junk = w32 (rounds ys v i).c ∧
    tm.getD 12 .junk = w32 (rounds ys v i).d ∧ tm.getD 13 .junk = w32 (rounds ys v i).e ∧ tm.getD 14 .junk = w32 (rounds ys v i).f ∧ tm.getD 15 .junk = w32 (rounds ys v i).g ∧ tm.getD 16 .junk = w32 (rounds ys v i).h ∧ tm.getD 117 .junk = .agg (shaRound.map w32) ∧ tm.getD 118 .junk = .int .i64 (i : Nat)) ?_
    (m := 64) (by omega) ⟨0, rfl, rfl, h2, h4, h5, ha, hb, hc, hd, he, hf, hg, hh, hr, hi⟩
  rintro m tm s1 Kn ⟨i, him, rfl, h2, h4, h5, ha, hb, hc, hd, he, hf, hg, hh, hr, hi⟩ hnext
  simp only [h2, h4, h5, ha, hb, hc, hd, he, hf, hg, hh, hr, hi]
  unfold fn180_L2
  by_cases hi64 : i < 64
  · have d64 : decide ((i : Int) < 64) = true := by simp; omega
    have wi : IntKind.i64.wrap ((i : Int) + 1) = ((i + 1 : Nat) : Int) := by rw [wrap64 (by omega) (by omega)]; omega
    obtain ⟨k, hk⟩ : ∃ k, k = shaRound.getD i 0 := ⟨_, rfl⟩
    obtain ⟨w, hw⟩ : ∃ w, w = (wordsL ys 64).getD i 0 := ⟨_, rfl⟩
    have hx : indexV false 64 1 (.agg (shaRound.map w32)) (.int .i64 (i : Nat)) = some (w32 k) := by
      have c : (0 : Int) ≤ (i : Nat) ∧ ((i : Nat) : Int) < ((64 : Nat) : Int) := by omega
      simp only [indexV]
      rw [if_pos c]
      simp only [partV, Int.toNat_natCast, Nat.mul_one]
      rw [w_cell (show i < shaRound.length from hi64), ← hk]
    have qw : (wCells ys 64)[i]? = some (w32 w) := by rw [wCells_get ys hi64, ← hw]
    have ci : elemPtr (some 64) 1 (.ptr (some ⟨.new kw, 0⟩)) (.int .i64 (i : Nat)) = some (.ptr (some ⟨.new kw, i⟩)) := by rw [elemA_ok hi64]; simp
    have hq := holds_t (ti := ti145) rfl hs qw (sameV_w32 _)
    have hrd : rounds ys v (i + 1) = rnd k w (rounds ys v i) := by rw [hk, hw]; rfl
    obtain ⟨x, hx'⟩ : ∃ x, x = rounds ys v i := ⟨_, rfl⟩
    rw [← hx'] at hrd ⊢
    have tn : ∀ y (n : Nat) s K, n ≤ 32 → fn190 (w32 y) (.int .i64 (n : Nat)) s K = K (w32 (turnW y n)) s := fun y n s K hn => turn_ok y n hn s K
    have t6 : ∀ y s K, fn190 (w32 y) (.int .i64 6) s K = K (w32 (turnW y 6)) s := fun y s K => tn y 6 s K (by omega)
    have t11 : ∀ y s K, fn190 (w32 y) (.int .i64 11) s K = K (w32 (turnW y 11)) s := fun y s K => tn y 11 s K (by omega)
    have t25 : ∀ y s K, fn190 (w32 y) (.int .i64 25) s K = K (w32 (turnW y 25)) s := fun y s K => tn y 25 s K (by omega)
    have t2' : ∀ y s K, fn190 (w32 y) (.int .i64 2) s K = K (w32 (turnW y 2)) s := fun y s K => tn y 2 s K (by omega)
    have t13 : ∀ y s K, fn190 (w32 y) (.int .i64 13) s K = K (w32 (turnW y 13)) s := fun y s K => tn y 13 s K (by omega)
    have t22 : ∀ y s K, fn190 (w32 y) (.int .i64 22) s K = K (w32 (turnW y 22)) s := fun y s K => tn y 22 s K (by omega)
    rw [bin_lss, optK_some, d64, condV_true, hx, optK_some, t6, t11, w_xor, optK_some, t25, w_xor, optK_some, w_add, optK_some, w_xor, optK_some, w_and, optK_some, w_xor, optK_some, w_add, optK_some, w_add, optK_some,
      ci, optK_some, ld_t hs, qw, optK_some, hq, chkB_true, chkB_true, chkB_true, w_add, optK_some, t2', t13, w_xor, optK_some, t22, w_xor, optK_some, w_and, optK_some, w_or, optK_some, w_and, optK_some, w_or, optK_some, w_add, optK_some,
      w_add, optK_some, w_add, optK_some, bin_add, optK_some, wi, nx_nrm]
    refine hnext (64 - (i + 1)) _ _ (by omega) ⟨i + 1, by omega, rfl, rfl, rfl, rfl, ?_⟩
    rw [hrd]
    exact ⟨rfl, rfl, rfl, rfl, rfl, rfl, rfl, rfl, rfl, rfl⟩
  · have : i = 64 := by omega
    subst this
    have d64 : decide (((64 : Nat) : Int) < 64) = false := by decide
    simp only [bin_lss, optK_some, d64, condV_false, nx_exit]
    exact hK _ rfl rfl rfl rfl rfl rfl rfl rfl rfl rfl

set_option maxRecDepth 20000 in
theorem take_loop3 {K : KX} {s : AS} {kv : Nat} {t4 : V} {v x : List (BitVec 32)} {tm : Tm} {r : List HP} (hv : v.length = 8) (hx : x.length = 8) (hs : Hs G (Ob kv (.cells (v.map w32) 0) :: r) s)
    (h2 : tm.getD 2 .junk = .ptr (some ⟨.new kv, 0⟩)) (h4 : tm.getD 4 .junk = t4) (h5 : tm.getD 185 .junk = .agg (x.map w32)) (h6 : tm.getD 186 .junk = .int .i64 0)
    (hK : ∀ tm' s', Hs G (Ob kv (.cells ((addW v x 8).map w32) 0) :: r) s' → tm'.getD 2 .junk = .ptr (some ⟨.new kv, 0⟩) → tm'.getD 4 .junk = t4 → K (.exit 4) tm' s') :
    loopN LOOPS (fun tm s K => fn180_L3 fn190 (tm.getD 2 .junk) (tm.getD 4 .junk) (tm.getD 185 .junk) (tm.getD 186 .junk) s K) tm s K := by
  refine loop_rule (fun m tm s1 => ∃ i : Nat, i + m = 8 ∧ Hs G (Ob kv (.cells ((addW v x i).map w32) 0) :: r) s1 ∧ tm.getD 2 .junk = .ptr (some ⟨.new kv, 0⟩) ∧ tm.getD 4 .junk = t4 ∧ tm.getD 185 .junk = .agg (x.map w32) ∧ tm.getD 186 .junk = .int .i64 (i : Nat)) ?_
    (m := 8) (by omega) ⟨0, rfl, by rw [addW_zero hv]; exact hs, h2, h4, h5, h6⟩
  rintro m tm s1 Kn ⟨i, him, hs1, h2, h4, h5, h6⟩ hnext
  simp only [h2, h4, h5, h6]
  unfold fn180_L3
  by_cases hi8 : i < 8
  · have d8 : decide ((i : Int) < 8) = true := by simp; omega
    have wi : IntKind.i64.wrap ((i : Int) + 1) = ((i + 1 : Nat) : Int) := by rw [wrap64 (by omega) (by omega)]; omega
    have hxi : indexV false 8 1 (.agg (x.map w32)) (.int .i64 (i : Nat)) = some (w32 (x.getD i 0)) := by
      have c : (0 : Int) ≤ (i : Nat) ∧ ((i : Nat) : Int) < ((8 : Nat) : Int) := by omega
      simp only [indexV]
      rw [if_pos c]
      simp only [partV, Int.toNat_natCast, Nat.mul_one]
      rw [w_cell (by omega)]
    have ci : elemPtr (some 8) 1 (.ptr (some ⟨.new kv, 0⟩)) (.int .i64 (i : Nat)) = some (.ptr (some ⟨.new kv, i⟩)) := by rw [elemA_ok hi8]; simp
    have q : ((addW v x i).map w32)[i]? = some (w32 (v.getD i 0)) := by rw [w_cell (by simp; omega), addW_get v x i hi8, if_neg (Nat.lt_irrefl i)]
    simp only [bin_lss, optK_some, d8, condV_true, hxi, ci, ld_t hs1, q, w_add]
    refine st_t hs1 (by simp; omega) rfl fun s2 hs2 => ?_
    simp only [bin_add, optK_some, wi, nx_nrm]
    have e : ((addW v x i).map w32).set i (w32 (v.getD i 0 + x.getD i 0)) = (addW v x (i + 1)).map w32 := by rw [← addW_set v x hi8, List.map_set]
    rw [e] at hs2
    exact hnext (8 - (i + 1)) _ _ (by omega) ⟨i + 1, by omega, hs2, rfl, rfl, rfl, rfl⟩
  · have : i = 8 := by omega
    subst this
    have d8 : decide (((8 : Nat) : Int) < 8) = false := by decide
    simp only [bin_lss, optK_some, d8, condV_false, nx_exit]
    exact hK _ _ hs1 rfl rfl
end Go.Proofs.Vt
end
section
/- SHA-256: a block, and parts. -/
namespace Go.Proofs.Vt
open Go Go.Rx Go.Proofs
variable {G : Nat → Option (List V)}

theorem w32s_flat (v : List (BitVec 32)) : (v.map w32).all flatV = true := by
  rw [List.all_eq_true]; intro x hx
  obtain ⟨y, _, rfl⟩ := List.mem_map.1 hx
  rfl
@[simp] theorem takeF_length (v : List (BitVec 32)) (ys : List UInt8) : (takeF v ys).length = 8 := addW_length _ _ _
theorem take_t (hG : ShaG G) {v : V} {ys : List UInt8} {vs : List (BitVec 32)} {r : List HP} {s : AS} (hr : Reads G r v ys) (hy : 64 ≤ ys.length) (hv : vs.length = 8) (h : Hs G r s) :
    Ens (fn180 (.agg (vs.map w32)) v) s fun u s' => u = .agg ((takeF vs ys).map w32) ∧ Hs G r s' := by
  intro K hK
  unfold fn180 fn180_q
  refine boxA_t h fun kv s1 h1 => ?_
  refine newC_t h1 fun ko s2 h2 => ?_
  refine newC_t h2 fun kw s3 h3 => ?_
  refine take_loop1 (t2 := .ptr (some ⟨.new kv, 0⟩)) (t4 := .ptr (some ⟨.new ko, 0⟩)) ((hr.cons (A := Ob kv (.cells (vs.map w32) 0))).cons (A := Ob ko (.cells ((List.replicate 8 (0 : BitVec 32)).map w32) 0))) hy h3 rfl rfl rfl rfl rfl ?_
  intro tm s4 h4 e2 e4 e5
  simp only [exX_exit, beq_self_eq_true, exB_true, e2, e4, e5]
  have hv2 := h4.ord [2, 0, 1]
  have c0 : elemPtr (some 8) 1 (.ptr (some ⟨.new kv, 0⟩)) (.int .i64 0) = some (.ptr (some ⟨.new kv, 0⟩)) := rfl
  have c1 : elemPtr (some 8) 1 (.ptr (some ⟨.new kv, 0⟩)) (.int .i64 1) = some (.ptr (some ⟨.new kv, 1⟩)) := rfl
  have c2 : elemPtr (some 8) 1 (.ptr (some ⟨.new kv, 0⟩)) (.int .i64 2) = some (.ptr (some ⟨.new kv, 2⟩)) := rfl
  have c3 : elemPtr (some 8) 1 (.ptr (some ⟨.new kv, 0⟩)) (.int .i64 3) = some (.ptr (some ⟨.new kv, 3⟩)) := rfl
  have c4 : elemPtr (some 8) 1 (.ptr (some ⟨.new kv, 0⟩)) (.int .i64 4) = some (.ptr (some ⟨.new kv, 4⟩)) := rfl
  have c5 : elemPtr (some 8) 1 (.ptr (some ⟨.new kv, 0⟩)) (.int .i64 5) = some (.ptr (some ⟨.new kv, 5⟩)) := rfl
  have c6 : elemPtr (some 8) 1 (.ptr (some ⟨.new kv, 0⟩)) (.int .i64 6) = some (.ptr (some ⟨.new kv, 6⟩)) := rfl
  have c7 : elemPtr (some 8) 1 (.ptr (some ⟨.new kv, 0⟩)) (.int .i64 7) = some (.ptr (some ⟨.new kv, 7⟩)) := rfl
  have q : ∀ j, j < 8 → (vs.map w32)[j]? = some (w32 (vs.getD j 0)) := fun j hj => w_cell (by omega)
  rw [c0, optK_some, ld_t hv2, q 0 (by omega), optK_some, c1, optK_some, ld_t hv2, q 1 (by omega), optK_some, c2, optK_some, ld_t hv2, q 2 (by omega), optK_some, c3, optK_some, ld_t hv2, q 3 (by omega), optK_some,
    c4, optK_some, ld_t hv2, q 4 (by omega), optK_some, c5, optK_some, ld_t hv2, q 5 (by omega), optK_some, c6, optK_some, ld_t hv2, q 6 (by omega), optK_some, c7, optK_some, ld_t hv2, q 7 (by omega), optK_some]
  have hro : ∀ K : K0, ldA 64 (.ptr (some ⟨.old 1, 0⟩)) s4 K = K (.agg (shaRound.map w32)) s4 := fun K => by
    simp only [ldA, ldN, cellsAt, h4.old, hG.round]
    rw [if_pos (by decide)]
    rfl
  rw [hro]
  refine take_loop2 (t2 := .ptr (some ⟨.new kv, 0⟩)) (t4 := .ptr (some ⟨.new ko, 0⟩)) (v := r8 vs) h4 rfl rfl rfl rfl rfl rfl rfl rfl rfl rfl rfl rfl rfl ?_
  intro tm2 f2 f4 fa fb fc fd fe ff fg fh
  simp only [exX_exit, beq_self_eq_true, exB_true, f2, f4, fa, fb, fc, fd, fe, ff, fg, fh]
  have hx : aggO (fillV (fun j => some (j * 1, 1)) [V.int .u32 0, V.int .u32 0, V.int .u32 0, V.int .u32 0, V.int .u32 0, V.int .u32 0, V.int .u32 0, V.int .u32 0]
      [(0, w32 (rounds ys (r8 vs) 64).a), (1, w32 (rounds ys (r8 vs) 64).b), (2, w32 (rounds ys (r8 vs) 64).c), (3, w32 (rounds ys (r8 vs) 64).d), (4, w32 (rounds ys (r8 vs) 64).e), (5, w32 (rounds ys (r8 vs) 64).f), (6, w32 (rounds ys (r8 vs) 64).g), (7, w32 (rounds ys (r8 vs) 64).h)]) =
      some (.agg ((rounds ys (r8 vs) 64).l.map w32)) := rfl
  rw [hx, optK_some]
  refine take_loop3 (t4 := .ptr (some ⟨.new ko, 0⟩)) (x := (rounds ys (r8 vs) 64).l) hv rfl hv2 rfl rfl rfl rfl ?_
  intro tm3 s5 h5 g2 g4
  simp only [exX_exit, beq_self_eq_true, exB_true, g2, g4]
  rw [ldAll_t h5 (by simp)]
  refine stAll_t (h5.pull 2) (by simp) (by simp) (w32s_flat _) fun s6 h6 => ?_
  rw [peekA_t rfl h6 (by simp), rfin1]
  exact hK _ _ ⟨rfl, h6.drop 0 |>.drop 0 |>.drop 0⟩

theorem all2_w : ∀ v : List (BitVec 32), all2 same0 (v.map w32) (v.map w32) = true
  | [] => rfl
  | x :: l => by simp only [List.map_cons, all2, all2_w l]; simp [same0, w32]
/-! ### hashes -/
def HashH (kh : Nat) (v : List (BitVec 32)) (left : List UInt8) (many : Nat) : HP := HP.ex fun vl : V => HP.all [HP.pure (v.length = 8), Ob kh (.cells (v.map w32 ++ [vl, .int .i64 many]) 0), BytesH vl left]
theorem HashH.iff {kh : Nat} {v : List (BitVec 32)} {left : List UInt8} {many : Nat} {r : List HP} {s : AS} : Hs G (HashH kh v left many :: r) s ↔ ∃ vl, v.length = 8 ∧ Hs G (Ob kh (.cells (v.map w32 ++ [vl, .int .i64 many]) 0) :: BytesH vl left :: r) s := by
  unfold HashH
  simp only [Hs.ex_iff, Hs.all_iff, List.cons_append, List.nil_append, Hs.pure_iff]
def absorb : Nat → List (BitVec 32) → List UInt8 → List (BitVec 32)
  | 0, v, _ => v
  | n + 1, v, ys => absorb n (takeF v ys) (ys.drop 64)
theorem c8 {v : List (BitVec 32)} (hv : v.length = 8) (a b : V) : (v.map w32 ++ [a, b])[8]? = some a := by rw [List.getElem?_append_right (by simp [hv])]; simp [hv]
theorem c9 {v : List (BitVec 32)} (hv : v.length = 8) (a b : V) : (v.map w32 ++ [a, b])[9]? = some b := by rw [List.getElem?_append_right (by simp [hv])]; simp [hv]
theorem set8 {v : List (BitVec 32)} (hv : v.length = 8) (a b c : V) : (v.map w32 ++ [a, b]).set 8 c = v.map w32 ++ [c, b] := by rw [List.set_append_right _ _ (by simp [hv])]; simp [hv]
theorem set9 {v : List (BitVec 32)} (hv : v.length = 8) (a b c : V) : (v.map w32 ++ [a, b]).set 9 c = v.map w32 ++ [a, c] := by rw [List.set_append_right _ _ (by simp [hv])]; simp [hv]

theorem words_t (hG : ShaG G) {kh : Nat} {v : List (BitVec 32)} {vl : V} {many : Nat} {r : List HP} {s : AS} (hv : v.length = 8) (h : Hs G (Ob kh (.cells (v.map w32 ++ [vl, .int .i64 many]) 0) :: r) s) :
    Ens (fn179 (.ptr (some ⟨.new kh, 0⟩))) s fun u s' => u = .agg ((if many < 64 then shaFirst else v).map w32) ∧ Hs G (Ob kh (.cells (v.map w32 ++ [vl, .int .i64 many]) 0) :: r) s' := by
  intro K hK
  unfold fn179 fn179_q
  refine newC_t h fun k s1 h1 => ?_
  simp only [nilV_ptr, fp_ptr, optK_some, Nat.zero_add, ld_t h1.swap, c9 hv, bin_lss]
  by_cases hm : many < 64
  · have d : decide ((many : Int) < 64) = true := by simp; omega
    have hro : ∀ K : K0, ldA 8 (.ptr (some ⟨.old 0, 0⟩)) s1 K = K (.agg (shaFirst.map w32)) s1 := fun K => by
      simp only [ldA, ldN, cellsAt, h1.old, hG.first]
      rw [if_pos (by decide)]
      rfl
    rw [d, condV_true, hro]
    refine stAll_t h1 (by simp) (by simp [shaFirst]) (w32s_flat _) fun s2 h2 => ?_
    rw [peekA_t rfl h2 rfl, rfin1]
    exact hK _ _ ⟨by rw [if_pos hm], h2.tail⟩
  · have d : decide ((many : Int) < 64) = false := by simp; omega
    rw [d, condV_false, ldA_t h1.swap (by simp [hv])]
    have e : ((v.map w32 ++ [vl, .int .i64 many]).drop 0).take 8 = v.map w32 := by
      rw [List.drop_zero, List.take_append_of_le_length (by simp [hv]), List.take_of_length_le (by simp [hv])]
    rw [e]
    refine stAll_t h1 (by simp) (by simp [hv]) (w32s_flat _) fun s2 h2 => ?_
    rw [peekA_t rfl h2 (by simp [hv]), rfin1]
    exact hK _ _ ⟨by rw [if_neg hm], h2.tail⟩

theorem hWrite_t (hG : ShaG G) {kh : Nat} {v : List (BitVec 32)} {left ys : List UInt8} {many : Nat} {b : V} {r : List HP} {s : AS} (h : Hs G (HashH kh v left many :: r) s) (hr : Reads G r b ys) (hl : left.length ≤ 1000) (hy : ys.length ≤ 1073741824) (hm : many ≤ 1073741824) :
    Ens (fn153 (.ptr (some ⟨.new kh, 0⟩)) b) s fun u s' => u = .ptr (some ⟨.new kh, 0⟩) ∧
      Hs G (HashH kh (absorb ((left ++ ys).length / 64) (if many < 64 then shaFirst else v) (left ++ ys)) ((left ++ ys).drop (64 * ((left ++ ys).length / 64))) (many + ys.length) :: r) s' := by
  intro K hK
  obtain ⟨vl, hv, h1⟩ := HashH.iff.1 h
  obtain ⟨ab, cb, exb, rfl⟩ := rd_slice hr h.tail
  unfold fn153 fn153_q
  simp only [bin_ptr_nil, Option.isNone_some, optK_some, condV_false]
  refine words_t hG hv h1 _ ?_
  rintro _ s2 ⟨rfl, h2⟩
  obtain ⟨w, hw⟩ : ∃ w, w = (if many < 64 then shaFirst else v) := ⟨_, rfl⟩
  have hwl : w.length = 8 := by rw [hw]; split <;> first | rfl | exact hv
  rw [← hw] at hK ⊢
  refine newC_t h2 fun kv s3 h3 => ?_
  refine stAll_t h3 (by simp) (by simp [hwl]) (w32s_flat _) fun s4 h4 => ?_
  obtain ⟨a, c, ex, rfl⟩ := slH_slice (h4.pull 2)
  have h5 := h4.ord [1, 0, 2]
  simp only [nilV_ptr, fp_ptr, optK_some, Nat.zero_add, ld_t h5, c8 hv, lenV_slice]
  obtain ⟨v', e3, h6⟩ := cut3_t (h5.ord [2, 0, 1])
  rw [e3, optK_some]
  have hrd := (hr s4 (h6.drop 0 |>.drop 0 |>.drop 0)).1
  refine app_t (by omega) h6 hrd.len hrd.src (by simp) (byteV_flat ys) (by omega) (by omega) fun v7 s7 h7 => ?_
  rw [← List.map_append, ← List.length_append] at h7
  obtain ⟨all, hall⟩ : ∃ all, all = left ++ ys := ⟨_, rfl⟩
  rw [← hall] at h7 hK
  have hal : all.length ≤ 1073742824 := by rw [hall]; simp; omega
  have h8 := h7.toRd
  -- the loop over whole blocks
  refine loop_rule (fun m tm s1 => ∃ (j : Nat) (rest : List UInt8) (vs : List (BitVec 32)) (vr : V), j = m ∧ j = rest.length / 64 ∧ vs.length = 8 ∧ absorb j vs rest = absorb (all.length / 64) w all ∧ rest.drop (64 * j) = all.drop (64 * (all.length / 64)) ∧
      Hs G (RdH vr rest :: Ob kh (.cells (v.map w32 ++ [.slice a left.length c ex, .int .i64 many]) 0) :: Ob kv (.cells (vs.map w32) 0) :: r) s1 ∧
      tm.getD 0 .junk = .ptr (some ⟨.new kh, 0⟩) ∧ tm.getD 1 .junk = .slice ab ys.length cb exb ∧ tm.getD 5 .junk = .ptr (some ⟨.new kv, 0⟩) ∧ tm.getD 6 .junk = vr) ?_ (m := all.length / 64) (by omega) ⟨all.length / 64, all, w, v7, rfl, rfl, hwl, rfl, rfl, h8, rfl, rfl, rfl, rfl⟩
  rintro m tm s9 Kn ⟨j, rest, vs, vr, rfl, hj, hvs, hab, hdr, h9, t0, t1, t5, t6⟩ hnext
  simp only [t0, t1, t5, t6]
  unfold fn153_L1
  obtain ⟨ar, cr, exr, rfl⟩ := rd_slice reads_rd h9
  simp only [lenV_slice, optK_some, bin_geq]
  by_cases hge : 64 ≤ rest.length
  · have d : decide ((rest.length : Int) ≥ 64) = true := by simp; omega
    obtain ⟨j, rfl⟩ : ∃ i, j = i + 1 := ⟨j - 1, by omega⟩
    rw [d, condV_true, ldAll_t (h9.pull 2) (by simp [hvs])]
    refine take_t hG (r := RdH (.slice ar rest.length cr exr) rest :: Ob kh (.cells (v.map w32 ++ [.slice a left.length c ex, .int .i64 many]) 0) :: Ob kv (.cells (vs.map w32) 0) :: r) reads_rd hge hvs h9 _ ?_
    rintro _ s10 ⟨rfl, h10⟩
    obtain ⟨v', e4, h11⟩ := rdH_cut h10 (n := rest.length) (l := 64) (Nat.le_refl _) hge (lo := some (.int .i64 64)) (hi := none) (.inr ⟨.i64, rfl⟩) (.inl ⟨rfl, rfl⟩)
    rw [List.take_length] at h11
    rw [e4, optK_some]
    refine stAll_t (h11.pull 2) (by simp [hvs]) (by simp) (w32s_flat _) fun s12 h12 => ?_
    rw [nx_nrm]
    refine hnext j _ _ (by omega) ⟨j, rest.drop 64, takeF vs rest, v', rfl, by simp; omega, by simp, hab, ?_, h12.ord [1, 2, 0], rfl, rfl, rfl, rfl⟩
    rw [List.drop_drop, ← hdr]; congr 1; omega
  · have d : decide ((rest.length : Int) ≥ 64) = false := by simp; omega
    have j0 : j = 0 := by omega
    subst j0
    rw [d]
    simp only [condV_false, nx_exit, exX_exit, beq_self_eq_true, exB_true]
    show ldA 8 (.ptr (some ⟨.new kv, 0⟩)) s9 _
    rw [ldAll_t (h9.pull 2) (by simp [hvs])]
    show fn107 (.slice ar rest.length cr exr) s9 _
    refine Clone_t reads_rd h9 (by have : rest.length < 64 := by omega
                                   omega) _ ?_
    rintro u s10 ⟨⟨an, cn, exn, rfl⟩, h10⟩
    have ek : holds ti146 (.ptr (some ⟨.new kv, 0⟩)) s10 (.agg (vs.map w32)) = true := by
      unfold holds
      rw [peekA_t rfl (h10.pull 3) (by simp [hvs])]
      exact all2_w vs
    have em : holds ti3 (.ptr (some ⟨.new kh, 9⟩)) s9 (.int .i64 many) = true := holds_t rfl (h9.pull 1) (c9 hv _ _) (by simp [sameV, same0])
    have wm : IntKind.i64.wrap ((many : Int) + (ys.length : Int)) = ((many + ys.length : Nat) : Int) := by rw [wrap64 (by omega) (by omega)]; omega
    show chkB (holds ti146 (.ptr (some ⟨.new kv, 0⟩)) s10 (.agg (vs.map w32))) _
    rw [ek, chkB_true]
    show optK (nilV (.ptr (some ⟨.new kh, 0⟩))) s10 _
    simp only [nilV_ptr, fp_ptr, optK_some, Nat.zero_add, ld_t (h10.pull 2), c9 hv, em, chkB_true]
    show optK (lenV (some (Kd.slice 5)) (.slice ab ys.length cb exb)) s10 _
    simp only [lenV_slice, optK_some, bin_add, wm]
    show optK (nilV (.ptr (some ⟨.new kh, 0⟩))) s10 _
    simp only [nilV_ptr, fp_ptr, optK_some, Nat.zero_add]
    refine stN_t (h10.pull 2) (by simp [hv, hvs]) (w32s_flat _) (by simp [hvs]) fun s11 h11 => ?_
    have esp : spl (v.map w32 ++ [.slice a left.length c ex, .int .i64 many]) 0 (vs.map w32) = vs.map w32 ++ [.slice a left.length c ex, .int .i64 many] := by
      unfold spl
      rw [List.take_zero, List.nil_append, List.drop_append_of_le_length (by simp [hv, hvs]), List.drop_of_length_le (by simp [hv, hvs]), List.nil_append]
    rw [esp] at h11
    show optK (nilV (.ptr (some ⟨.new kh, 0⟩))) s11 _
    simp only [nilV_ptr, fp_ptr, optK_some, Nat.zero_add]
    refine st_t h11 (by simp [hvs]) rfl fun s12 h12 => ?_
    rw [set8 hvs] at h12
    show optK (nilV (.ptr (some ⟨.new kh, 0⟩))) s12 _
    simp only [nilV_ptr, fp_ptr, optK_some, Nat.zero_add]
    refine st_t h12 (by simp [hvs]) rfl fun s13 h13 => ?_
    rw [set9 hvs] at h13
    have hab' : vs = absorb (all.length / 64) w all := hab
    have hdr' : rest = all.drop (64 * (all.length / 64)) := by rw [← hdr]; rfl
    subst hab'
    subst hdr'
    exact hK _ _ ⟨rfl, HashH.iff.2 ⟨_, hvs, (h13.ord [0, 1]).drop 2 |>.drop 2⟩⟩
end Go.Proofs.Vt
end
section
/- SHA-256: digests. -/
namespace Go.Proofs.Vt
open Go Go.Rx Go.Proofs
variable {G : Nat → Option (List V)}

def zeroN (n : Nat) : Nat := (119 - n % 64) % 64
def padF (n : Nat) : List UInt8 := (128 :: List.replicate (zeroN n) 0) ++ numB 8 (n * 8)
def digB (v : List (BitVec 32)) (i : Nat) : UInt8 := u8v (((v.getD (i / 4) 0) >>> (24 - 8 * (i % 4))).toNat : Int)
def digF (v : List (BitVec 32)) : List UInt8 := (List.range 32).map (digB v)
@[simp] theorem digF_length (v : List (BitVec 32)) : (digF v).length = 32 := by simp [digF]
def outW (v : List (BitVec 32)) (i : Nat) : List V := (List.range 32).map fun j => if j < i then byteV (digB v j) else .int .u8 0
@[simp] theorem outW_length (v : List (BitVec 32)) (i : Nat) : (outW v i).length = 32 := by simp [outW]
theorem outW_set (v : List (BitVec 32)) {i : Nat} (hi : i < 32) : (outW v i).set i (byteV (digB v i)) = outW v (i + 1) := by
  apply List.ext_getElem?
  intro j
  rw [List.getElem?_set]
  by_cases hj : j < 32
  · by_cases hij : i = j
    · subst hij; simp [outW, hi]
    · rw [if_neg hij]
      have : j < i + 1 ↔ j < i := by omega
      simp [outW, hj, this]
  · rw [if_neg (by omega), List.getElem?_eq_none (by simp; omega), List.getElem?_eq_none (by simp; omega)]
theorem outW_full (v : List (BitVec 32)) : outW v 32 = (digF v).map byteV := by
  simp only [outW, digF, List.map_map]
  apply List.map_congr_left
  intro j hj
  rw [if_pos (by simpa using hj)]; rfl

theorem hCopy_t {kh : Nat} {v : List (BitVec 32)} {left : List UInt8} {many : Nat} {r : List HP} {s : AS} (h : Hs G (HashH kh v left many :: r) s) (hl : left.length ≤ 1000) :
    Ens (fn181 (.ptr (some ⟨.new kh, 0⟩))) s fun u s' => ∃ kc, u = .ptr (some ⟨.new kc, 0⟩) ∧ Hs G (HashH kc v left many :: r) s' := by
  intro K hK
  obtain ⟨vl, hv, h1⟩ := HashH.iff.1 h
  unfold fn181 fn181_q
  simp only [bin_ptr_nil, Option.isNone_some, optK_some, condV_false, nilV_ptr]
  rw [ldAll_t h1 (by simp [hv])]
  refine newC_t h1 fun kc s2 h2 => ?_
  refine stAll_t h2 (by simp) (by simp [hv]) ?_ fun s3 h3 => ?_
  · obtain ⟨a, c, ex, rfl⟩ := slH_slice (h2.pull 2)
    rw [List.all_append, w32s_flat]; rfl
  simp only [fp_ptr, optK_some, Nat.zero_add, ld_t (h3.pull 1), c8 hv]
  refine Clone_t reads_bytes (h3.pull 2) (by omega) _ ?_
  rintro u s4 ⟨⟨a, c, ex, rfl⟩, h4⟩
  refine st_t (h4.pull 2) (by simp [hv]) rfl fun s5 h5 => ?_
  rw [set8 hv] at h5
  exact hK _ _ ⟨kc, rfl, HashH.iff.2 ⟨_, hv, (h5.drop 2).drop 2⟩⟩

theorem sum_loop1 {K : KX} {s : AS} {kc : Nat} {t2 pv : V} {v : List (BitVec 32)} {vl : V} {many : Nat} {tm : Tm} {r : List HP} (hv : v.length = 8) (hm : many ≤ 1073741824)
    (h : Hs G (BytesH pv [128] :: Ob kc (.cells (v.map w32 ++ [vl, .int .i64 many]) 0) :: r) s) (h2 : tm.getD 2 .junk = t2) (h3 : tm.getD 3 .junk = .ptr (some ⟨.new kc, 0⟩)) (h4 : tm.getD 4 .junk = pv)
    (hK : ∀ tm' s' pv', Hs G (BytesH pv' (128 :: List.replicate (zeroN many) 0) :: Ob kc (.cells (v.map w32 ++ [vl, .int .i64 many]) 0) :: r) s' → tm'.getD 2 .junk = t2 → tm'.getD 3 .junk = .ptr (some ⟨.new kc, 0⟩) → tm'.getD 4 .junk = pv' → K (.exit 0) tm' s') :
    loopN LOOPS (fun tm s K => fn154_L1 fn181 fn152 fn153 (tm.getD 2 .junk) (tm.getD 3 .junk) (tm.getD 4 .junk) s K) tm s K := by
  refine loop_rule (fun m tm s1 => ∃ (j : Nat) (pv : V), j + m = zeroN many ∧ Hs G (BytesH pv (128 :: List.replicate j 0) :: Ob kc (.cells (v.map w32 ++ [vl, .int .i64 many]) 0) :: r) s1 ∧
    tm.getD 2 .junk = t2 ∧ tm.getD 3 .junk = .ptr (some ⟨.new kc, 0⟩) ∧ tm.getD 4 .junk = pv) ?_ (m := zeroN many) (by unfold zeroN; omega) ⟨0, pv, by omega, h, h2, h3, h4⟩
  rintro m tm s1 Kn ⟨j, pv, hj, h1, h2, h3, h4⟩ hnext
  simp only [h2, h3, h4]
  unfold fn154_L1
  have hz : zeroN many < 64 := by unfold zeroN; omega
  obtain ⟨a, c, ex, rfl⟩ := slH_slice h1
  have hlen : (128 :: List.replicate j (0 : UInt8)).length = j + 1 := by simp
  have w1 : IntKind.i64.wrap ((many : Int) + (((128 :: List.replicate j (0 : UInt8)).length : Nat) : Int)) = ((many + 1 + j : Nat) : Int) := by rw [hlen, wrap64 (by omega) (by omega)]; omega
  have hrem : binV .rem (some (Kd.int .i64)) true (.int .i64 ((many + 1 + j : Nat) : Int)) (.int .i64 64) = some (.int .i64 (((many + 1 + j) % 64 : Nat) : Int)) := by
    simp only [bin_rem]; rw [if_neg (by decide), Int.tmod_eq_emod_of_nonneg (by omega)]; rfl
  simp only [nilV_ptr, fp_ptr, optK_some, Nat.zero_add, ld_t (h1.pull 1), c9 hv, lenV_slice, bin_add, w1, hrem, bin_neq]
  by_cases hjz : j = zeroN many
  · have d : ((((many + 1 + j) % 64 : Nat) : Int) != 56) = false := by
      have : (many + 1 + j) % 64 = 56 := by rw [hjz]; unfold zeroN; omega
      rw [this]; rfl
    subst hjz
    simp only [d, condV_false, nx_exit]
    exact hK _ _ _ h1 rfl rfl rfl
  · have d : ((((many + 1 + j) % 64 : Nat) : Int) != 56) = true := by
      have : (many + 1 + j) % 64 ≠ 56 := by unfold zeroN at hj hz hjz; omega
      simp; omega
    simp only [d, condV_true]
    refine bsl1_t rfl rfl h1 fun x s2 hx hxl h2' => ?_
    refine push_t (h2'.ord [1, 0]) hx hxl rfl (by rw [hlen]; omega) (by omega) fun v3 s3 h3' => ?_
    rw [nx_nrm]
    refine hnext (m - 1) _ _ (by omega) ⟨j + 1, v3, by omega, ?_, rfl, rfl, rfl⟩
    have e : (128 :: List.replicate j (0 : UInt8)).map byteV ++ [V.int .u8 0] = (128 :: List.replicate (j + 1) (0 : UInt8)).map byteV := by
      rw [List.replicate_succ']; simp [byteV]
    rw [e] at h3'
    have e2 : (128 :: List.replicate j (0 : UInt8)).length + 1 = (128 :: List.replicate (j + 1) (0 : UInt8)).length := by simp
    rw [e2] at h3'
    exact h3'

theorem sum_loop2 {K : KX} {s : AS} {kc : Nat} {t2 pv : V} {v : List (BitVec 32)} {vl : V} {many : Nat} {pad : List UInt8} {tm : Tm} {r : List HP} (hv : v.length = 8) (hm : many ≤ 1073741824) (hp : pad.length ≤ 100)
    (h : Hs G (BytesH pv pad :: Ob kc (.cells (v.map w32 ++ [vl, .int .i64 many]) 0) :: r) s) (h2 : tm.getD 2 .junk = t2) (h3 : tm.getD 3 .junk = .ptr (some ⟨.new kc, 0⟩)) (h4 : tm.getD 4 .junk = pv) (h25 : tm.getD 25 .junk = .int .i64 0)
    (hK : ∀ tm' s' pv', Hs G (BytesH pv' (pad ++ numB 8 (many * 8)) :: Ob kc (.cells (v.map w32 ++ [vl, .int .i64 many]) 0) :: r) s' → tm'.getD 2 .junk = t2 → tm'.getD 3 .junk = .ptr (some ⟨.new kc, 0⟩) → tm'.getD 4 .junk = pv' → K (.exit 2) tm' s') :
    loopN LOOPS (fun tm s K => fn154_L2 fn181 fn152 fn153 (tm.getD 2 .junk) (tm.getD 3 .junk) (tm.getD 4 .junk) (tm.getD 25 .junk) s K) tm s K := by
  refine loop_rule (fun m tm s1 => ∃ (i : Nat) (pv : V), i + m = 8 ∧ Hs G (BytesH pv (pad ++ (numB 8 (many * 8)).take i) :: Ob kc (.cells (v.map w32 ++ [vl, .int .i64 many]) 0) :: r) s1 ∧
    tm.getD 2 .junk = t2 ∧ tm.getD 3 .junk = .ptr (some ⟨.new kc, 0⟩) ∧ tm.getD 4 .junk = pv ∧ tm.getD 25 .junk = .int .i64 (i : Nat)) ?_ (m := 8) (by omega) ⟨0, pv, rfl, by simpa using h, h2, h3, h4, h25⟩
  rintro m tm s1 Kn ⟨i, pv, him, h1, h2, h3, h4, h25⟩ hnext
  simp only [h2, h3, h4, h25]
  unfold fn154_L2
  obtain ⟨a, c, ex, rfl⟩ := slH_slice h1
  by_cases hi : i < 8
  · have d : decide ((i : Int) < 8) = true := by simp; omega
    have w1 : IntKind.i64.wrap ((many : Int) * 8) = ((many * 8 : Nat) : Int) := by rw [wrap64 (by omega) (by omega)]; omega
    have w2 : IntKind.i64.wrap (8 * (i : Int)) = ((8 * i : Nat) : Int) := by rw [wrap64 (by omega) (by omega)]; omega
    have w3 : IntKind.i64.wrap (56 - ((8 * i : Nat) : Int)) = ((8 * (8 - 1 - i) : Nat) : Int) := by rw [wrap64 (by omega) (by omega)]; omega
    have w4 : IntKind.i64.wrap ((i : Int) + 1) = ((i + 1 : Nat) : Int) := by rw [wrap64 (by omega) (by omega)]; omega
    have hsh : binV .shr (some (Kd.int .i64)) false (.int .i64 ((many * 8 : Nat) : Int)) (.int .i64 ((8 * (8 - 1 - i) : Nat) : Int)) = some (.int .i64 (((many * 8 : Nat) : Int).fdiv (2 ^ (8 * (8 - 1 - i))))) := by
      have ht : min (((8 * (8 - 1 - i) : Nat) : Int)).toNat IntKind.i64.bits = 8 * (8 - 1 - i) := by show min _ 64 = _; omega
      simp only [binV, shrV]
      rw [if_neg (by omega), ht]
    have hx : (numB 8 (many * 8)).take (i + 1) = (numB 8 (many * 8)).take i ++ [u8v (((many * 8 : Nat) : Int).fdiv (2 ^ (8 * (8 - 1 - i))))] := by
      have : (numB 8 (many * 8))[i]? = some (u8v (((many * 8 : Nat) : Int).fdiv (2 ^ (8 * (8 - 1 - i))))) := by simp [numB, hi]
      rw [List.take_add_one, this]; rfl
    obtain ⟨x, hxe⟩ : ∃ x, x = u8v (((many * 8 : Nat) : Int).fdiv (2 ^ (8 * (8 - 1 - i)))) := ⟨_, rfl⟩
    rw [← hxe] at hx
    simp only [bin_lss, optK_some, d, condV_true, nilV_ptr, fp_ptr, Nat.zero_add, ld_t (h1.pull 1), c9 hv, bin_mul, w1, w2, bin_sub, w3, hsh, cvt, convI, u8v_byte, ← hxe]
    refine bsl1_t rfl rfl h1 fun y s2 hy hyl h2' => ?_
    have hl : (pad ++ (numB 8 (many * 8)).take i).length ≤ 200 := by simp; omega
    refine push_t (h2'.ord [1, 0]) hy hyl rfl (by omega) (by omega) fun v3 s3 h3' => ?_
    simp only [bin_add, optK_some, w4, nx_nrm]
    refine hnext (8 - (i + 1)) _ _ (by omega) ⟨i + 1, v3, by omega, ?_, rfl, rfl, rfl, rfl⟩
    have e : (pad ++ (numB 8 (many * 8)).take i).map byteV ++ [byteV x] = (pad ++ (numB 8 (many * 8)).take (i + 1)).map byteV := by rw [hx]; simp
    have e2 : (pad ++ (numB 8 (many * 8)).take i).length + 1 = (pad ++ (numB 8 (many * 8)).take (i + 1)).length := by rw [hx]; simp; omega
    rw [e, e2] at h3'
    exact h3'
  · have : i = 8 := by omega
    subst this
    have d : decide (((8 : Nat) : Int) < 8) = false := by decide
    rw [List.take_of_length_le (by simp)] at h1
    simp only [bin_lss, optK_some, d, condV_false, nx_exit]
    exact hK _ _ _ h1 rfl rfl rfl

theorem sum_loop3 {K : KX} {s : AS} {kc ko : Nat} {v : List (BitVec 32)} {x y : V} {tm : Tm} {r : List HP} (hv : v.length = 8)
    (h : Hs G (Ob ko (.cells (outW v 0) 0) :: Ob kc (.cells (v.map w32 ++ [x, y]) 0) :: r) s) (h2 : tm.getD 2 .junk = .ptr (some ⟨.new ko, 0⟩)) (h3 : tm.getD 3 .junk = .ptr (some ⟨.new kc, 0⟩)) (h45 : tm.getD 45 .junk = .int .i64 0)
    (hK : ∀ tm' s', Hs G (Ob ko (.cells ((digF v).map byteV) 0) :: Ob kc (.cells (v.map w32 ++ [x, y]) 0) :: r) s' → tm'.getD 2 .junk = .ptr (some ⟨.new ko, 0⟩) → K (.exit 4) tm' s') :
    loopN LOOPS (fun tm s K => fn154_L3 fn181 fn152 fn153 (tm.getD 2 .junk) (tm.getD 3 .junk) (tm.getD 45 .junk) s K) tm s K := by
  refine loop_rule (fun m tm s1 => ∃ i : Nat, i + m = 32 ∧ Hs G (Ob ko (.cells (outW v i) 0) :: Ob kc (.cells (v.map w32 ++ [x, y]) 0) :: r) s1 ∧
    tm.getD 2 .junk = .ptr (some ⟨.new ko, 0⟩) ∧ tm.getD 3 .junk = .ptr (some ⟨.new kc, 0⟩) ∧ tm.getD 45 .junk = .int .i64 (i : Nat)) ?_ (m := 32) (by omega) ⟨0, rfl, h, h2, h3, h45⟩
  rintro m tm s1 Kn ⟨i, him, h1, h2, h3, h45⟩ hnext
  simp only [h2, h3, h45]
  unfold fn154_L3
  by_cases hi : i < 32
  · have d : decide ((i : Int) < 32) = true := by simp; omega
    have hq : binV .quo (some (Kd.int .i64)) true (.int .i64 (i : Nat)) (.int .i64 4) = some (.int .i64 ((i / 4 : Nat) : Int)) := by
      simp only [bin_quo]; rw [if_neg (by decide), Int.tdiv_eq_ediv_of_nonneg (by omega), wrap64 (by omega) (by omega)]; rfl
    have hr : binV .rem (some (Kd.int .i64)) true (.int .i64 (i : Nat)) (.int .i64 4) = some (.int .i64 ((i % 4 : Nat) : Int)) := by
      simp only [bin_rem]; rw [if_neg (by decide), Int.tmod_eq_emod_of_nonneg (by omega)]; rfl
    have w2 : IntKind.i64.wrap (8 * ((i % 4 : Nat) : Int)) = ((8 * (i % 4) : Nat) : Int) := by rw [wrap64 (by omega) (by omega)]; omega
    have w3 : IntKind.i64.wrap (24 - ((8 * (i % 4) : Nat) : Int)) = ((24 - 8 * (i % 4) : Nat) : Int) := by rw [wrap64 (by omega) (by omega)]; omega
    have w4 : IntKind.i64.wrap ((i : Int) + 1) = ((i + 1 : Nat) : Int) := by rw [wrap64 (by omega) (by omega)]; omega
    have ec : elemPtr (some 8) 1 (.ptr (some ⟨.new kc, 0⟩)) (.int .i64 ((i / 4 : Nat) : Int)) = some (.ptr (some ⟨.new kc, i / 4⟩)) := by rw [elemA_ok (by omega)]; simp
    have eo : elemPtr (some 32) 1 (.ptr (some ⟨.new ko, 0⟩)) (.int .i64 ((i : Nat) : Int)) = some (.ptr (some ⟨.new ko, i⟩)) := by rw [elemA_ok hi]; simp
    have q : (v.map w32 ++ [x, y])[i / 4]? = some (w32 (v.getD (i / 4) 0)) := by rw [List.getElem?_append_left (by simp; omega), w_cell (by omega)]
    have hsh : binV .shr (some (Kd.int .u32)) false (w32 (v.getD (i / 4) 0)) (.int .i64 ((24 - 8 * (i % 4) : Nat) : Int)) = some (w32 ((v.getD (i / 4) 0) >>> (24 - 8 * (i % 4)))) := w_shr _ _ _ _ _ (by omega)
    have hcv : ∀ s K, cvt (Kd.int .u32) (Kd.int .u8) (w32 ((v.getD (i / 4) 0) >>> (24 - 8 * (i % 4)))) s K = K (byteV (digB v i)) s := fun s K => by
      simp only [cvt, w32, convI, u8v_byte, optK_some]; rfl
    simp only [bin_lss, optK_some, d, condV_true, hq, nilV_ptr, fp_ptr, Nat.zero_add, ec, ld_t (h1.pull 1), q, hr, bin_mul, w2, bin_sub, w3, hsh, hcv, eo]
    refine st_t h1 (by simp; omega) rfl fun s2 h2' => ?_
    rw [outW_set v hi] at h2'
    simp only [bin_add, optK_some, w4, nx_nrm]
    exact hnext (32 - (i + 1)) _ _ (by omega) ⟨i + 1, by omega, h2', rfl, rfl, rfl⟩
  · have : i = 32 := by omega
    subst this
    have d : decide (((32 : Nat) : Int) < 32) = false := by decide
    simp only [bin_lss, optK_some, d, condV_false, nx_exit]
    rw [outW_full] at h1
    exact hK _ _ h1 rfl

/-- The digest of a hash that has taken this. -/
def sumF (v : List (BitVec 32)) (left : List UInt8) (many : Nat) : List UInt8 :=
  digF (absorb ((left ++ padF many).length / 64) (if many < 64 then shaFirst else v) (left ++ padF many))
def shaF (ys : List UInt8) : List UInt8 := sumF (absorb (ys.length / 64) shaFirst ys) (ys.drop (64 * (ys.length / 64))) ys.length
@[simp] theorem shaF_length (ys : List UInt8) : (shaF ys).length = 32 := digF_length _

theorem hSum_t (hG : ShaG G) {kh : Nat} {v : List (BitVec 32)} {left : List UInt8} {many : Nat} {r : List HP} {s : AS} (h : Hs G (HashH kh v left many :: r) s) (hl : left.length ≤ 1000) (hm : many ≤ 1073741824) :
    Ens (fn154 (.ptr (some ⟨.new kh, 0⟩))) s fun u s' => u = .agg ((sumF v left many).map byteV) ∧ Hs G r s' := by
  intro K hK
  unfold fn154 fn154_q
  refine newC_t h fun ko s1 h1 => ?_
  refine hCopy_t (h1.pull 1) hl _ ?_
  rintro _ s2 ⟨kc, rfl, h2⟩
  simp only [bin_ptr_nil, Option.isNone_some, optK_some, condV_false]
  obtain ⟨vl, hv, h3⟩ := HashH.iff.1 h2
  rw [bsl1_ok _ rfl _ _ rfl]
  have h4 := h3.alloc (.cells [.int .u8 128] 0)
  have h5 : Hs G (BytesH (.slice (some ⟨.new s2.next, 0⟩) 1 1 true) [128] :: Ob kc (.cells (v.map w32 ++ [vl, .int .i64 many]) 0) :: BytesH vl left :: Ob ko (.cells (outW v 0) 0) :: r) (s2.alloc (.cells [.int .u8 128] 0)) := by
    have := ob_slH (sz := 1) (n := 1) (c := 1) (ex := true) (xs := [byteV 128]) h4 rfl rfl rfl (Nat.le_refl _) (by simp) (.inl rfl)
    exact (this.ord [0, 1, 2])
  refine sum_loop1 (t2 := .ptr (some ⟨.new ko, 0⟩)) hv hm h5 rfl rfl rfl ?_
  intro tm s6 pv h6 e2 e3 e4
  simp only [exX_exit, beq_self_eq_true, exB_true, e2, e3, e4]
  refine sum_loop2 (t2 := .ptr (some ⟨.new ko, 0⟩)) hv hm (by simp; unfold zeroN; omega) h6 rfl rfl rfl rfl ?_
  intro tm2 s7 pv2 h7 f2 f3 f4
  simp only [exX_exit, beq_self_eq_true, exB_true, f2, f3, f4]
  have h8 : Hs G (HashH kc v left many :: BytesH pv2 (padF many) :: Ob ko (.cells (outW v 0) 0) :: r) s7 := HashH.iff.2 ⟨vl, hv, h7.ord [1, 2, 0]⟩
  have hpl : (padF many).length ≤ 200 := by simp [padF, zeroN]; omega
  refine hWrite_t hG h8 reads_bytes hl (by omega) hm _ ?_
  rintro _ s9 ⟨rfl, h9⟩
  obtain ⟨vl2, hv2, h10⟩ := HashH.iff.1 h9
  refine sum_loop3 hv2 (h10.ord [3, 0]) rfl rfl rfl ?_
  intro tm3 s11 h11 g2
  simp only [exX_exit, beq_self_eq_true, exB_true, g2]
  rw [ldAll_t h11 (by simp)]
  refine stAll_t h11 (by simp) (by simp) (byteV_flat _) fun s12 h12 => ?_
  rw [peekA_t rfl h12 (by simp), rfin1]
  exact hK _ _ ⟨rfl, (((h12.drop 0).drop 0).drop 0).drop 0⟩

theorem New_sha (s : AS) (K : K0) : fn152 s K = K (.ptr (some ⟨.new s.next, 0⟩)) (s.alloc (.cells ((List.replicate 8 (0 : BitVec 32)).map w32 ++ [.slice none 0 0 true, .int .i64 (0 : Nat)]) 0)) := by
  unfold fn152 fn152_q
  simp [fillV, aggO, boxV, newC, cellsV, w32, List.replicate]

/-- A text's digest. -/
theorem Sum_t (hG : ShaG G) {b : V} {ys : List UInt8} {r : List HP} {s : AS} (hr : Reads G r b ys) (h : Hs G r s) (hy : ys.length ≤ 1000000000) :
    Ens (fn139 b) s fun u s' => u = .agg ((shaF ys).map byteV) ∧ Hs G r s' := by
  intro K hK
  unfold fn139 fn139_q
  refine newC_t h fun ko s1 h1 => ?_
  rw [New_sha]
  have h2 := h1.alloc (.cells ((List.replicate 8 (0 : BitVec 32)).map w32 ++ [.slice none 0 0 true, .int .i64 (0 : Nat)]) 0)
  have h3 := (HashH.iff (left := []) (many := 0)).2 ⟨.slice none 0 0 true, (by simp : (List.replicate 8 (0 : BitVec 32)).length = 8), (h2.slNil 1 true).swap⟩
  refine hWrite_t hG h3 (hr.cons) (by simp) (by omega) (by omega) _ ?_
  rintro _ s4 ⟨rfl, h4⟩
  simp only [List.nil_append, Nat.zero_add] at h4
  refine hSum_t hG h4 (by simp; omega) (by omega) _ ?_
  rintro _ s5 ⟨rfl, h5⟩
  refine stAll_t h5 (by simp) (by simp [sumF]) (byteV_flat _) fun s6 h6 => ?_
  rw [peekA_t rfl h6 (by simp [sumF]), rfin1]
  exact hK _ _ ⟨rfl, h6.tail⟩
end Go.Proofs.Vt
end
