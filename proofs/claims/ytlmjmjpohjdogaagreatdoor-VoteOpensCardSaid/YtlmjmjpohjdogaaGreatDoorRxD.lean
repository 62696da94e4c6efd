/- A part of the proofs of the Vote laws: what a call holds in memory, by separate blocks; and the road from a law's run to its row. -/
import Derived.Test.YtlmjmjpohjdogaaGreatDoorRxC
import Derived.WalkKit
import Derived.ProofKit
import Derived.OpenShut
import Derived.Deep.DeepHandedRow
import Derived.Lib.LaidTab
import Derived.Carry
import Derived.Below
import Derived.ChangeOld
set_option linter.unusedVariables false
set_option linter.unusedSimpArgs false
section
/- Slices that own their cells. -/
namespace Go.Rx
open Go

/-- A slice of n elements of sz cells, which begins at its object's first cell and has it for itself. -/
structure OwnR (sz : Nat) (s : AS) (v : V) (n : Nat) (xs : List V) (b : Option Nat) : Prop where
  len : xs.length = n * sz
  flat : xs.all flatV = true
  at' : match b with
    | none => n = 0 ∧ ∃ ex, v = .slice none 0 0 ex
    | some k => ∃ c ex cs u, v = .slice (some ⟨.new k, 0⟩) n c ex ∧ s.get k = some (.cells cs u) ∧ cs.take (n * sz) = xs ∧ n ≤ c ∧ c * sz ≤ cs.length ∧ (ex = true ∨ (c ≠ 0 ∧ u = sz))

/-- What a call leaves as it was. -/
structure Kept (m : List Nat) (s s' : AS) : Prop where
  next : s.next ≤ s'.next
  old : s'.old = s.old
  get : ∀ k, k < s.next → k ∉ m → s'.get k = s.get k

theorem Kept.refl (m : List Nat) (s : AS) : Kept m s s := ⟨Nat.le_refl _, rfl, fun _ _ _ => rfl⟩
theorem Kept.trans {m m' l : List Nat} {s s1 s2 : AS} (h : Kept m s s1) (g : Kept m' s1 s2) (h1 : ∀ k ∈ m, k ∈ l) (h2 : ∀ k ∈ m', k ∈ l ∨ s.next ≤ k) : Kept l s s2 :=
  ⟨Nat.le_trans h.next g.next, g.old.trans h.old, fun k hk hl => by
    rw [g.get k (by have := h.next; omega) (fun hm => (h2 k hm).elim hl (fun h => by omega)), h.get k hk (fun hm => hl (h1 k hm))]⟩
theorem Kept.put {s : AS} {k : Nat} (o : Option AObj) : Kept [k] s (s.put k o) :=
  ⟨Nat.le_refl _, rfl, fun j _ hm => by rw [AS.get_put, if_neg (by simpa using hm)]⟩
theorem Kept.alloc {s : AS} (o : AObj) : Kept [] s (s.alloc o) :=
  ⟨by simp, rfl, fun j hj _ => by rw [AS.get_alloc, if_neg (by omega)]⟩

theorem OwnR.kept {sz : Nat} {s s' : AS} {v : V} {n : Nat} {xs : List V} {b : Option Nat} (h : OwnR sz s v n xs b) (hk : ∀ k, b = some k → s'.get k = s.get k) : OwnR sz s' v n xs b := by
  refine ⟨h.len, h.flat, ?_⟩
  have := h.at'
  cases b with
  | none => exact this
  | some k =>
    obtain ⟨c, ex, cs, u, h1, h2, h3⟩ := this
    exact ⟨c, ex, cs, u, h1, (hk k rfl).trans h2, h3⟩

theorem own_nil (sz : Nat) (s : AS) (ex : Bool) : OwnR sz s (.slice none 0 0 ex) 0 [] none := ⟨by simp, rfl, rfl, ex, rfl⟩

theorem take_spl (cs ys : List V) (o : Nat) (h : o + ys.length ≤ cs.length) : (spl cs o ys).take (o + ys.length) = cs.take o ++ ys := by
  unfold spl
  rw [List.take_append, List.take_append]
  have e : (cs.take o).length = o := by simp; omega
  rw [List.take_of_length_le (by omega), e]
  simp
theorem length_spl (cs ys : List V) (o : Nat) (h : o + ys.length ≤ cs.length) : (spl cs o ys).length = cs.length := by
  unfold spl; simp; omega

theorem app_own {sz bytes : Nat} (hsz : sz ≠ 0) {s : AS} {v : V} {m : Nat} {xs : List V} {b : Option Nat} (ho : OwnR sz s v m xs b) {x : V} {n : Nat} {ys : List V} (hn : srcLen x = some n) (hy : srcN sz n x s = some ys)
    (hyl : ys.length = n * sz) (hf : ys.all flatV = true) (hroom : (m + n) * bytes ≤ 140737488355328) (hb : bytes ≠ 0) :
    ∃ v' s' b', (∀ K, app sz bytes v x s K = K v' s') ∧ OwnR sz s' v' (m + n) (xs ++ ys) b' ∧ Kept (b.toList) s s' ∧ (b' = b ∨ ∃ k', b' = some k' ∧ s.next ≤ k' ∧ k' < s'.next) := by
  have room : roomB (m + n) bytes = true := by simp [roomB, hroom, hb]
  have hat := ho.at'
  cases b with
  | none =>
    obtain ⟨hm, ex, rfl⟩ := hat
    subst hm
    have hx0 : xs = [] := List.eq_nil_of_length_eq_zero (by have := ho.len; simpa using this)
    subst hx0
    by_cases h0 : n = 0
    · subst h0
      have : ys = [] := List.eq_nil_of_length_eq_zero (by simpa using hyl)
      subst this
      exact ⟨.slice none 0 0 ex, s, none, fun K => by simp [app, hn, srcX_of hy], own_nil _ _ _, Kept.refl _ _, .inl rfl⟩
    · refine ⟨.slice (some ⟨.new s.next, 0⟩) n n false, s.alloc (.cells ys sz), some s.next, fun K => ?_, ?_, ?_, .inr ⟨_, rfl, Nat.le_refl _, by simp⟩⟩
      · rw [Nat.zero_add] at room
        simp only [app, hn, srcX_of hy, if_neg h0, room, hf, and_self, if_true]
      · refine ⟨by simpa using hyl, by simpa using hf, n, false, ys, sz, by simp, by simp, ?_, by omega, by rw [hyl]; exact Nat.le_refl _, .inr ⟨h0, rfl⟩⟩
        rw [List.nil_append, Nat.zero_add, ← hyl, List.take_length]
      · exact ⟨by simp, rfl, fun k hk _ => by rw [AS.get_alloc, if_neg (by omega)]⟩
  | some k =>
    obtain ⟨c, ex, cs, u, rfl, hg, ht, hmc, hcl, hex⟩ := hat
    have hmcl : m * sz ≤ cs.length := Nat.le_trans (Nat.mul_le_mul_right _ hmc) hcl
    by_cases h0 : n = 0
    · subst h0
      have : ys = [] := List.eq_nil_of_length_eq_zero (by simpa using hyl)
      subst this
      refine ⟨.slice (some ⟨.new k, 0⟩) m c ex, s, some k, fun K => ?_, by simpa using ho, Kept.refl _ _, .inl rfl⟩
      simp [app, hn, srcX_of hy, hmc]
    · by_cases hfit : m + n ≤ c
      · have hle : m * sz + ys.length ≤ cs.length := by
          rw [hyl, ← Nat.add_mul]; exact Nat.le_trans (Nat.mul_le_mul_right _ hfit) hcl
        refine ⟨.slice (some ⟨.new k, 0⟩) (m + n) c ex, s.put k (some (.cells (spl cs (m * sz) ys) u)), some k, fun K => ?_, ?_, ?_, .inl rfl⟩
        · simp only [app, hn, srcX_of hy, if_neg h0, if_pos hfit]
          have : setN s (add ⟨.new k, 0⟩ (m * sz)) ys = some (s.put k (some (.cells (spl cs (m * sz) ys) u))) := by
            simp only [setN, add, hg, Nat.zero_add]
            rw [if_pos ⟨hle, hf⟩]
          rw [this]
        · refine ⟨by rw [List.length_append, ho.len, hyl, Nat.add_mul], by rw [List.all_append, ho.flat, hf]; rfl, c, ex, spl cs (m * sz) ys, u, rfl, by simp, ?_, hfit, by rw [length_spl _ _ _ hle]; exact hcl, hex⟩
          rw [Nat.add_mul, ← hyl, take_spl _ _ _ hle, ht]
        · exact Kept.put _
      · have holds : srcN sz m (.slice (some ⟨.new k, 0⟩) m c ex) s = some xs := by
          by_cases hm0 : m * sz = 0
          · have : xs = [] := List.eq_nil_of_length_eq_zero (by rw [ho.len, hm0])
            simp [srcN, hm0, this]
          · have hor : ex = true ∨ c ≠ 0 := hex.imp id (·.1)
            have hle2 : 0 + m * sz ≤ cs.length := by omega
            have hld : ldN s ⟨.new k, 0⟩ (m * sz) = some xs := by
              simp only [ldN, cellsAt, hg]
              rw [if_pos hle2]
              simp [ht]
            simp only [srcN]
            rw [if_neg hm0, if_pos hor, hld]
        cases ex with
        | true =>
          refine ⟨.slice (some ⟨.new s.next, 0⟩) (m + n) (m + n) false, s.alloc (.cells (xs ++ ys) sz), some s.next, fun K => ?_, ?_, ?_, .inr ⟨_, rfl, Nat.le_refl _, by simp⟩⟩
          · simp only [app, hn, srcX_of hy, if_neg h0, if_neg hfit, holds, room, ho.flat, hf, and_self, if_true]
          · refine ⟨by rw [List.length_append, ho.len, hyl, Nat.add_mul], by rw [List.all_append, ho.flat, hf]; rfl, m + n, false, xs ++ ys, sz, rfl, by simp, ?_, Nat.le_refl _, ?_, .inr ⟨by omega, rfl⟩⟩
            · exact List.take_of_length_le (by rw [List.length_append, ho.len, hyl, Nat.add_mul]; exact Nat.le_refl _)
            · rw [List.length_append, ho.len, hyl, Nat.add_mul]; exact Nat.le_refl _
          · exact ⟨by simp, rfl, fun j hj _ => by rw [AS.get_alloc, if_neg (by omega)]⟩
        | false =>
          have hex' : c ≠ 0 ∧ u = sz := hex.resolve_left (by simp)
          obtain ⟨hc0, hu⟩ := hex'
          subst hu
          refine ⟨.slice (some ⟨.new s.next, 0⟩) (m + n) (m + n) false, (s.put k none).alloc (.cells (xs ++ ys) u), some s.next, fun K => ?_, ?_, ?_, .inr ⟨_, rfl, Nat.le_refl _, by simp⟩⟩
          · simp only [app, hn, srcX_of hy, if_neg h0, if_neg hfit, holds, room, ho.flat, hf, and_self, if_true, hg]
            rw [if_pos ⟨hc0, trivial, hsz⟩]
          · refine ⟨by rw [List.length_append, ho.len, hyl, Nat.add_mul], by rw [List.all_append, ho.flat, hf]; rfl, m + n, false, xs ++ ys, u, rfl, ?_, ?_, Nat.le_refl _, ?_, .inr ⟨by omega, rfl⟩⟩
            · rw [AS.get_alloc, AS.next_put, if_pos rfl]
            · exact List.take_of_length_le (by rw [List.length_append, ho.len, hyl, Nat.add_mul]; exact Nat.le_refl _)
            · rw [List.length_append, ho.len, hyl, Nat.add_mul]; exact Nat.le_refl _
          · refine ⟨by simp, rfl, fun j hj hm => ?_⟩
            rw [AS.get_moved, if_neg (by omega), if_neg (by simpa using hm)]
end Go.Rx
end
section
/- Bytes in memory, and what is done with them. -/
namespace Go.Rx
open Go

def byteV (x : UInt8) : V := .int .u8 x.toNat
@[simp] theorem byteV_flat1 (x : UInt8) : flatV (byteV x) = true := rfl

theorem Kept.cells {m : List Nat} {s s' : AS} (h : Kept m s s') {k : Nat} {o : AObj} (hk : s.get k = some o) (hl : k < s.next) (hm : k ∉ m) : s'.get k = some o := (h.get k hl hm).trans hk

/-- Bytes that can be read. -/
structure Rd (s : AS) (v : V) (ys : List UInt8) : Prop where
  len : srcLen v = some ys.length
  src : srcN 1 ys.length v s = some (ys.map byteV)
  sl : ∃ a c ex, v = .slice a ys.length c ex

theorem OwnR.rd {s : AS} {v : V} {ys : List UInt8} {b : Option Nat} (h : OwnR 1 s v ys.length (ys.map byteV) b) : Rd s v ys := by
  have hat := h.at'
  cases b with
  | none =>
    obtain ⟨h0, ex, rfl⟩ := hat
    have : ys = [] := List.eq_nil_of_length_eq_zero h0
    subst this
    exact ⟨rfl, rfl, _, _, _, rfl⟩
  | some k =>
    obtain ⟨c, ex, cs, u, rfl, hg, ht, hmc, hcl, hex⟩ := hat
    refine ⟨rfl, ?_, _, _, _, rfl⟩
    by_cases h0 : ys.length * 1 = 0
    · have : ys = [] := List.eq_nil_of_length_eq_zero (by omega)
      subst this
      simp [srcN]
    · have hor : ex = true ∨ c ≠ 0 := hex.imp id (·.1)
      simp only [srcN]
      rw [if_neg h0, if_pos hor]
      simp only [ldN, cellsAt, hg]
      rw [if_pos (by omega)]
      simp only [List.drop_zero]
      rw [ht]

theorem byteV_flat (ys : List UInt8) : (ys.map byteV).all flatV = true := by
  induction ys with
  | nil => rfl
  | cons a l ih => simp [byteV, flatV]

theorem mkBytes_ok (s : AS) (n : Nat) (hn : n ≤ 140737488355328) (K : K0) :
    mkSl 1 1 [.int .u8 0] (.int .i64 n) (.int .i64 n) s K = K (.slice (some ⟨.new s.next, 0⟩) n n true) (s.alloc (.cells (List.replicate n (.int .u8 0)) 0)) := by
  have hz : zeros [V.int .u8 0] n = List.replicate n (.int .u8 0) := by
    unfold zeros
    induction n with
    | zero => rfl
    | succ n ih => simp only [List.replicate_succ, List.flatten_cons, ih (by omega)]; rfl
  have c : (0 : Int) ≤ n ∧ (n : Int) ≤ n ∧ ((1 : Nat) : Int) * n ≤ 140737488355328 ∧ (n : Int) ≤ 140737488355328 ∧ [V.int IntKind.u8 0].length = 1 ∧ [V.int IntKind.u8 0].all flatV = true := by
    refine ⟨by omega, by omega, by omega, by omega, rfl, rfl⟩
  simp only [mkSl]
  rw [if_pos c]
  simp [hz]

theorem srcN_kept {s s' : AS} {sz n : Nat} {v : V} (hk : ∀ k o l c ex, v = .slice (some ⟨.new k, o⟩) l c ex → s'.get k = s.get k) (ho : s'.old = s.old) : srcN sz n v s' = srcN sz n v s := by
  unfold srcN
  split
  · rfl
  · rename_i a l c ex
    have e : ldN s' a (n * sz) = ldN s a (n * sz) := by
      unfold ldN cellsAt
      obtain ⟨b, o⟩ := a
      cases b with
      | old b => simp [ho]
      | new k => simp [hk k o l c ex rfl]
    rw [e]
  · rfl
  · rfl

theorem Rd.kept {s s' : AS} {v : V} {ys : List UInt8} (h : Rd s v ys) (hk : ∀ k o l c ex, v = .slice (some ⟨.new k, o⟩) l c ex → s'.get k = s.get k) (ho : s'.old = s.old) : Rd s' v ys :=
  ⟨h.len, (srcN_kept hk ho).trans h.src, h.sl⟩

theorem sameV_slice (a n c e) : sameV (.slice a n c e) (.slice a n c e) = true := by simp [sameV, same0]
theorem holds_new {ti : TI} (hti : isAggK ti.kind = false) {s : AS} {k o u : Nat} {cs : List V} (h : s.get k = some (.cells cs u)) {v : V} (hv : cs[o]? = some v) (hs : sameV v v = true) : Rx.holds ti (.ptr (some ⟨.new k, o⟩)) s v = true := by
  simp [Rx.holds, peek, hti, ldC, cellsAt, h, hv, hs]

theorem bsl1_ok (v : V) (hv : flatV v = true) (s : AS) (z : V) (hz : flatV z = true) (K : K0) : bsl 1 [z] 1 [(0, v)] s K = K (.slice (some ⟨.new s.next, 0⟩) 1 1 true) (s.alloc (.cells [v] 0)) := by
  have h1 : cellsV v = [v] := by cases v <;> first | rfl | (simp [flatV] at hv)
  have h2 : fillV (fun j => some (j * 1, 1)) (zeros [z] 1) [(0, v)] = some [v] := by
    cases v <;> first | (simp [flatV] at hv; done) | simp [fillV, zeros, cellsV, spl]
  unfold bsl
  rw [h2]
  simp [hv, newS]

theorem OwnR.slice {sz : Nat} {s : AS} {v : V} {n : Nat} {xs : List V} {b : Option Nat} (h : OwnR sz s v n xs b) : ∃ a c ex, v = .slice a n c ex := by
  have := h.at'
  cases b with
  | none => obtain ⟨rfl, ex, rfl⟩ := this; exact ⟨_, _, _, rfl⟩
  | some k => obtain ⟨c, ex, cs, u, rfl, _⟩ := this; exact ⟨_, _, _, rfl⟩


theorem elem_ok {n c i sz o : Nat} {ex : Bool} {b : Blk} {q : IntKind} (hi : i < n) (hex : ex = true ∨ c ≠ 0) :
    elemPtr none sz (.slice (some ⟨b, o⟩) n c ex) (.int q (i : Nat)) = some (.ptr (some ⟨b, o + i * sz⟩)) := by
  have : (0 : Int) ≤ (i : Nat) ∧ ((i : Nat) : Int) < n ∧ (ex = true ∨ c ≠ 0) := ⟨by omega, by omega, hex⟩
  simp only [elemPtr]
  rw [if_pos this]
  simp [add]
end Go.Rx
end
section
/- Words of 32 bits. -/
namespace Go.Rx
open Go

def w32 (x : BitVec 32) : V := .int .u32 (x.toNat : Int)

theorem wrap32_toNat (x : BitVec 32) : IntKind.u32.wrap (x.toNat : Int) = (x.toNat : Int) := wrapu32 (by omega) (by have := x.isLt; omega)
theorem ofInt_toNat32 (x : BitVec 32) : BitVec.ofInt IntKind.u32.bits (x.toNat : Int) = x := by
  show BitVec.ofInt 32 (x.toNat : Int) = x
  rw [BitVec.ofInt_natCast, BitVec.ofNat_toNat, BitVec.setWidth_eq]
theorem wrap32_eq (z : Int) : IntKind.u32.wrap z = z % 4294967296 := by simp [IntKind.wrap, IntKind.signed, IntKind.bits]

theorem w_add (k c) (a b : BitVec 32) : binV .add k c (w32 a) (w32 b) = some (w32 (a + b)) := by
  unfold w32
  rw [bin_add, wrap32_eq, BitVec.toNat_add]
  congr 2
theorem w_or (k c) (a b : BitVec 32) : binV .or k c (w32 a) (w32 b) = some (w32 (a ||| b)) := by
  unfold w32
  simp only [binV, intV, if_true]
  congr 2
  rw [ofInt_toNat32, ofInt_toNat32]; exact wrap32_toNat _
theorem w_xor (k c) (a b : BitVec 32) : binV .xor k c (w32 a) (w32 b) = some (w32 (a ^^^ b)) := by
  unfold w32
  simp only [binV, intV, if_true]
  congr 2
  rw [ofInt_toNat32, ofInt_toNat32]; exact wrap32_toNat _
theorem w_and (k c) (a b : BitVec 32) : binV .and k c (w32 a) (w32 b) = some (w32 (a &&& b)) := by
  unfold w32
  simp only [binV, intV, if_true]
  congr 2
  rw [ofInt_toNat32, ofInt_toNat32]; exact wrap32_toNat _
theorem w_shr (k c q) (a : BitVec 32) (n : Nat) (hn : n ≤ 32) : binV .shr k c (w32 a) (.int q (n : Nat)) = some (w32 (a >>> n)) := by
  unfold w32
  simp only [binV, shrV]
  rw [if_neg (by omega)]
  congr 2
  have hm : min ((n : Nat) : Int).toNat IntKind.u32.bits = n := by show min _ 32 = n; omega
  rw [hm, Int.fdiv_eq_ediv_of_nonneg _ (Int.le_of_lt (Int.pow_pos (by omega))), BitVec.toNat_ushiftRight, Nat.shiftRight_eq_div_pow]
  norm_cast
theorem w_shl (k c q) (a : BitVec 32) (n : Nat) (hn : n ≤ 32) : binV .shl k c (w32 a) (.int q (n : Nat)) = some (w32 (a <<< n)) := by
  unfold w32
  simp only [binV, shlV]
  rw [if_neg (by omega)]
  congr 2
  have hm : min ((n : Nat) : Int).toNat IntKind.u32.bits = n := by show min _ 32 = n; omega
  rw [hm, wrap32_eq, BitVec.toNat_shiftLeft, Nat.shiftLeft_eq]
  have e : ((a.toNat * 2 ^ n % 2 ^ 32 : Nat) : Int) = (a.toNat : Int) * 2 ^ n % 4294967296 := by
    rw [Int.natCast_emod, Int.natCast_mul, Int.natCast_pow]; rfl
  exact e.symm
end Go.Rx
end
section
/- One byte of bytes. -/
namespace Go.Rx
open Go

theorem rd_elem {s : AS} {v : V} {ys : List UInt8} (h : Rd s v ys) {i : Nat} {y : UInt8} (hi : ys[i]? = some y) (q : IntKind) :
    ∃ p, elemPtr none 1 v (.int q (i : Nat)) = some (.ptr (some p)) ∧ ∀ K, ld1 (.ptr (some p)) s K = K (byteV y) s := by
  obtain ⟨a, c, ex, rfl⟩ := h.sl
  have hlt : i < ys.length := (List.getElem?_eq_some_iff.1 hi).1
  have hsrc := h.src
  have hn : ¬ ys.length * 1 = 0 := by omega
  cases a with
  | none =>
    obtain ⟨n, hl⟩ : ∃ n, ys.length = n + 1 := ⟨ys.length - 1, by omega⟩
    rw [hl] at hsrc
    cases c <;> simp [srcN] at hsrc
  | some a =>
    simp only [srcN] at hsrc
    rw [if_neg hn] at hsrc
    by_cases hor : ex = true ∨ c ≠ 0
    · rw [if_pos hor] at hsrc
      obtain ⟨b, o⟩ := a
      refine ⟨⟨b, o + i * 1⟩, elem_ok hlt hor, fun K => ?_⟩
      unfold ldN at hsrc
      cases hc : cellsAt s b with
      | none => simp [hc] at hsrc
      | some cs =>
        simp only [hc] at hsrc
        split at hsrc
        · rename_i hle
          have e : cs[o + i * 1]? = some (byteV y) := by
            have h2 : ((cs.drop o).take (ys.length * 1))[i]? = (ys.map byteV)[i]? := by rw [Option.some.inj hsrc]
            rw [List.getElem?_take_of_lt (by omega), List.getElem?_drop, List.getElem?_map, hi] at h2
            simpa using h2
          simp only [ld1, ldC, hc, e, optK_some]
        · simp at hsrc
    · rw [if_neg hor] at hsrc; simp at hsrc
end Go.Rx
end
section
/- Memory in parts: what holds of a part, and of parts that lie beside each other. -/
namespace Go.Rx
open Go

/-- What holds of a part of memory. -/
structure HP where
  p : AS → (Nat → Prop) → Prop
  loc : ∀ {s s' : AS} {F : Nat → Prop}, p s F → s'.old = s.old → (∀ k, F k → s'.get k = s.get k) → p s' F
  up : ∀ {s : AS} {F F' : Nat → Prop}, p s F → (∀ k, F k → F' k) → p s F'

def sepL : List HP → AS → (Nat → Prop) → Prop
  | [], _, _ => True
  | A :: l, s, F => ∃ F1 F2, (∀ k, F1 k → F k) ∧ (∀ k, F2 k → F k) ∧ (∀ k, F1 k → F2 k → False) ∧ A.p s F1 ∧ sepL l s F2

theorem sepL_up : ∀ {l : List HP} {s : AS} {F F' : Nat → Prop}, sepL l s F → (∀ k, F k → F' k) → sepL l s F'
  | [], _, _, _, _, _ => trivial
  | _ :: _, _, _, _, ⟨F1, F2, h1, h2, hd, ha, hl⟩, h => ⟨F1, F2, fun k hk => h k (h1 k hk), fun k hk => h k (h2 k hk), hd, ha, hl⟩
theorem sepL_loc : ∀ {l : List HP} {s s' : AS} {F : Nat → Prop}, sepL l s F → s'.old = s.old → (∀ k, F k → s'.get k = s.get k) → sepL l s' F
  | [], _, _, _, _, _, _ => trivial
  | A :: l, _, _, _, ⟨F1, F2, h1, h2, hd, ha, hl⟩, ho, hg => ⟨F1, F2, h1, h2, hd, A.loc ha ho fun k hk => hg k (h1 k hk), sepL_loc hl ho fun k hk => hg k (h2 k hk)⟩
theorem sepL_swap {A B : HP} {l : List HP} {s : AS} {F : Nat → Prop} (h : sepL (A :: B :: l) s F) : sepL (B :: A :: l) s F := by
  obtain ⟨F1, F2, h1, h2, hd, ha, F3, F4, h3, h4, hd2, hb, hl⟩ := h
  exact ⟨F3, fun k => F1 k ∨ F4 k, fun k hk => h2 k (h3 k hk), fun k hk => hk.elim (h1 k) (fun x => h2 k (h4 k x)), fun k hk hx => hx.elim (fun x => hd k x (h3 k hk)) (fun x => hd2 k hk x), hb,
    F1, F4, fun k hk => .inl hk, fun k hk => .inr hk, fun k hk hx => hd k hk (h4 k hx), ha, hl⟩

/-- The old blocks hold this, and memory has these parts. -/
structure Hs (G : Nat → Option (List V)) (l : List HP) (s : AS) : Prop where
  old : s.old = G
  sep : sepL l s (fun k => k < s.next)

abbrev pullL : Nat → List HP → List HP
  | 0, l => l
  | _ + 1, [] => []
  | i + 1, a :: l => match pullL i l with | [] => [a] | b :: r => b :: a :: r
abbrev dropL : Nat → List HP → List HP
  | _, [] => []
  | 0, _ :: l => l
  | i + 1, a :: l => a :: dropL i l

variable {G : Nat → Option (List V)}

theorem sepL_pull : ∀ (i : Nat) {l : List HP} {s : AS} {F : Nat → Prop}, sepL l s F → sepL (pullL i l) s F
  | 0, _, _, _, h => h
  | _ + 1, [], _, _, h => h
  | i + 1, a :: l, s, F, ⟨F1, F2, h1, h2, hd, ha, hl⟩ => by
    have ih := sepL_pull i hl
    have whole : sepL (a :: pullL i l) s F := ⟨F1, F2, h1, h2, hd, ha, ih⟩
    show sepL (match pullL i l with | [] => [a] | b :: r => b :: a :: r) s F
    cases hp : pullL i l with
    | nil => rw [hp] at whole; exact whole
    | cons b r => rw [hp] at whole; exact sepL_swap whole
theorem Hs.pull {l : List HP} {s : AS} (h : Hs G l s) (i : Nat) : Hs G (pullL i l) s := ⟨h.old, sepL_pull i h.sep⟩
abbrev ordL : List Nat → List HP → List HP
  | [], l => l
  | i :: is, l => pullL (i + (is.filter (fun j => decide (i < j))).length) (ordL is l)
/-- These to the front, in this order. -/
theorem Hs.ord {l : List HP} {s : AS} (h : Hs G l s) : ∀ is : List Nat, Hs G (ordL is l) s
  | [] => h
  | i :: is => (h.ord is).pull _
theorem sepL_tail {A : HP} {l : List HP} {s : AS} {F : Nat → Prop} (h : sepL (A :: l) s F) : sepL l s F := by
  obtain ⟨F1, F2, h1, h2, hd, ha, hl⟩ := h
  exact sepL_up hl h2
theorem Hs.tail {A : HP} {l : List HP} {s : AS} (h : Hs G (A :: l) s) : Hs G l s := ⟨h.old, sepL_tail h.sep⟩
theorem sepL_drop : ∀ (i : Nat) {l : List HP} {s : AS} {F : Nat → Prop}, sepL l s F → sepL (dropL i l) s F
  | 0, [], _, _, h => h
  | _ + 1, [], _, _, h => h
  | 0, _ :: _, _, _, h => sepL_tail h
  | i + 1, _ :: _, _, _, ⟨F1, F2, h1, h2, hd, ha, hl⟩ => ⟨F1, F2, h1, h2, hd, ha, sepL_drop i hl⟩
theorem Hs.drop {l : List HP} {s : AS} (h : Hs G l s) (i : Nat) : Hs G (dropL i l) s := ⟨h.old, sepL_drop i h.sep⟩
theorem Hs.swap {A B : HP} {l : List HP} {s : AS} (h : Hs G (A :: B :: l) s) : Hs G (B :: A :: l) s := ⟨h.old, sepL_swap h.sep⟩

/-- What is at the head, and where. -/
theorem Hs.head {A : HP} {l : List HP} {s : AS} (h : Hs G (A :: l) s) : ∃ F, A.p s F ∧ ∀ k, F k → k < s.next := by
  obtain ⟨F1, F2, h1, h2, hd, ha, hl⟩ := h.sep
  exact ⟨F1, ha, h1⟩

/-- A step that touches the head's part, and makes new objects. -/
theorem Hs.step {A A' : HP} {l : List HP} {s s' : AS} (h : Hs G (A :: l) s)
    (hs : ∀ F : Nat → Prop, (∀ k, F k → k < s.next) → A.p s F → s'.old = s.old ∧ s.next ≤ s'.next ∧ (∀ k, k < s.next → ¬ F k → s'.get k = s.get k) ∧ A'.p s' (fun k => F k ∨ (s.next ≤ k ∧ k < s'.next))) : Hs G (A' :: l) s' := by
  obtain ⟨F1, F2, h1, h2, hd, ha, hl⟩ := h.sep
  obtain ⟨ho, hn, hg, hp⟩ := hs F1 h1 ha
  exact ⟨ho.trans h.old, _, F2, fun k hk => hk.elim (fun x => by have := h1 k x; omega) (·.2), fun k hk => by have := h2 k hk; omega, fun k hk hx => hk.elim (fun x => hd k x hx) (fun x => by have := h2 k hx; omega), hp,
    sepL_loc hl ho fun k hk => hg k (h2 k hk) fun x => hd k x hk⟩
/-- The head says something else too. -/
theorem Hs.imp {A A' : HP} {l : List HP} {s : AS} (h : Hs G (A :: l) s) (hi : ∀ F, A.p s F → A'.p s F) : Hs G (A' :: l) s := by
  obtain ⟨F1, F2, h1, h2, hd, ha, hl⟩ := h.sep
  exact ⟨h.old, F1, F2, h1, h2, hd, hi _ ha, hl⟩

/-! ### what parts are made of -/
def Ob (k : Nat) (o : AObj) : HP where
  p s F := F k ∧ s.get k = some o
  loc h _ hg := ⟨h.1, (hg _ h.1).trans h.2⟩
  up h hu := ⟨hu _ h.1, h.2⟩
def HP.ex {α : Sort _} (f : α → HP) : HP where
  p s F := ∃ x, (f x).p s F
  loc h ho hg := let ⟨x, hx⟩ := h; ⟨x, (f x).loc hx ho hg⟩
  up h hu := let ⟨x, hx⟩ := h; ⟨x, (f x).up hx hu⟩
def HP.pure (φ : Prop) : HP where
  p _ _ := φ
  loc h _ _ := h
  up h _ := h
def HP.all (l : List HP) : HP where
  p s F := sepL l s F
  loc h ho hg := sepL_loc h ho hg
  up h hu := sepL_up h hu

theorem sepL_append : ∀ {l r : List HP} {s : AS} {F : Nat → Prop}, sepL (l ++ r) s F ↔ ∃ F1 F2, (∀ k, F1 k → F k) ∧ (∀ k, F2 k → F k) ∧ (∀ k, F1 k → F2 k → False) ∧ sepL l s F1 ∧ sepL r s F2
  | [], r, s, F => by
    constructor
    · intro h; exact ⟨fun _ => False, F, fun _ h => h.elim, fun _ h => h, fun _ h _ => h, trivial, h⟩
    · rintro ⟨F1, F2, _, h2, _, _, h⟩; exact sepL_up h h2
  | A :: l, r, s, F => by
    constructor
    · rintro ⟨F1, F2, h1, h2, hd, ha, hl⟩
      obtain ⟨F3, F4, h3, h4, hd2, hl, hr⟩ := sepL_append.1 hl
      exact ⟨fun k => F1 k ∨ F3 k, F4, fun k hk => hk.elim (h1 k) (fun x => h2 k (h3 k x)), fun k hk => h2 k (h4 k hk), fun k hk hx => hk.elim (fun x => hd k x (h4 k hx)) (fun x => hd2 k x hx),
        ⟨F1, F3, fun k hk => .inl hk, fun k hk => .inr hk, fun k hk hx => hd k hk (h3 k hx), ha, hl⟩, hr⟩
    · rintro ⟨F1, F2, h1, h2, hd, ⟨F3, F4, h3, h4, hd2, ha, hl⟩, hr⟩
      exact ⟨F3, fun k => F4 k ∨ F2 k, fun k hk => h1 k (h3 k hk), fun k hk => hk.elim (fun x => h1 k (h4 k x)) (h2 k), fun k hk hx => hx.elim (hd2 k hk) (hd k (h3 k hk)), ha,
        sepL_append.2 ⟨F4, F2, fun k hk => .inl hk, fun k hk => .inr hk, fun k hk hx => hd k (h4 k hk) hx, hl, hr⟩⟩

theorem Hs.all_iff {l r : List HP} {s : AS} : Hs G (HP.all l :: r) s ↔ Hs G (l ++ r) s :=
  ⟨fun h => ⟨h.old, sepL_append.2 h.sep⟩, fun h => ⟨h.old, sepL_append.1 h.sep⟩⟩
theorem Hs.ex_iff {α : Sort _} {f : α → HP} {r : List HP} {s : AS} : Hs G (HP.ex f :: r) s ↔ ∃ x, Hs G (f x :: r) s := by
  constructor
  · rintro ⟨ho, F1, F2, h1, h2, hd, ⟨x, ha⟩, hl⟩; exact ⟨x, ho, F1, F2, h1, h2, hd, ha, hl⟩
  · rintro ⟨x, ho, F1, F2, h1, h2, hd, ha, hl⟩; exact ⟨ho, F1, F2, h1, h2, hd, ⟨x, ha⟩, hl⟩
theorem Hs.pure_iff {φ : Prop} {r : List HP} {s : AS} : Hs G (HP.pure φ :: r) s ↔ φ ∧ Hs G r s := by
  constructor
  · intro h; obtain ⟨F, hF, _⟩ := h.head; exact ⟨hF, h.tail⟩
  · rintro ⟨hφ, h⟩; exact ⟨h.old, fun _ => False, fun k => k < s.next, fun _ h => h.elim, fun _ h => h, fun _ h _ => h, hφ, h.sep⟩
/-- A part that needs no memory. -/
theorem Hs.add {A : HP} {r : List HP} {s : AS} (h : Hs G r s) (ha : A.p s (fun _ => False)) : Hs G (A :: r) s :=
  ⟨h.old, fun _ => False, fun k => k < s.next, fun _ h => h.elim, fun _ h => h, fun _ h _ => h, ha, h.sep⟩
/-! ### steps -/
theorem Hs.get {k : Nat} {o : AObj} {r : List HP} {s : AS} (h : Hs G (Ob k o :: r) s) : s.get k = some o := by
  obtain ⟨F, hF, _⟩ := h.head; exact hF.2
theorem Hs.lt {k : Nat} {o : AObj} {r : List HP} {s : AS} (h : Hs G (Ob k o :: r) s) : k < s.next := by
  obtain ⟨F, hF, hl⟩ := h.head; exact hl _ hF.1
theorem Hs.put {k : Nat} {o : AObj} {r : List HP} {s : AS} (h : Hs G (Ob k o :: r) s) (o' : AObj) : Hs G (Ob k o' :: r) (s.put k (some o')) :=
  h.step fun F hF hp => ⟨rfl, Nat.le_refl _, fun j hj hn => by rw [AS.get_put_ne]; intro e; subst e; exact hn hp.1, .inl hp.1, AS.get_put_same _ _ _⟩
theorem Hs.alloc {r : List HP} {s : AS} (h : Hs G r s) (o : AObj) : Hs G (Ob s.next o :: r) (s.alloc o) :=
  ⟨h.old, fun k => k = s.next, fun k => k < s.next, fun k e => by subst e; simp, fun k hk => by simp; omega, fun k e hk => by omega, ⟨rfl, AS.get_alloc_same _ _⟩,
    sepL_loc h.sep rfl fun k hk => AS.get_alloc_ne _ _ (by omega)⟩

theorem ld_t {k o u : Nat} {cs : List V} {r : List HP} {s : AS} (h : Hs G (Ob k (.cells cs u) :: r) s) (K : K0) : ld1 (.ptr (some ⟨.new k, o⟩)) s K = optK cs[o]? s K := ld1_new h.get K
theorem st_t {k o u : Nat} {cs : List V} {r : List HP} {s : AS} (h : Hs G (Ob k (.cells cs u) :: r) s) {v : V} {K : K0} (ho : o < cs.length) (hv : flatV v = true)
    (hK : ∀ s', Hs G (Ob k (.cells (cs.set o v) u) :: r) s' → K undefV s') : st 1 (.ptr (some ⟨.new k, o⟩)) v s K := by
  rw [st1_new h.get ho hv]; exact hK _ (h.put _)
theorem stN_t {k o u n : Nat} {cs ys : List V} {r : List HP} {s : AS} (h : Hs G (Ob k (.cells cs u) :: r) s) {K : K0} (ho : o + ys.length ≤ cs.length) (hv : ys.all flatV = true) (hn : ys.length = n)
    (hK : ∀ s', Hs G (Ob k (.cells (spl cs o ys) u) :: r) s' → K undefV s') : st n (.ptr (some ⟨.new k, o⟩)) (.agg ys) s K := by
  have e : st n (.ptr (some ⟨.new k, o⟩)) (.agg ys) s K = (match setN s ⟨.new k, o⟩ ys with | some s' => K undefV s' | none => False) := if_pos hn
  rw [e]
  simp only [setN, h.get]
  rw [if_pos ⟨ho, hv⟩]
  exact hK _ (h.put _)
theorem newC_t {r : List HP} {s : AS} (h : Hs G r s) {cs : List V} {K : K0} (hK : ∀ k s', Hs G (Ob k (.cells cs 0) :: r) s' → K (.ptr (some ⟨.new k, 0⟩)) s') : newC cs s K := hK _ _ (h.alloc _)
theorem box1_t {v : V} (hv : flatV v = true) {r : List HP} {s : AS} (h : Hs G r s) {K : K0} (hK : ∀ k s', Hs G (Ob k (.cells [v] 0) :: r) s' → K (.ptr (some ⟨.new k, 0⟩)) s') : boxV v s K := by
  have e : boxV v s K = newC [v] s K := by cases v <;> first | rfl | (simp [flatV] at hv)
  rw [e]; exact newC_t h hK
theorem boxA_t {cs : List V} {r : List HP} {s : AS} (h : Hs G r s) {K : K0} (hK : ∀ k s', Hs G (Ob k (.cells cs 0) :: r) s' → K (.ptr (some ⟨.new k, 0⟩)) s') : boxV (.agg cs) s K := newC_t (cs := cs) h hK
theorem newS_t {r : List HP} {s : AS} (h : Hs G r s) {cs : List V} {n : Nat} {K : K0} (hK : ∀ k s', Hs G (Ob k (.cells cs 0) :: r) s' → K (.slice (some ⟨.new k, 0⟩) n n true) s') : newS cs n s K := hK _ _ (h.alloc _)
theorem ldA_t {k o u n : Nat} {cs : List V} {r : List HP} {s : AS} (h : Hs G (Ob k (.cells cs u) :: r) s) (hn : o + n ≤ cs.length) (K : K0) : ldA n (.ptr (some ⟨.new k, o⟩)) s K = K (.agg ((cs.drop o).take n)) s := ldA_new h.get hn K
theorem holds_t {ti : TI} (hti : isAggK ti.kind = false) {k o u : Nat} {cs : List V} {r : List HP} {s : AS} (h : Hs G (Ob k (.cells cs u) :: r) s) {v : V} (hv : cs[o]? = some v) (hs : sameV v v = true) : Rx.holds ti (.ptr (some ⟨.new k, o⟩)) s v = true := holds_new hti h.get hv hs

/-! ### slices -/
/-- Bytes that can be read, and cut. -/
structure RdC (s : AS) (v : V) (ys : List UInt8) : Prop extends Rd s v ys where
  cap : ∀ a n c ex, v = .slice a n c ex → n ≤ c

theorem rd_cut {s : AS} {v : V} {ys : List UInt8} (h : RdC s v ys) {lo hi : Option V} {l n : Nat} (hn : n ≤ ys.length) (hl : l ≤ n) (hlo : (lo = none ∧ l = 0) ∨ ∃ q, lo = some (.int q (l : Nat))) (hhi : (hi = none ∧ n = ys.length) ∨ ∃ q, hi = some (.int q (n : Nat))) :
    ∃ v', sliceSl 1 v lo hi none = some v' ∧ RdC s v' ((ys.take n).drop l) ∧ ∀ k o m c ex, v' = .slice (some ⟨.new k, o⟩) m c ex → ∃ o' m' c' ex', v = .slice (some ⟨.new k, o'⟩) m' c' ex' := by
  obtain ⟨a, c, ex, rfl⟩ := h.sl
  have hc := h.cap _ _ _ _ rfl
  have hb : bounds3 c ys.length lo hi none = some (l, n, c) := by
    have e1 : boundV hi c ys.length = some n := by
      rcases hhi with ⟨rfl, rfl⟩ | ⟨q, rfl⟩
      · rfl
      · simp only [boundV]; rw [if_pos (by omega)]; simp
    have e2 : boundV lo n 0 = some l := by
      rcases hlo with ⟨rfl, rfl⟩ | ⟨q, rfl⟩
      · rfl
      · simp only [boundV]; rw [if_pos (by omega)]; simp
    have e3 : boundV none c c = some c := rfl
    simp only [bounds3, Option.isSome_none, Bool.false_and, e3, Option.bind_some, e1, e2]
  have hlen : ((ys.take n).drop l).length = n - l := by simp; omega
  cases a with
  | none =>
    have hsrc := h.src
    have h0 : ys = [] ∧ c = 0 := by
      cases hy : ys.length with
      | zero =>
        rw [hy] at hsrc
        refine ⟨List.eq_nil_of_length_eq_zero hy, ?_⟩
        cases c with
        | zero => rfl
        | succ c => simp [srcN] at hsrc
      | succ m => rw [hy] at hsrc; cases c <;> simp [srcN] at hsrc
    obtain ⟨rfl, rfl⟩ := h0
    have hn0 : n = 0 := by simpa using hn
    subst hn0
    have hl0 : l = 0 := by omega
    subst hl0
    refine ⟨.slice none 0 0 ex, ?_, ⟨⟨rfl, rfl, _, _, _, rfl⟩, fun _ _ _ _ e => by cases e; exact Nat.le_refl _⟩, fun k o m c ex e => by cases e⟩
    simp only [List.length_nil] at hb
    simp only [sliceSl, List.length_nil, hb]
  | some a =>
    obtain ⟨b, o⟩ := a
    by_cases hcase : ex = true ∨ c ≠ 0
    · have key : ∀ ex', RdC s (.slice (some (if c = l then ⟨b, o⟩ else add ⟨b, o⟩ (l * 1))) (n - l) (c - l) ex') ((ys.take n).drop l) := fun ex' => by
        refine ⟨⟨by rw [hlen]; rfl, ?_, _, _, _, by rw [hlen]⟩, fun _ _ _ _ e => by cases e; omega⟩
        rw [hlen]
        by_cases h0 : n - l = 0
        · have e0 : (ys.take n).drop l = [] := List.eq_nil_of_length_eq_zero (by rw [hlen, h0])
          rw [e0, h0]; simp [srcN]
        · have hsrc := h.src
          have hne : ¬ ys.length * 1 = 0 := by omega
          simp only [srcN] at hsrc
          rw [if_neg hne, if_pos hcase] at hsrc
          have hcl : ¬ c = l := by omega
          simp only [srcN]
          rw [if_neg (by omega), if_pos (.inr (by omega)), if_neg hcl]
          unfold ldN at hsrc ⊢
          simp only [add]
          cases hcs : cellsAt s b with
          | none => simp [hcs] at hsrc
          | some cs =>
            simp only [hcs] at hsrc ⊢
            split at hsrc
            · rename_i hle
              have e := Option.some.inj hsrc
              refine (if_pos (by omega)).trans ?_
              have : ((ys.take n).drop l).map byteV = ((ys.map byteV).take n).drop l := by rw [List.map_drop, List.map_take]
              rw [this, ← e, List.take_take, List.drop_take, List.drop_drop]
              congr 2
              all_goals (try congr 1)
              all_goals omega
            · simp at hsrc
      by_cases hex : ex = true
      · refine ⟨_, ?_, key true, fun k o' m c' ex' e => ?_⟩
        · simp only [sliceSl, hb]; rw [if_pos hex]
        · by_cases hcl : c = l
          · rw [if_pos hcl] at e; cases e; exact ⟨_, _, _, _, rfl⟩
          · rw [if_neg hcl] at e; cases e; exact ⟨_, _, _, _, rfl⟩
      · have hc0 : c ≠ 0 := hcase.resolve_left hex
        refine ⟨_, ?_, key false, fun k o' m c' ex' e => ?_⟩
        · simp only [sliceSl, hb]; rw [if_neg hex, if_neg (by omega), if_pos hc]
        · by_cases hcl : c = l
          · rw [if_pos hcl] at e; cases e; exact ⟨_, _, _, _, rfl⟩
          · rw [if_neg hcl] at e; cases e; exact ⟨_, _, _, _, rfl⟩
    · have hex : ¬ ex = true := fun e => hcase (.inl e)
      have hc0 : c = 0 := by
        by_cases e : c = 0
        · exact e
        · exact absurd (.inr e) hcase
      subst hc0
      have h0 : ys = [] := List.eq_nil_of_length_eq_zero (by omega)
      subst h0
      have hn0 : n = 0 := by simpa using hn
      subst hn0
      have hl0 : l = 0 := by omega
      subst hl0
      refine ⟨.slice (some ⟨b, o⟩) 0 0 false, ?_, ⟨⟨rfl, by simp [srcN], _, _, _, rfl⟩, fun _ _ _ _ e => by cases e; exact Nat.le_refl _⟩, fun k o m c ex e => by cases e; exact ⟨_, _, _, _, rfl⟩⟩
      simp only [List.length_nil] at hb
      simp [sliceSl, hb, hex]

/-- A slice that has its object for itself. -/
def SlH (sz : Nat) (v : V) (n : Nat) (xs : List V) : HP where
  p s F := ∃ b, OwnR sz s v n xs b ∧ ∀ j, b = some j → F j
  loc h _ hg := let ⟨b, ho, hb⟩ := h; ⟨b, ho.kept fun k e => hg k (hb k e), hb⟩
  up h hu := let ⟨b, ho, hb⟩ := h; ⟨b, ho, fun j e => hu j (hb j e)⟩
abbrev BytesH (v : V) (ys : List UInt8) : HP := SlH 1 v ys.length (ys.map byteV)
/-- Bytes that can be read, of an object of their own. -/
def RdH (v : V) (ys : List UInt8) : HP where
  p s F := RdC s v ys ∧ ∀ k o l c ex, v = .slice (some ⟨.new k, o⟩) l c ex → F k
  loc h ho hg := ⟨⟨h.1.1.kept (fun k o l c ex e => hg k (h.2 k o l c ex e)) ho, h.1.2⟩, h.2⟩
  up h hu := ⟨h.1, fun k o l c ex e => hu k (h.2 k o l c ex e)⟩

theorem slH_lt {sz n : Nat} {v : V} {xs : List V} {r : List HP} {s : AS} (h : Hs G (SlH sz v n xs :: r) s) : ∃ b, OwnR sz s v n xs b ∧ ∀ j, b = some j → j < s.next := by
  obtain ⟨F, ⟨b, ho, hb⟩, hl⟩ := h.head
  exact ⟨b, ho, fun j e => hl j (hb j e)⟩
theorem own_rdC {s : AS} {v : V} {ys : List UInt8} {b : Option Nat} (h : OwnR 1 s v ys.length (ys.map byteV) b) : RdC s v ys := by
  refine ⟨h.rd, fun a n c ex e => ?_⟩
  have := h.at'
  cases b with
  | none => obtain ⟨_, ex', e2⟩ := this; rw [e2] at e; cases e; exact Nat.le_refl _
  | some k' => obtain ⟨c', ex', cs, u, e2, _, _, h3, _⟩ := this; rw [e2] at e; cases e; exact h3
theorem bytes_rdH {v : V} {ys : List UInt8} {s : AS} {F : Nat → Prop} (h : (BytesH v ys).p s F) : (RdH v ys).p s F := by
  obtain ⟨b, ho, hb⟩ := h
  refine ⟨own_rdC ho, fun k o l c ex e => ?_⟩
  have := ho.at'
  cases b with
  | none => obtain ⟨_, ex', e2⟩ := this; rw [e2] at e; cases e
  | some k' =>
    obtain ⟨c', ex', cs, u, e2, _⟩ := this
    rw [e2] at e; cases e
    exact hb _ rfl
theorem Hs.toRd {v : V} {ys : List UInt8} {r : List HP} {s : AS} (h : Hs G (BytesH v ys :: r) s) : Hs G (RdH v ys :: r) s := h.imp fun _ => bytes_rdH
theorem Hs.rd {v : V} {ys : List UInt8} {r : List HP} {s : AS} (h : Hs G (RdH v ys :: r) s) : RdC s v ys := by
  obtain ⟨F, hF, _⟩ := h.head; exact hF.1
theorem Hs.rdlt {v : V} {ys : List UInt8} {r : List HP} {s : AS} (h : Hs G (RdH v ys :: r) s) : ∀ k o l c ex, v = .slice (some ⟨.new k, o⟩) l c ex → k < s.next := by
  obtain ⟨F, hF, hl⟩ := h.head; exact fun k o l c ex e => hl _ (hF.2 k o l c ex e)

/-- What these parts let one read. -/
def Reads (G : Nat → Option (List V)) (l : List HP) (v : V) (ys : List UInt8) : Prop := ∀ s, Hs G l s → RdC s v ys ∧ ∀ k o n c ex, v = .slice (some ⟨.new k, o⟩) n c ex → k < s.next
theorem reads_rd {v : V} {ys : List UInt8} {r : List HP} : Reads G (RdH v ys :: r) v ys := fun _ h => ⟨h.rd, h.rdlt⟩
theorem reads_bytes {v : V} {ys : List UInt8} {r : List HP} : Reads G (BytesH v ys :: r) v ys := fun _ h => ⟨h.toRd.rd, h.toRd.rdlt⟩
theorem Reads.cons {v : V} {ys : List UInt8} {r : List HP} (h : Reads G r v ys) {A : HP} : Reads G (A :: r) v ys := fun s hs => h s hs.tail
theorem Reads.nil {ex : Bool} {r : List HP} : Reads G r (.slice none 0 0 ex) [] := fun s _ => ⟨⟨⟨rfl, rfl, _, _, _, rfl⟩, fun _ _ _ _ e => by cases e; exact Nat.le_refl _⟩, fun _ _ _ _ _ e => by cases e⟩
theorem Reads.cut {v : V} {ys : List UInt8} {r : List HP} (h : Reads G r v ys) {s : AS} (hs : Hs G r s) {lo hi : Option V} {l n : Nat} (hn : n ≤ ys.length) (hl : l ≤ n) (hlo : (lo = none ∧ l = 0) ∨ ∃ q, lo = some (.int q (l : Nat))) (hhi : (hi = none ∧ n = ys.length) ∨ ∃ q, hi = some (.int q (n : Nat))) :
    ∃ v', sliceSl 1 v lo hi none = some v' ∧ Reads G r v' ((ys.take n).drop l) := by
  obtain ⟨v', h1, _⟩ := rd_cut (h s hs).1 hn hl hlo hhi
  refine ⟨v', h1, fun s' hs' => ?_⟩
  obtain ⟨v2, h2, h3, h4⟩ := rd_cut (h s' hs').1 hn hl hlo hhi
  rw [h1] at h2; cases h2
  exact ⟨h3, fun k o m c ex e => by obtain ⟨o', m', c', ex', e2⟩ := h4 k o m c ex e; exact (h s' hs').2 _ _ _ _ _ e2⟩

theorem Hs.slNil {r : List HP} {s : AS} (h : Hs G r s) (sz : Nat) (ex : Bool) : Hs G (SlH sz (.slice none 0 0 ex) 0 [] :: r) s := h.add ⟨none, own_nil _ _ _, fun _ e => by cases e⟩
theorem slH_slice {sz n : Nat} {v : V} {xs : List V} {r : List HP} {s : AS} (h : Hs G (SlH sz v n xs :: r) s) : ∃ a c ex, v = .slice a n c ex := by
  obtain ⟨b, ho, _⟩ := slH_lt h; exact ho.slice

theorem app_t {sz bytes : Nat} (hsz : sz ≠ 0) {v : V} {m : Nat} {xs : List V} {r : List HP} {s : AS} (h : Hs G (SlH sz v m xs :: r) s) {x : V} {n : Nat} {ys : List V} (hn : srcLen x = some n) (hy : srcN sz n x s = some ys)
    (hyl : ys.length = n * sz) (hf : ys.all flatV = true) (hroom : (m + n) * bytes ≤ 140737488355328) (hb : bytes ≠ 0) {K : K0} (hK : ∀ v' s', Hs G (SlH sz v' (m + n) (xs ++ ys) :: r) s' → K v' s') : app sz bytes v x s K := by
  have key : ∃ v' s', (∀ K, app sz bytes v x s K = K v' s') ∧ Hs G (SlH sz v' (m + n) (xs ++ ys) :: r) s' := by
    obtain ⟨F1, F2, h1, h2, hd, ⟨b, ho, hbF⟩, hl⟩ := h.sep
    obtain ⟨v', s', b', hr, ho', hk, hb'⟩ := app_own hsz ho hn hy hyl hf hroom hb
    refine ⟨v', s', hr, hk.old.trans h.old, fun j => F1 j ∨ (s.next ≤ j ∧ j < s'.next), F2, fun k hk' => hk'.elim (fun x => by have := h1 k x; have := hk.next; show k < s'.next; omega) (·.2), fun k hk' => by have := h2 k hk'; have := hk.next; show k < s'.next; omega,
      fun k hk' hx => hk'.elim (fun x => hd k x hx) (fun x => by have := h2 k hx; omega), ⟨b', ho', fun j e => ?_⟩, sepL_loc hl hk.old fun k hk' => hk.get k (h2 k hk') fun hm => hd k (hbF k (by simpa using hm)) hk'⟩
    rcases hb' with e1 | ⟨k', e1, h3, h4⟩
    · exact .inl (hbF j (e1.symm.trans e))
    · rw [e1] at e; cases e; exact .inr ⟨h3, h4⟩
  obtain ⟨v', s', hr, hs'⟩ := key
  rw [hr]; exact hK _ _ hs'

/-- One more element. -/
theorem push_t {bytes : Nat} {v : V} {m : Nat} {xs : List V} {r : List HP} {s : AS} {k : Nat} {x w : V} (h : Hs G (SlH 1 v m xs :: Ob k (.cells [w] 0) :: r) s) (hx : ∀ r' s'', Hs G (Ob k (.cells [w] 0) :: r') s'' → srcN 1 1 x s'' = some [w]) (hn : srcLen x = some 1)
    (hf : flatV w = true) (hroom : (m + 1) * bytes ≤ 140737488355328) (hb : bytes ≠ 0) {K : K0} (hK : ∀ v' s', Hs G (SlH 1 v' (m + 1) (xs ++ [w]) :: r) s' → K v' s') : app 1 bytes v x s K := by
  refine app_t (by omega) h hn (hx _ _ h.swap) rfl (by simp [hf]) hroom hb fun v' s' h' => hK v' s' (h'.drop 1)

theorem ob_slH {sz n k c u : Nat} {ex : Bool} {cs xs : List V} {r : List HP} {s : AS} (h : Hs G (Ob k (.cells cs u) :: r) s) (hx : cs.take (n * sz) = xs) (hl : xs.length = n * sz) (hf : xs.all flatV = true) (hn : n ≤ c) (hc : c * sz ≤ cs.length) (he : ex = true ∨ (c ≠ 0 ∧ u = sz)) :
    Hs G (SlH sz (.slice (some ⟨.new k, 0⟩) n c ex) n xs :: r) s := by
  refine h.imp fun F hF => ⟨some k, ⟨hl, hf, c, ex, cs, u, rfl, hF.2, hx, hn, hc, he⟩, fun j e => ?_⟩
  cases e; exact hF.1
/-- A new array of one element, to be put behind something. -/
theorem bsl1_t {v z : V} (hv : flatV v = true) (hz : flatV z = true) {r : List HP} {s : AS} (h : Hs G r s) {K : K0}
    (hK : ∀ x s', (∀ r' s'', Hs G (Ob s.next (.cells [v] 0) :: r') s'' → srcN 1 1 x s'' = some [v]) → srcLen x = some 1 → Hs G (Ob s.next (.cells [v] 0) :: r) s' → K x s') : bsl 1 [z] 1 [(0, v)] s K := by
  rw [bsl1_ok v hv s z hz]
  exact hK _ _ (fun r' s'' h' => by have := h'.get; simp [srcN, ldN, cellsAt, this]) rfl (h.alloc _)
/-- A slice, seen as its object. -/
theorem slH_ob {sz n : Nat} {v : V} {xs : List V} {r : List HP} {s : AS} (h : Hs G (SlH sz v n xs :: r) s) :
    (n = 0 ∧ ∃ ex, v = .slice none 0 0 ex) ∨ ∃ k c ex cs u, v = .slice (some ⟨.new k, 0⟩) n c ex ∧ cs.take (n * sz) = xs ∧ n ≤ c ∧ c * sz ≤ cs.length ∧ (ex = true ∨ (c ≠ 0 ∧ u = sz)) ∧ Hs G (Ob k (.cells cs u) :: r) s := by
  obtain ⟨F1, F2, h1, h2, hd, ⟨b, ho, hb⟩, hl⟩ := h.sep
  have := ho.at'
  cases b with
  | none => exact .inl this
  | some k =>
    obtain ⟨c, ex, cs, u, e, hg, ht, hn, hc, he⟩ := this
    exact .inr ⟨k, c, ex, cs, u, e, ht, hn, hc, he, h.old, F1, F2, h1, h2, hd, ⟨hb k rfl, hg⟩, hl⟩
theorem slH_facts {sz n : Nat} {v : V} {xs : List V} {r : List HP} {s : AS} (h : Hs G (SlH sz v n xs :: r) s) : xs.length = n * sz ∧ xs.all flatV = true := by
  obtain ⟨b, ho, _⟩ := slH_lt h; exact ⟨ho.len, ho.flat⟩

/-- Bytes that can be read are cut at their front. -/
theorem rdH_cut {v : V} {ys : List UInt8} {r : List HP} {s : AS} (h : Hs G (RdH v ys :: r) s) {lo hi : Option V} {l n : Nat} (hn : n ≤ ys.length) (hl : l ≤ n) (hlo : (lo = none ∧ l = 0) ∨ ∃ q, lo = some (.int q (l : Nat))) (hhi : (hi = none ∧ n = ys.length) ∨ ∃ q, hi = some (.int q (n : Nat))) :
    ∃ v', sliceSl 1 v lo hi none = some v' ∧ Hs G (RdH v' ((ys.take n).drop l) :: r) s := by
  obtain ⟨F1, F2, h1, h2, hd, ⟨hr, hF⟩, hl'⟩ := h.sep
  obtain ⟨v', e, hr', hsame⟩ := rd_cut hr hn hl hlo hhi
  refine ⟨v', e, h.old, F1, F2, h1, h2, hd, ⟨hr', fun k o m c ex e2 => ?_⟩, hl'⟩
  obtain ⟨o', m', c', ex', e3⟩ := hsame k o m c ex e2
  exact hF _ _ _ _ _ e3
theorem rd_slice {v : V} {ys : List UInt8} {r : List HP} (hr : Reads G r v ys) {s : AS} (h : Hs G r s) : ∃ a c ex, v = .slice a ys.length c ex := (hr s h).1.sl
/-- All of a slice, and no more room. -/
theorem cut3_t {v : V} {ys : List UInt8} {r : List HP} {s : AS} (h : Hs G (BytesH v ys :: r) s) : ∃ v', sliceSl 1 v none (some (.int .i64 ys.length)) (some (.int .i64 ys.length)) = some v' ∧ Hs G (BytesH v' ys :: r) s := by
  have hf := slH_facts h
  rcases slH_ob h with ⟨h0, ex, rfl⟩ | ⟨k, c, ex, cs, u, rfl, ht, hn, hc, he, h'⟩
  · have : ys = [] := List.eq_nil_of_length_eq_zero h0
    subst this
    exact ⟨_, by simp [sliceSl, bounds3, boundV], h⟩
  · have hb3 : bounds3 c ys.length none (some (.int .i64 ys.length)) (some (.int .i64 ys.length)) = some (0, ys.length, ys.length) := by
      have : (0 : Int) ≤ ys.length ∧ (ys.length : Int) ≤ c := by omega
      simp only [bounds3, Option.isSome_some, Option.isNone_some, Bool.and_false, boundV]
      rw [if_pos this]
      simp
    have key : Hs G (BytesH (.slice (some ⟨.new k, 0⟩) ys.length ys.length true) ys :: r) s := ob_slH h' ht hf.1 hf.2 (Nat.le_refl _) (by omega) (.inl rfl)
    have ea : (if ys.length = 0 then (⟨.new k, 0⟩ : Ad) else add ⟨.new k, 0⟩ (0 * 1)) = ⟨.new k, 0⟩ := by simp [add]
    refine ⟨_, ?_, key⟩
    simp only [sliceSl, hb3]
    by_cases hex : ex = true
    · rw [if_pos hex, ea, Nat.sub_zero]
    · have hc0 : c ≠ 0 := (he.resolve_left hex).1
      rw [if_neg hex, if_neg (by omega), ea, Nat.sub_zero]
theorem peekA_t {ti : TI} (hti : isAggK ti.kind = true) {k u : Nat} {cs : List V} {r : List HP} {s : AS} (h : Hs G (Ob k (.cells cs u) :: r) s) (hn : cs.length = ti.size) : peek ti (.ptr (some ⟨.new k, 0⟩)) s = some (.agg cs) := by
  simp only [peek, hti, ldN, cellsAt, h.get]
  rw [if_pos (by simp only [Nat.zero_add]; omega)]
  simp only [List.drop_zero]
  rw [List.take_of_length_le (by omega)]
@[simp] theorem rfin1 (v : V) (s : AS) (K : K0) : rfin (rcons (some v) (some [])) s K = K v s := rfl
/-- What an array holds is replaced. -/
theorem stAll_t {k u n : Nat} {cs ys : List V} {r : List HP} {s : AS} (h : Hs G (Ob k (.cells cs u) :: r) s) {K : K0} (hl : cs.length = n) (hn : ys.length = n) (hv : ys.all flatV = true) (hK : ∀ s', Hs G (Ob k (.cells ys u) :: r) s' → K undefV s') : st n (.ptr (some ⟨.new k, 0⟩)) (.agg ys) s K := by
  refine stN_t h (by omega) hv hn fun s' h' => hK s' ?_
  have : spl cs 0 ys = ys := by
    unfold spl
    rw [List.take_zero, List.nil_append, List.drop_of_length_le (by omega), List.append_nil]
  rw [this] at h'; exact h'
theorem ldAll_t {k u n : Nat} {cs : List V} {r : List HP} {s : AS} (h : Hs G (Ob k (.cells cs u) :: r) s) (hl : cs.length = n) (K : K0) : ldA n (.ptr (some ⟨.new k, 0⟩)) s K = K (.agg cs) s := by
  rw [ldA_t h (by omega), List.drop_zero, List.take_of_length_le (by omega)]
end Go.Rx
end
section
/- Lists of bytes in memory; elements of slices. -/
namespace Go.Rx
open Go
variable {G : Nat → Option (List V)}

theorem sepL_mem {A : HP} : ∀ {l : List HP} {s : AS} {F : Nat → Prop}, A ∈ l → sepL l s F → ∃ F1, (∀ k, F1 k → F k) ∧ A.p s F1
  | [], _, _, h, _ => by simp at h
  | B :: l, s, F, h, ⟨F1, F2, h1, h2, hd, hb, hl⟩ => by
    rcases List.mem_cons.1 h with rfl | hm
    · exact ⟨F1, h1, hb⟩
    · obtain ⟨F3, h3, ha⟩ := sepL_mem hm hl
      exact ⟨F3, fun k hk => h2 k (h3 k hk), ha⟩
theorem reads_of {A : HP} {l : List HP} {v : V} {ys : List UInt8} (hm : A ∈ l) (ha : ∀ s F, A.p s F → (RdH v ys).p s F) : Reads G l v ys := by
  intro s h
  obtain ⟨F1, h1, hp⟩ := sepL_mem hm h.sep
  have := ha _ _ hp
  exact ⟨this.1, fun k o n c ex e => h1 _ (this.2 _ _ _ _ _ e)⟩
theorem reads_all {l r : List HP} {v : V} {ys : List UInt8} (hm : BytesH v ys ∈ l) : Reads G (HP.all l :: r) v ys :=
  reads_of (List.mem_cons_self ..) fun s F h => by
    obtain ⟨F1, h1, hp⟩ := sepL_mem hm h
    exact (RdH v ys).up (bytes_rdH hp) h1

theorem elem1_t {v : V} {n : Nat} {xs : List V} {r : List HP} {s : AS} (h : Hs G (SlH 1 v n xs :: r) s) {i : Nat} {x : V} (hx : xs[i]? = some x) (q : IntKind) :
    ∃ p, elemPtr none 1 v (.int q (i : Nat)) = some (.ptr (some p)) ∧ ∀ K, ld1 (.ptr (some p)) s K = K x s := by
  have hf := slH_facts h
  have hi : i < xs.length := (List.getElem?_eq_some_iff.1 hx).1
  rcases slH_ob h with ⟨h0, ex, rfl⟩ | ⟨k, c, ex, cs, u, rfl, ht, hn, hc, he, h'⟩
  · omega
  · refine ⟨⟨.new k, 0 + i * 1⟩, elem_ok (by omega) (he.imp id (·.1)), fun K => ?_⟩
    rw [ld_t h']
    have : cs[0 + i * 1]? = some x := by
      rw [← ht, List.getElem?_take_of_lt (by omega)] at hx
      rw [← hx]; congr 1; omega
    rw [this, optK_some]

theorem elemSet_t {v : V} {n : Nat} {xs : List V} {r : List HP} {s : AS} (h : Hs G (SlH 1 v n xs :: r) s) {i : Nat} (hi : i < n) (q : IntKind) :
    ∃ p, elemPtr none 1 v (.int q (i : Nat)) = some (.ptr (some p)) ∧ ∀ (x : V) (K : K0), flatV x = true → (∀ s', Hs G (SlH 1 v n (xs.set i x) :: r) s' → K undefV s') → st 1 (.ptr (some p)) x s K := by
  have hf := slH_facts h
  rcases slH_ob h with ⟨h0, ex, rfl⟩ | ⟨k, c, ex, cs, u, rfl, ht, hn, hc, he, h'⟩
  · omega
  · refine ⟨⟨.new k, 0 + i * 1⟩, elem_ok hi (he.imp id (·.1)), fun x K hx hK => ?_⟩
    refine st_t h' (by omega) hx fun s' h2 => hK s' ?_
    have e : 0 + i * 1 = i := by omega
    rw [e] at h2
    refine ob_slH h2 (by rw [List.take_set, ht]) (by simp [hf.1]) ?_ hn (by simpa using hc) he
    rw [List.all_eq_true]
    intro y hy
    rcases List.mem_or_eq_of_mem_set hy with h | h
    · exact List.all_eq_true.1 hf.2 _ h
    · rw [h]; exact hx

theorem slH_src {v : V} {n : Nat} {xs : List V} {r : List HP} {s : AS} (h : Hs G (SlH 1 v n xs :: r) s) : srcLen v = some n ∧ srcN 1 n v s = some xs := by
  have hf := slH_facts h
  rcases slH_ob h with ⟨rfl, ex, rfl⟩ | ⟨k, c, ex, cs, u, rfl, ht, hn, hc, he, h'⟩
  · have : xs = [] := List.eq_nil_of_length_eq_zero (by simpa using hf.1)
    subst this; exact ⟨rfl, rfl⟩
  · refine ⟨rfl, ?_⟩
    simp only [srcN]
    by_cases h0 : n * 1 = 0
    · have : xs = [] := List.eq_nil_of_length_eq_zero (by rw [hf.1, h0])
      subst this; rw [if_pos h0]
    · rw [if_neg h0, if_pos (he.imp id (·.1))]
      simp only [ldN, cellsAt, h'.get]
      rw [if_pos (by simp only [Nat.zero_add]; omega), List.drop_zero, ht]

def RowsH (v : V) (rows : List (List UInt8)) : HP := HP.ex fun xs : List V => HP.all [HP.pure (xs.length = rows.length), SlH 1 v rows.length xs, HP.all (List.zipWith BytesH xs rows)]
theorem RowsH.iff {v : V} {rows : List (List UInt8)} {r : List HP} {s : AS} : Hs G (RowsH v rows :: r) s ↔ ∃ xs : List V, xs.length = rows.length ∧ Hs G (SlH 1 v rows.length xs :: HP.all (List.zipWith BytesH xs rows) :: r) s := by
  unfold RowsH
  simp only [Hs.ex_iff, Hs.all_iff, List.cons_append, List.nil_append, Hs.pure_iff]
theorem all_snoc {l r : List HP} {A : HP} {s : AS} : Hs G (HP.all (l ++ [A]) :: r) s ↔ Hs G (HP.all l :: A :: r) s := by
  rw [Hs.all_iff, Hs.all_iff, List.append_assoc]; rfl
theorem all_nil {r : List HP} {s : AS} (h : Hs G r s) : Hs G (HP.all [] :: r) s := Hs.all_iff.2 h
theorem zip_snoc {xs : List V} {rows : List (List UInt8)} (h : xs.length = rows.length) (x : V) (row : List UInt8) : List.zipWith BytesH (xs ++ [x]) (rows ++ [row]) = List.zipWith BytesH xs rows ++ [BytesH x row] := by
  rw [List.zipWith_append h]; rfl
theorem zip_mem {xs : List V} {rows : List (List UInt8)} {i : Nat} {x : V} {row : List UInt8} (hx : xs[i]? = some x) (hr : rows[i]? = some row) : BytesH x row ∈ List.zipWith BytesH xs rows := by
  have : (List.zipWith BytesH xs rows)[i]? = some (BytesH x row) := by rw [List.getElem?_zipWith, hx, hr]
  exact List.mem_of_getElem? this
theorem RowsH.nil {r : List HP} {s : AS} (h : Hs G r s) (ex : Bool) : Hs G (RowsH (.slice none 0 0 ex) [] :: r) s :=
  RowsH.iff.2 ⟨[], rfl, (all_nil h).slNil 1 ex⟩
theorem RowsH.slice {v : V} {rows : List (List UInt8)} {r : List HP} {s : AS} (h : Hs G (RowsH v rows :: r) s) : ∃ a c ex, v = .slice a rows.length c ex := by
  obtain ⟨xs, _, h⟩ := RowsH.iff.1 h
  exact slH_slice h
/-- One more row. -/
theorem rows_push {v : V} {rows : List (List UInt8)} {row : List UInt8} {k : Nat} {x y : V} {r : List HP} {s : AS} (h : Hs G (RowsH v rows :: BytesH x row :: Ob k (.cells [x] 0) :: r) s) (hx : ∀ r' s'', Hs G (Ob k (.cells [x] 0) :: r') s'' → srcN 1 1 y s'' = some [x]) (hn : srcLen y = some 1)
    (hroom : rows.length ≤ 1099511627776) {K : K0} (hK : ∀ v' s', Hs G (RowsH v' (rows ++ [row]) :: r) s' → K v' s') : app 1 24 v y s K := by
  obtain ⟨xs, hl, h1⟩ := RowsH.iff.1 h
  obtain ⟨a, c, ex, rfl⟩ := slH_slice (h1.pull 2)
  refine push_t (h1.ord [0, 3]) hx hn rfl (by omega) (by omega) fun v' s' h2 => hK v' s' ?_
  refine RowsH.iff.2 ⟨xs ++ [.slice a row.length c ex], by simp [hl], ?_⟩
  rw [zip_snoc hl, List.length_append]
  exact (all_snoc.2 (h2.ord [1, 2])).swap
/-- An array of one row. -/
theorem rows_one {row : List UInt8} {x z : V} (hz : flatV z = true) {r : List HP} {s : AS} (h : Hs G (BytesH x row :: r) s) {K : K0} (hK : ∀ y s', Hs G (RowsH y [row] :: r) s' → K y s') : bsl 1 [z] 1 [(0, x)] s K := by
  obtain ⟨a, c, ex, rfl⟩ := slH_slice h
  rw [bsl1_ok _ rfl s z hz]
  refine hK _ _ (RowsH.iff.2 ⟨[.slice a row.length c ex], rfl, ?_⟩)
  have h1 := ob_slH (sz := 1) (n := 1) (c := 1) (ex := true) (xs := [.slice a row.length c ex]) (h.alloc (.cells [.slice a row.length c ex] 0)) rfl rfl rfl (Nat.le_refl _) (by simp) (.inl rfl)
  have h2 : Hs G (HP.all (List.zipWith BytesH [.slice a row.length c ex] [row]) :: SlH 1 (.slice (some ⟨.new s.next, 0⟩) 1 1 true) 1 [.slice a row.length c ex] :: r) _ := Hs.all_iff.2 (h1.swap)
  exact h2.swap
end Go.Rx
end
section
/- From the abstract side to calls of the model. -/
namespace Go.Rx
open Go

/-- What a value that was there ahead of the call is on the abstract side. -/
def cvV : Value → V
  | .int k n => .int k n
  | .bool b => .bool b
  | .string s => .str s.data.toList
  | .slice none 0 0 => .slice none 0 0 true
  | .slice (some ⟨b, o, none⟩) n c => .slice (some ⟨.old b, o⟩) n c true
  | .slice (some ⟨_, _, some _⟩) 0 0 => .slice none 0 1 true
  | .agg _ => .junk
  | .tuple _ => .junk
  | _ => .opq
theorem cvV_ok (ρ : Ren) (v : Value) : VR ρ (cvV v) v := by
  unfold cvV
  split
  · exact .int _ _
  · exact .bool _
  · exact .str _
  · exact .nilslice _
  · exact .slice rfl (fun _ => ⟨rfl, rfl⟩) (fun e => by cases e)
  · exact .hollow _
  · exact .junk _
  · exact .junk _
  · rename_i h1 h2 h3 h4 h5 h5b h6 h7
    refine .opq ?_
    cases v <;> first | rfl | exact absurd rfl (h6 _) | exact absurd rfl (h7 _)
theorem cvVs_ok (ρ : Ren) : ∀ l : List Value, VRs ρ (l.map cvV) l
  | [] => .nil
  | v :: l => .cons (cvV_ok ρ v) (cvVs_ok ρ l)
def oldOf (W : World) (b : Nat) : Option (List V) := match W.heap[b]? with | some (.cells cs _ _) => some (cs.toList.map cvV) | _ => none
def noRen : Ren := fun _ => none
def s0 (W : World) : AS := ⟨.nil, 0, oldOf W⟩

theorem rel0 (W : World) : Rel W noRen (s0 W) W := by
  refine ⟨rfl, rfl, rfl, Nat.le_refl _, fun _ _ => rfl, fun b cs h => ?_, fun k => ?_, fun k b κ h => by simp [noRen] at h, fun k m b κ κ' h => by simp [noRen] at h, fun k o h => ?_⟩
  · simp only [s0, oldOf] at h
    split at h
    · rename_i cs' e fr hh
      cases h
      exact ⟨cs', e, fr, hh, cvVs_ok _ _⟩
    · simp at h
  · simp [s0, noRen]
  · simp [s0, AS.get, T.get] at h
theorem hs0 (W : World) : Hs (oldOf W) [] (s0 W) := ⟨rfl, trivial⟩

/-- A call that answers true on the abstract side. -/
theorem run_law {P : Program} {i : FuncId} {g : List V → M} (hs : SP P i g) {W : World} {args : List V} {args' : Array Value} (ha : VRs noRen args args'.toList) (h : g args (s0 W) (fun v _ => v = .bool true)) :
    Calls P i args' W fun e W' => e = .returned (.bool true) ∧ RowKit.Below W.heap.size W W' := by
  obtain ⟨_, hrun⟩ := hs.s args (s0 W) _ h
  refine (hrun W noRen W args' (rel0 W) ha).mono fun e W' hh => ?_
  obtain ⟨v, s', ρ', v', rfl, rfl, _, hr, hv⟩ := hh
  cases hv
  exact ⟨rfl, hr.os, hr.tape, hr.output, hr.size, hr.frame⟩

theorem oldOf_var {P : Program} {W : World} {name : String} {g : Nat} {k : IntKind} {zs : List Int} (h : Lib.TabIs P W name k zs) (hg : P.globalNamed name = some g) : oldOf W g = some (zs.map fun z => V.int k z) := by
  unfold Lib.TabIs World.var? at h
  rw [hg] at h
  simp only [Option.bind_some] at h
  unfold oldOf
  cases hh : W.heap[g]? with
  | none => rw [hh] at h; simp at h
  | some o =>
    rw [hh] at h
    cases o with
    | cells cs e fr =>
      simp only [Option.some.injEq] at h
      subst h
      simp only [List.map_map]
      rfl
    | _ => simp at h
end Go.Rx
end
