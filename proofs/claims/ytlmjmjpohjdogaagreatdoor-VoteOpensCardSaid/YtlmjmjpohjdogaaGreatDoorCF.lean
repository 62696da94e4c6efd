/- A part of the proofs of the Vote laws: contracts of the number reader's functions, of the log's scan and of opening a voter. -/
import Derived.Test.YtlmjmjpohjdogaaGreatDoorCC
import Derived.Test.YtlmjmjpohjdogaaGreatDoorCE
import Derived.Test.YtlmjmjpohjdogaaGreatDoorCA
import Derived.Test.YtlmjmjpohjdogaaGreatDoorF4
set_option linter.unusedVariables false
set_option linter.unusedSimpArgs false
section
/- Readers. -/
namespace Go.Proofs.Vt
open Go Go.Rx Go.Proofs
variable {G : Nat → Option (List V)}

/-- What a reader has left, and what was wrong first. -/
structure RS where
  bs : List UInt8
  e : Nat
def RS.fail (R : RS) (c : Nat) : RS := ⟨[], if R.e = 0 then c else R.e⟩
def RrH (kr : Nat) (R : RS) : HP := HP.ex fun vb : V => HP.all [Ob kr (.cells [vb, .int .i64 R.e] 0), RdH vb R.bs]
theorem RrH.iff {kr : Nat} {R : RS} {r : List HP} {s : AS} : Hs G (RrH kr R :: r) s ↔ ∃ vb, Hs G (Ob kr (.cells [vb, .int .i64 R.e] 0) :: RdH vb R.bs :: r) s := by
  unfold RrH
  simp only [Hs.ex_iff, Hs.all_iff, List.cons_append, List.nil_append]

theorem rRead_t {v : V} {ys : List UInt8} {r : List HP} {s : AS} (hr : Reads G r v ys) (h : Hs G r s) (hn : ys.length ≤ 1099511627776) :
    Ens (fn71 v) s fun u s' => ∃ kr, u = .ptr (some ⟨.new kr, 0⟩) ∧ Hs G (RrH kr ⟨ys, 0⟩ :: r) s' := by
  intro K hK
  unfold fn71 fn71_q
  refine Clone_t hr h hn _ ?_
  rintro _ s1 ⟨⟨n, c, ex, rfl⟩, h1⟩
  have hag : aggO (fillV (placeS [(0, 59), (1, 24)] ty) [V.slice none 0 0 true, .int .i64 0] [(0, .slice n ys.length c ex)]) = some (.agg [.slice n ys.length c ex, .int .i64 0]) := by
    simp [fillV, placeS, cellsV, spl, aggO]
  rw [hag, optK_some]
  refine boxA_t h1 fun k s2 h2 => hK _ _ ⟨k, rfl, RrH.iff.2 ⟨.slice n ys.length c ex, ?_⟩⟩
  exact ((h2.pull 1).toRd).swap

theorem rErr_t {kr : Nat} {R : RS} {r : List HP} {s : AS} (h : Hs G (RrH kr R :: r) s) (K : K0) : fn108 (.ptr (some ⟨.new kr, 0⟩)) s K = K (.int .i64 R.e) s := by
  obtain ⟨vb, h1⟩ := RrH.iff.1 h
  unfold fn108 fn108_q
  simp only [bin_ptr_nil, Option.isNone_some, optK_some, condV_false, nilV_ptr, fp_ptr, ld_t h1, Nat.zero_add, List.getElem?_cons_zero, List.getElem?_cons_succ]
theorem rLeft_t {kr : Nat} {R : RS} {r : List HP} {s : AS} (h : Hs G (RrH kr R :: r) s) (K : K0) : fn113 (.ptr (some ⟨.new kr, 0⟩)) s K = K (.int .i64 R.bs.length) s := by
  obtain ⟨vb, h1⟩ := RrH.iff.1 h
  obtain ⟨a, c, ex, rfl⟩ := (h1.pull 1).rd.sl
  unfold fn113 fn113_q
  simp only [bin_ptr_nil, Option.isNone_some, optK_some, condV_false, nilV_ptr, fp_ptr, ld_t h1, Nat.zero_add, List.getElem?_cons_zero, List.getElem?_cons_succ, lenV_slice]
theorem rFail_t {kr : Nat} {R : RS} (c : Nat) {r : List HP} {s : AS} (h : Hs G (RrH kr R :: r) s) :
    Ens (fn110 (.ptr (some ⟨.new kr, 0⟩)) (.int .i64 c)) s fun u s' => u = .int .i64 0 ∧ Hs G (RrH kr (R.fail c) :: r) s' := by
  intro K hK
  obtain ⟨vb, h1⟩ := RrH.iff.1 h
  unfold fn110 fn110_q
  simp only [bin_ptr_nnil, Option.isSome_some, optK_some, condV_true, nilV_ptr, fp_ptr, ld_t h1, Nat.zero_add, List.getElem?_cons_zero, List.getElem?_cons_succ]
  rw [bsl2_ok rfl rfl _ _ rfl]
  have h2 := h1.alloc (.cells [.int .i64 R.e, .int .i64 c] 0)
  refine Or_ok h2.get _ ?_
  refine st_t (h2.pull 1) (by simp) rfl fun s3 h3 => ?_
  simp only [List.set_cons_zero] at h3
  refine st_t h3 (by simp) rfl fun s4 h4 => ?_
  simp only [List.set_cons_zero, List.set_cons_succ] at h4
  refine hK _ _ ⟨rfl, RrH.iff.2 ⟨.slice none 0 0 true, ?_⟩⟩
  have h5 := (((h4.drop 1).drop 1).slNil 1 true).swap
  have e : (((R.fail c).e : Nat) : Int) = if (R.e : Int) = 0 then (c : Int) else (R.e : Int) := by
    unfold RS.fail; dsimp only
    by_cases h0 : R.e = 0
    · rw [if_pos h0, if_pos (by omega)]
    · rw [if_neg h0, if_neg (by omega)]
  rw [e]
  exact ((h5.pull 1).toRd (ys := [])).swap

def RS.raw (R : RS) (n : Int) : List UInt8 × RS :=
  if R.e ≠ 0 then ([], R) else if n < 0 then ([], R.fail 2) else if (R.bs.length : Int) < n then ([], R.fail 3) else (R.bs.take n.toNat, ⟨R.bs.drop n.toNat, 0⟩)
theorem rRaw_t {kr : Nat} {R : RS} {n : Int} (hl : R.bs.length ≤ 1099511627776) {r : List HP} {s : AS} (h : Hs G (RrH kr R :: r) s) :
    Ens (fn111 (.ptr (some ⟨.new kr, 0⟩)) (.int .i64 n)) s fun u s' => Hs G (BytesH u (R.raw n).1 :: RrH kr (R.raw n).2 :: r) s' := by
  intro K hK
  unfold fn111 fn111_q
  rw [rErr_t h, bin_neq, optK_some]
  by_cases he : R.e = 0
  · have e0 : ((R.e : Int) != 0) = false := by rw [he]; rfl
    rw [e0, condV_false, bin_lss, optK_some]
    by_cases hn : n < 0
    · rw [decide_eq_true hn, condV_true]
      refine rFail_t 2 h _ ?_
      rintro _ s1 ⟨rfl, h1⟩
      refine hK _ _ ?_
      have : R.raw n = ([], R.fail 2) := by unfold RS.raw; rw [if_neg (by omega), if_pos hn]
      rw [this]
      exact h1.slNil 1 true
    · rw [decide_eq_false hn, condV_false, rLeft_t h, bin_lss, optK_some]
      by_cases hs : (R.bs.length : Int) < n
      · rw [decide_eq_true hs, condV_true]
        refine rFail_t 3 h _ ?_
        rintro _ s1 ⟨rfl, h1⟩
        refine hK _ _ ?_
        have : R.raw n = ([], R.fail 3) := by unfold RS.raw; rw [if_neg (by omega), if_neg hn, if_pos hs]
        rw [this]
        exact h1.slNil 1 true
      · have this : R.raw n = (R.bs.take n.toNat, ⟨R.bs.drop n.toNat, 0⟩) := by unfold RS.raw; rw [if_neg (by omega), if_neg hn, if_neg hs]
        obtain ⟨vb, h1⟩ := RrH.iff.1 h
        have hnn : V.int IntKind.i64 n = .int .i64 (n.toNat : Nat) := by rw [Int.toNat_of_nonneg (by omega)]
        rw [decide_eq_false hs, condV_false, bin_ptr_nil, optK_some, Option.isNone_some, condV_false, nilV_ptr, optK_some, fp_ptr, optK_some, Nat.zero_add, ld_t h1, List.getElem?_cons_zero, optK_some]
        obtain ⟨v1, e1, hr1⟩ := (reads_rd (G := G) (v := vb) (ys := R.bs) (r := Ob kr (.cells [vb, .int .i64 R.e] 0) :: r)).cut (h1.pull 1) (lo := none) (hi := some (.int .i64 n)) (l := 0) (n := n.toNat) (by omega) (by omega) (.inl ⟨rfl, rfl⟩) (.inr ⟨.i64, by rw [hnn]⟩)
        rw [e1, optK_some]
        refine Clone_t hr1 (h1.pull 1) (by simp; omega) _ ?_
        rintro u s2 ⟨_, h2⟩
        have h3 := h2.ord [2, 1, 0]
        rw [optK_some, fp_ptr, optK_some, Nat.zero_add, ld_t h3, List.getElem?_cons_zero, optK_some]
        obtain ⟨v4, e4, h4⟩ := rdH_cut (h3.pull 1) (lo := some (.int .i64 n)) (hi := none) (l := n.toNat) (n := R.bs.length) (Nat.le_refl _) (by omega) (.inr ⟨.i64, by rw [hnn]⟩) (.inl ⟨rfl, rfl⟩)
        rw [e4, optK_some, optK_some, fp_ptr, optK_some, Nat.zero_add]
        obtain ⟨a4, c4, ex4, rfl⟩ := h4.rd.sl
        refine st_t (h4.pull 1) (by simp) rfl fun s5 h5 => ?_
        rw [List.set_cons_zero] at h5
        refine hK _ _ ?_
        rw [this]
        refine (RrH.iff.2 ⟨.slice a4 (R.bs.drop n.toNat).length c4 ex4, ?_⟩ : Hs G (RrH kr ⟨R.bs.drop n.toNat, 0⟩ :: BytesH u (R.bs.take n.toNat) :: r) s5).swap
        have e5 : ((R.bs.take R.bs.length).drop n.toNat) = R.bs.drop n.toNat := by rw [List.take_length]
        have e6 : ((R.bs.take n.toNat).drop 0) = R.bs.take n.toNat := rfl
        rw [e5, e6, he] at h5
        exact h5
  · have e0 : ((R.e : Int) != 0) = true := by simp [he]
    rw [e0, condV_true]
    refine hK _ _ ?_
    have : R.raw n = ([], R) := by unfold RS.raw; rw [if_pos he]
    rw [this]
    exact h.slNil 1 true

theorem raw_len (R : RS) (n : Int) : (R.raw n).2.bs.length ≤ R.bs.length ∧ (R.raw n).1.length ≤ n.toNat := by
  unfold RS.raw
  split
  · simp
  · split
    · simp [RS.fail]
    · split
      · simp [RS.fail]
      · simp; omega

/-! ### numbers -/
theorem or_nat {q : IntKind} (hq : q.bits = 64) {a b j : Nat} (hb : b < 2 ^ j) (h64 : 2 ^ j * a + b < 18446744073709551616) (hw : q.wrap ((2 ^ j * a + b : Nat) : Int) = ((2 ^ j * a + b : Nat) : Int)) (k c) :
    binV .or k c (.int q ((2 ^ j * a : Nat) : Int)) (.int q (b : Nat)) = some (.int q ((2 ^ j * a + b : Nat) : Int)) := by
  simp only [binV, intV, if_true]
  have e : ((BitVec.ofInt q.bits ((2 ^ j * a : Nat) : Int) ||| BitVec.ofInt q.bits (b : Int)).toNat : Int) = ((2 ^ j * a + b : Nat) : Int) := by
    rw [hq, BitVec.ofInt_natCast, BitVec.ofInt_natCast, BitVec.toNat_or, BitVec.toNat_ofNat, BitVec.toNat_ofNat, Nat.mod_eq_of_lt (by omega), Nat.mod_eq_of_lt (by omega), Nat.two_pow_add_eq_or_of_lt hb]
  rw [e, hw]
theorem shl_nat {q : IntKind} (hq : q.bits = 64) {a j : Nat} (hj : j ≤ 64) (hw : q.wrap ((2 ^ j * a : Nat) : Int) = ((2 ^ j * a : Nat) : Int)) (k c) :
    binV .shl k c (.int q (a : Nat)) (.int .u64 (j : Nat)) = some (.int q ((2 ^ j * a : Nat) : Int)) := by
  simp only [binV, shlV]
  rw [if_neg (by omega)]
  have hm : min ((j : Nat) : Int).toNat q.bits = j := by rw [hq]; omega
  have e : ((a : Nat) : Int) * 2 ^ j = ((2 ^ j * a : Nat) : Int) := by rw [Int.natCast_mul, Int.natCast_pow, Int.mul_comm]; rfl
  rw [hm, e, hw]
theorem shl7 {a : Nat} (h : 128 * a < 9223372036854775808) (k c) : binV .shl k c (.int .i64 (a : Nat)) (.int .u64 7) = some (.int .i64 ((128 * a : Nat) : Int)) :=
  shl_nat (q := .i64) (j := 7) rfl (by omega) (wrap64 (by omega) (by omega)) k c
theorem or7 {a b : Nat} (hb : b < 128) (h : 128 * a + b < 9223372036854775808) (k c) : binV .or k c (.int .i64 ((128 * a : Nat) : Int)) (.int .i64 (b : Nat)) = some (.int .i64 ((128 * a + b : Nat) : Int)) :=
  or_nat (q := .i64) (j := 7) rfl hb (by omega) (wrap64 (by omega) (by omega)) k c
theorem shl8 {a : Nat} (h : 256 * a < 18446744073709551616) (k c) : binV .shl k c (.int .u64 (a : Nat)) (.int .u64 8) = some (.int .u64 ((256 * a : Nat) : Int)) :=
  shl_nat (q := .u64) (j := 8) rfl (by omega) (wrapu64 (by omega) (by omega)) k c
theorem or8 {a b : Nat} (hb : b < 256) (h : 256 * a + b < 18446744073709551616) (k c) : binV .or k c (.int .u64 ((256 * a : Nat) : Int)) (.int .u64 (b : Nat)) = some (.int .u64 ((256 * a + b : Nat) : Int)) :=
  or_nat (q := .u64) (j := 8) rfl hb (by omega) (wrapu64 (by omega) (by omega)) k c
theorem cvt_byteI (q : IntKind) (y : UInt8) (hq : q.wrap (y.toNat : Int) = (y.toNat : Int)) (s : AS) (K : K0) : cvt (Kd.int .u8) (Kd.int q) (byteV y) s K = K (.int q y.toNat) s := by
  show optK (some (.int q (q.wrap (y.toNat : Int)))) s K = _
  rw [hq, optK_some]
theorem byte_lt (y : UInt8) : y.toNat < 256 := UInt8.toNat_lt y

/-- Bytes as a number, the greatest first. -/
def beV (l : List UInt8) : Nat := l.foldl (fun n c => 256 * n + c.toNat) 0
theorem beV_snoc (l : List UInt8) (c : UInt8) : beV (l ++ [c]) = 256 * beV l + c.toNat := by unfold beV; rw [List.foldl_append]; rfl
theorem beV_lt (l : List UInt8) : beV l < 256 ^ l.length := by
  have : ∀ (l : List UInt8) (a : Nat), l.foldl (fun n c => 256 * n + c.toNat) a < (a + 1) * 256 ^ l.length := fun l => by
    induction l with
    | nil => intro a; simp
    | cons c l ih =>
      intro a
      have h1 := ih (256 * a + c.toNat)
      have h2 := byte_lt c
      rw [List.foldl_cons, List.length_cons, Nat.pow_succ]
      refine Nat.lt_of_lt_of_le h1 ?_
      have h3 : (256 * a + c.toNat + 1) * 256 ^ l.length ≤ ((a + 1) * 256) * 256 ^ l.length := Nat.mul_le_mul_right _ (by omega)
      have h4 : ((a + 1) * 256) * 256 ^ l.length = (a + 1) * (256 ^ l.length * 256) := by rw [Nat.mul_assoc, Nat.mul_comm 256]
      omega
  have h := this l 0
  simpa [beV] using h

def RS.num (R : RS) (w : Nat) : Nat × RS := if 9007199254740991 < beV (R.raw w).1 then (0, (R.raw w).2.fail 9) else (beV (R.raw w).1, (R.raw w).2)
theorem wide_le {w : Nat} (hw : w = 1 ∨ w = 2 ∨ w = 4 ∨ w = 8) : w ≤ 8 := by omega
theorem rNum_tail {K : K0} {kr w : Nat} {R : RS} {u : V} {tm : Tm} {r : List HP} {s : AS} (hw : w ≤ 8) (h : Hs G (BytesH u (R.raw w).1 :: RrH kr (R.raw w).2 :: r) s)
    (t0 : tm.getD 0 .junk = .ptr (some ⟨.new kr, 0⟩)) (t5 : tm.getD 5 .junk = .int .u64 0) (t20 : tm.getD 20 .junk = u) (t21 : tm.getD 21 .junk = .int .i64 (R.raw w).1.length) (t22 : tm.getD 22 .junk = .int .i64 0)
    (hK : ∀ s', Hs G (RrH kr (R.num w).2 :: r) s' → K (.int .i64 (R.num w).1) s') :
    loopN LOOPS (fun tm s K => fn72_L1 fn108 fn109 fn110 fn111 (tm.getD 0 .junk) (tm.getD 5 .junk) (tm.getD 20 .junk) (tm.getD 21 .junk) (tm.getD 22 .junk) s K) tm s (fun e tm s => exX e (fun j1 => (exB (j1 == 0)
 (optK (binV .gtr (some (Kd.int .u64)) true (tm.getD 5 .junk) (V.int .u64 9007199254740991)) s fun t33 s => (condV t33
 ((fn110 (tm.getD 0 .junk) (V.int .i64 9)) s fun t35 s =>
 (K t35 s))
 ((cvt (Kd.int .u64) (Kd.int .i64) (tm.getD 5 .junk)) s fun t37 s =>
 (K t37 s))))
 False)) (K V.junk s)) := by
  obtain ⟨ys, hys⟩ : ∃ ys, ys = (R.raw w).1 := ⟨_, rfl⟩
  have hlen : ys.length ≤ 8 := by have := (raw_len R w).2; rw [← hys] at this; omega
  have hK' := hK
  unfold RS.num at hK'
  rw [← hys] at h t21 hK'
  refine loop_rule (fun m tm s1 => ∃ i : Nat, i + m = ys.length ∧ s1 = s ∧ tm.getD 0 .junk = .ptr (some ⟨.new kr, 0⟩) ∧ tm.getD 5 .junk = .int .u64 (beV (ys.take i)) ∧ tm.getD 20 .junk = u ∧ tm.getD 21 .junk = .int .i64 ys.length ∧ tm.getD 22 .junk = .int .i64 (i : Nat)) ?_ (m := ys.length) (by omega)
    ⟨0, by omega, rfl, t0, t5, t20, t21, t22⟩
  rintro m tm s1 Kn ⟨i, him, rfl, t0, t5, t20, t21, t22⟩ hnext
  simp only [t0, t5, t20, t21, t22]
  unfold fn72_L1
  by_cases hi : i < ys.length
  · have d : decide ((i : Int) < (ys.length : Int)) = true := by simp; omega
    have w1 : IntKind.i64.wrap ((i : Int) + 1) = ((i + 1 : Nat) : Int) := by rw [wrap64 (by omega) (by omega)]; omega
    obtain ⟨y, hy⟩ : ∃ y, ys[i]? = some y := ⟨ys[i], by simp [hi]⟩
    obtain ⟨p, e1, l1⟩ := rd_elem (h.toRd.rd).toRd hy .i64
    have hb := beV_lt (ys.take i)
    have hb2 := beV_lt (ys.take (i + 1))
    have e2 : ys.take (i + 1) = ys.take i ++ [y] := by rw [List.take_add_one, hy]; rfl
    rw [e2, beV_snoc, ← e2] at hb2
    have hle : (256 : Nat) ^ (ys.take (i + 1)).length ≤ 256 ^ 8 := Nat.pow_le_pow_right (by omega) (by rw [List.length_take]; omega)
    have hbig : 256 * beV (ys.take i) + y.toNat < 18446744073709551616 := Nat.lt_of_lt_of_le hb2 hle
    have hyl := byte_lt y
    simp only [bin_lss, optK_some, d, condV_true, e1, l1]
    rw [shl8 (by omega), optK_some, cvt_byteI .u64 y (wrapu64 (by omega) (by omega)), or8 hyl hbig, optK_some, bin_add, optK_some, w1, nx_nrm]
    refine hnext (ys.length - (i + 1)) _ _ (by omega) ⟨i + 1, by omega, rfl, rfl, ?_, rfl, rfl, rfl⟩
    rw [e2, beV_snoc]; rfl
  · have : i = ys.length := by omega
    subst this
    rw [List.take_length]
    simp only [bin_lss, optK_some, Int.lt_irrefl, decide_false, condV_false, nx_exit, exX_exit, beq_self_eq_true, exB_true]
    show optK (binV .gtr (some (Kd.int .u64)) true (.int .u64 (beV ys)) (V.int .u64 9007199254740991)) s1 _
    rw [bin_gtr, optK_some]
    by_cases hgt : 9007199254740991 < beV ys
    · have d : decide ((beV ys : Int) > 9007199254740991) = true := by simp; omega
      rw [if_pos hgt] at hK'
      rw [d, condV_true]
      refine rFail_t 9 (h.pull 1) _ ?_
      rintro _ s2 ⟨rfl, h2⟩
      exact hK' _ (h2.drop 1)
    · have d : decide ((beV ys : Int) > 9007199254740991) = false := by simp; omega
      rw [if_neg hgt] at hK'
      rw [d, condV_false]
      show optK (some (.int .i64 (IntKind.i64.wrap (beV ys : Int)))) s1 _
      rw [wrap64 (by omega) (by omega), optK_some]
      exact hK' _ h.tail
theorem rNum_t {kr w : Nat} {R : RS} (hw : w = 1 ∨ w = 2 ∨ w = 4 ∨ w = 8) (hl : R.bs.length ≤ 1099511627776) {r : List HP} {s : AS} (h : Hs G (RrH kr R :: r) s) :
    Ens (fn72 (.ptr (some ⟨.new kr, 0⟩)) (.int .i64 w)) s fun u s' => u = .int .i64 (R.num w).1 ∧ Hs G (RrH kr (R.num w).2 :: r) s' := by
  intro K hK
  unfold fn72 fn72_q
  rw [rErr_t h, bin_eql, optK_some]
  by_cases he : R.e = 0
  · have e0 : ((R.e : Int) == 0) = true := by rw [he]; rfl
    rw [e0, grd_true, wide_ok w hw, un_not, optK_some]
    show condV (.bool false) _ _
    rw [condV_false]
    refine rRaw_t hl h _ ?_
    intro u s1 h1
    obtain ⟨a, c, ex, rfl⟩ := slH_slice h1
    rw [lenV_slice, optK_some]
    exact rNum_tail (wide_le hw) h1 rfl rfl rfl rfl rfl fun s2 h2 => hK _ _ ⟨rfl, h2⟩
  · have e0 : ((R.e : Int) == 0) = false := by simp [he]
    rw [e0, grd_false]
    refine rRaw_t hl h _ ?_
    intro u s1 h1
    obtain ⟨a, c, ex, rfl⟩ := slH_slice h1
    rw [lenV_slice, optK_some]
    exact rNum_tail (wide_le hw) h1 rfl rfl rfl rfl rfl fun s2 h2 => hK _ _ ⟨rfl, h2⟩

/-! ### counts -/
def RS.countL (most : Nat) : Nat → Nat → RS → Nat × RS
  | 0, _, R => (0, R.fail 4)
  | k + 1, n, R => match (R.raw 1).1 with
    | [] => (0, (R.raw 1).2)
    | b :: _ => if k = 7 ∧ b.toNat = 128 then (0, (R.raw 1).2.fail 4) else if 128 ≤ b.toNat then (R.raw 1).2.countL most k (128 * n + b.toNat % 128) else if 9007199254740991 < 128 * n + b.toNat % 128 then (0, (R.raw 1).2.fail 9)
      else if most < 128 * n + b.toNat % 128 then (0, (R.raw 1).2.fail 5) else (128 * n + b.toNat % 128, (R.raw 1).2)
def RS.count (R : RS) (most : Nat) : Nat × RS := R.countL most 8 0
theorem rCount_t {kr most : Nat} {R : RS} (hl : R.bs.length ≤ 1099511627776) (hm : most ≤ 9007199254740991) {r : List HP} {s : AS} (h : Hs G (RrH kr R :: r) s) :
    Ens (fn73 (.ptr (some ⟨.new kr, 0⟩)) (.int .i64 most)) s fun u s' => u = .int .i64 (R.count most).1 ∧ Hs G (RrH kr (R.count most).2 :: r) s' := by
  intro K hK
  unfold fn73 fn73_q
  refine loop_rule (fun m tm s1 => ∃ (n : Nat) (R1 : RS), m ≤ 8 ∧ n < 128 ^ (8 - m) ∧ R1.bs.length ≤ 1099511627776 ∧ R.count most = R1.countL most m n ∧ Hs G (RrH kr R1 :: r) s1 ∧
    tm.getD 0 .junk = .ptr (some ⟨.new kr, 0⟩) ∧ tm.getD 1 .junk = .int .i64 most ∧ tm.getD 4 .junk = .int .i64 (n : Nat) ∧ tm.getD 8 .junk = .int .i64 ((8 - m : Nat) : Int)) ?_ (m := 8) (by omega)
    ⟨0, R, by omega, by decide, hl, rfl, h, rfl, rfl, rfl, rfl⟩
  rintro m tm s1 Kn ⟨n, R1, hm8, hn, hl1, hR, h1, t0, t1, t4, t8⟩ hnext
  simp only [t0, t1, t4, t8]
  unfold fn73_L1
  rw [bin_lss, optK_some]
  cases m with
  | zero =>
    have d : decide (((8 - 0 : Nat) : Int) < 8) = false := by decide
    rw [d, condV_false, nx_exit, exX_exit]
    show exB true _ _
    rw [exB_true]
    refine rFail_t 4 h1 _ ?_
    rintro _ s2 ⟨rfl, h2⟩
    have e : R.count most = (0, R1.fail 4) := hR
    refine hK _ _ ?_
    rw [e]; exact ⟨rfl, h2⟩
  | succ k =>
    have d : decide (((8 - (k + 1) : Nat) : Int) < 8) = true := by simp; omega
    rw [d, condV_true]
    refine rRaw_t hl1 h1 _ ?_
    intro u s2 h2
    have hl2 := (raw_len R1 1).1
    have hfull : (R.count most) = match (R1.raw 1).1 with
      | [] => (0, (R1.raw 1).2)
      | b :: _ => if k = 7 ∧ b.toNat = 128 then (0, (R1.raw 1).2.fail 4) else if 128 ≤ b.toNat then (R1.raw 1).2.countL most k (128 * n + b.toNat % 128) else if 9007199254740991 < 128 * n + b.toNat % 128 then (0, (R1.raw 1).2.fail 9)
        else if most < 128 * n + b.toNat % 128 then (0, (R1.raw 1).2.fail 5) else (128 * n + b.toNat % 128, (R1.raw 1).2) := hR
    obtain ⟨ys, hys⟩ : ∃ ys, ys = (R1.raw 1).1 := ⟨_, rfl⟩
    obtain ⟨R2, hR2⟩ : ∃ R2, R2 = (R1.raw 1).2 := ⟨_, rfl⟩
    rw [← hys, ← hR2] at h2 hfull
    rw [← hR2] at hl2
    cases ys with
    | nil =>
      obtain ⟨a, c, ex, rfl⟩ := slH_slice h2
      rw [lenV_slice, optK_some, bin_eql, optK_some]
      show condV (.bool true) _ _
      rw [condV_true, nx_ret, exX_ret]
      refine hK _ _ ?_
      rw [hfull]; exact ⟨rfl, h2.tail⟩
    | cons b ys =>
      dsimp only at hfull
      obtain ⟨p, e1, l1⟩ := rd_elem (h2.toRd.rd).toRd (i := 0) (y := b) rfl .i64
      have e1' : elemPtr none 1 u (.int .i64 0) = some (.ptr (some p)) := e1
      obtain ⟨a, c, ex, rfl⟩ := slH_slice h2
      have hbl := byte_lt b
      have hne : (((b :: ys).length : Int) == 0) = false := by simp; omega
      have hpow : 128 ^ (8 - k) = 128 ^ (8 - (k + 1)) * 128 := by rw [← Nat.pow_succ]; congr 1; omega
      have hpow2 : (128 : Nat) ^ (8 - (k + 1)) ≤ 128 ^ 7 := Nat.pow_le_pow_right (by omega) (by omega)
      have hmod : b.toNat % 128 < 128 := Nat.mod_lt _ (by omega)
      have hrem : (b.toNat : Int).tmod 128 = ((b.toNat % 128 : Nat) : Int) := by rw [Int.tmod_eq_emod_of_nonneg (by omega)]; omega
      rw [lenV_slice, optK_some, bin_eql, optK_some, hne, condV_false, e1', optK_some, l1, cvt_byteI .i64 b (wrap64 (by omega) (by omega)), shl7 (by omega), optK_some, bin_rem, if_neg (by omega), optK_some, hrem, or7 hmod (by omega), optK_some, bin_eql, optK_some]
      by_cases h7 : k = 7
      · subst h7
        have d1 : (((8 - (7 + 1) : Nat) : Int) == 0) = true := by decide
        rw [d1, grd_true, bin_eql, optK_some]
        by_cases h128 : b.toNat = 128
        · have d2 : ((b.toNat : Int) == 128) = true := by rw [h128]; rfl
          rw [if_pos ⟨rfl, h128⟩] at hfull
          rw [d2, condV_true, nx_exit, exX_exit]
          show exB true _ _
          rw [exB_true]
          refine rFail_t 4 h2.tail _ ?_
          rintro _ s3 ⟨rfl, h3⟩
          refine hK _ _ ?_
          rw [hfull]; exact ⟨rfl, h3⟩
        have d2' : ((b.toNat : Int) == 128) = false := by simp; omega
        rw [d2', condV_false]
        rw [bin_geq, optK_some]
        by_cases hb : 128 ≤ b.toNat
        · have d2 : decide ((b.toNat : Int) ≥ 128) = true := by simp; omega
          have w1 : IntKind.i64.wrap (((8 - (7 + 1) : Nat) : Int) + 1) = ((8 - 7 : Nat) : Int) := by rw [wrap64 (by omega) (by omega)]; omega
          rw [d2, condV_true, bin_add, optK_some, w1, nx_nrm]
          rw [if_neg (fun hh => h128 hh.2), if_pos hb] at hfull
          exact hnext 7 _ _ (by omega) ⟨128 * n + b.toNat % 128, R2, by omega, by omega, by omega, hfull, h2.tail, rfl, rfl, rfl, rfl⟩
        · have d2 : decide ((b.toNat : Int) ≥ 128) = false := by simp; omega
          rw [d2, condV_false, bin_gtr, optK_some]
          rw [if_neg (fun hh => h128 hh.2), if_neg hb] at hfull
          by_cases h9 : 9007199254740991 < 128 * n + b.toNat % 128
          · have d3 : decide (((128 * n + b.toNat % 128 : Nat) : Int) > 9007199254740991) = true := decide_eq_true (by omega)
            rw [d3, condV_true]
            rw [if_pos h9] at hfull
            refine rFail_t 9 h2.tail _ ?_
            rintro _ s3 ⟨rfl, h3⟩
            rw [nx_ret, exX_ret]
            refine hK _ _ ?_
            rw [hfull]; exact ⟨rfl, h3⟩
          · have d3 : decide (((128 * n + b.toNat % 128 : Nat) : Int) > 9007199254740991) = false := decide_eq_false (by omega)
            rw [d3, condV_false, bin_gtr, optK_some]
            rw [if_neg h9] at hfull
            by_cases h5 : most < 128 * n + b.toNat % 128
            · have d4 : decide (((128 * n + b.toNat % 128 : Nat) : Int) > (most : Int)) = true := decide_eq_true (by omega)
              rw [d4, condV_true]
              rw [if_pos h5] at hfull
              refine rFail_t 5 h2.tail _ ?_
              rintro _ s3 ⟨rfl, h3⟩
              rw [nx_ret, exX_ret]
              refine hK _ _ ?_
              rw [hfull]; exact ⟨rfl, h3⟩
            · have d4 : decide (((128 * n + b.toNat % 128 : Nat) : Int) > (most : Int)) = false := decide_eq_false (by omega)
              rw [if_neg h5] at hfull
              rw [d4, condV_false, nx_ret, exX_ret]
              refine hK _ _ ?_
              rw [hfull]; exact ⟨rfl, h2.tail⟩
      · have d1 : (((8 - (k + 1) : Nat) : Int) == 0) = false := by simp; omega
        rw [d1, grd_false]
        rw [bin_geq, optK_some]
        by_cases hb : 128 ≤ b.toNat
        · have d2 : decide ((b.toNat : Int) ≥ 128) = true := by simp; omega
          have w1 : IntKind.i64.wrap (((8 - (k + 1) : Nat) : Int) + 1) = ((8 - k : Nat) : Int) := by rw [wrap64 (by omega) (by omega)]; omega
          rw [d2, condV_true, bin_add, optK_some, w1, nx_nrm]
          rw [if_neg (fun hh => h7 hh.1), if_pos hb] at hfull
          exact hnext k _ _ (by omega) ⟨128 * n + b.toNat % 128, R2, by omega, by omega, by omega, hfull, h2.tail, rfl, rfl, rfl, rfl⟩
        · have d2 : decide ((b.toNat : Int) ≥ 128) = false := by simp; omega
          rw [d2, condV_false, bin_gtr, optK_some]
          rw [if_neg (fun hh => h7 hh.1), if_neg hb] at hfull
          by_cases h9 : 9007199254740991 < 128 * n + b.toNat % 128
          · have d3 : decide (((128 * n + b.toNat % 128 : Nat) : Int) > 9007199254740991) = true := decide_eq_true (by omega)
            rw [d3, condV_true]
            rw [if_pos h9] at hfull
            refine rFail_t 9 h2.tail _ ?_
            rintro _ s3 ⟨rfl, h3⟩
            rw [nx_ret, exX_ret]
            refine hK _ _ ?_
            rw [hfull]; exact ⟨rfl, h3⟩
          · have d3 : decide (((128 * n + b.toNat % 128 : Nat) : Int) > 9007199254740991) = false := decide_eq_false (by omega)
            rw [d3, condV_false, bin_gtr, optK_some]
            rw [if_neg h9] at hfull
            by_cases h5 : most < 128 * n + b.toNat % 128
            · have d4 : decide (((128 * n + b.toNat % 128 : Nat) : Int) > (most : Int)) = true := decide_eq_true (by omega)
              rw [d4, condV_true]
              rw [if_pos h5] at hfull
              refine rFail_t 5 h2.tail _ ?_
              rintro _ s3 ⟨rfl, h3⟩
              rw [nx_ret, exX_ret]
              refine hK _ _ ?_
              rw [hfull]; exact ⟨rfl, h3⟩
            · have d4 : decide (((128 * n + b.toNat % 128 : Nat) : Int) > (most : Int)) = false := decide_eq_false (by omega)
              rw [if_neg h5] at hfull
              rw [d4, condV_false, nx_ret, exX_ret]
              refine hK _ _ ?_
              rw [hfull]; exact ⟨rfl, h2.tail⟩

def RS.text (R : RS) (most : Nat) : List UInt8 × RS := if (R.count most).2.e = 0 then (R.count most).2.raw (R.count most).1 else ([], (R.count most).2)
theorem countL_len (most : Nat) : ∀ (k n : Nat) (R : RS), (R.countL most k n).2.bs.length ≤ R.bs.length
  | 0, _, R => by simp [RS.countL, RS.fail]
  | k + 1, n, R => by
    have h1 := (raw_len R 1).1
    unfold RS.countL
    cases hc : (R.raw 1).1 with
    | nil => exact h1
    | cons b ys =>
      dsimp only
      split
      · simp [RS.fail]
      · split
        · exact Nat.le_trans (countL_len most k _ _) h1
        · split
          · simp [RS.fail]
          · split
            · simp [RS.fail]
            · exact h1
theorem count_len (R : RS) (most : Nat) : (R.count most).2.bs.length ≤ R.bs.length := countL_len most 8 0 R
theorem num_len (R : RS) (w : Nat) : (R.num w).2.bs.length ≤ R.bs.length := by
  unfold RS.num
  split
  · simp [RS.fail]
  · exact (raw_len R w).1
theorem rText_t {kr most : Nat} {R : RS} (hl : R.bs.length ≤ 1099511627776) (hm : most ≤ 9007199254740991) {r : List HP} {s : AS} (h : Hs G (RrH kr R :: r) s) :
    Ens (fn75 (.ptr (some ⟨.new kr, 0⟩)) (.int .i64 most)) s fun u s' => Hs G (BytesH u (R.text most).1 :: RrH kr (R.text most).2 :: r) s' := by
  intro K hK
  unfold fn75 fn75_q
  refine rCount_t hl hm h _ ?_
  rintro _ s1 ⟨rfl, h1⟩
  have hl1 := count_len R most
  rw [rErr_t h1, bin_eql, optK_some]
  by_cases he : (R.count most).2.e = 0
  · have d : (((R.count most).2.e : Int) == 0) = true := by rw [he]; rfl
    have e : R.text most = (R.count most).2.raw (R.count most).1 := by unfold RS.text; rw [if_pos he]
    rw [d, condV_true]
    refine rRaw_t (by omega) h1 _ ?_
    intro u s2 h2
    refine hK _ _ ?_
    rw [e]; exact h2
  · have d : (((R.count most).2.e : Int) == 0) = false := by simp [he]
    have e : R.text most = ([], (R.count most).2) := by unfold RS.text; rw [if_neg he]
    rw [d, condV_false]
    refine hK _ _ ?_
    rw [e]; exact h1.slNil 1 true
def RS.fin (R : RS) : Nat := if R.e = 0 ∧ R.bs ≠ [] then 4 else R.e
theorem rEnd_t {kr : Nat} {R : RS} {r : List HP} {s : AS} (h : Hs G (RrH kr R :: r) s) (K : K0) : fn76 (.ptr (some ⟨.new kr, 0⟩)) s K = K (.int .i64 R.fin) s := by
  unfold fn76 fn76_q
  rw [rErr_t h, bin_eql, optK_some]
  by_cases he : R.e = 0
  · have d : ((R.e : Int) == 0) = true := by rw [he]; rfl
    rw [d, grd_true, rLeft_t h, bin_gtr, optK_some]
    cases hb : R.bs with
    | nil =>
      have e : R.fin = R.e := by unfold RS.fin; rw [if_neg (fun hh => hh.2 hb)]
      show condV (.bool false) _ _ = _
      rw [condV_false, rErr_t h, e]
    | cons b bs =>
      have e : R.fin = 4 := by unfold RS.fin; rw [if_pos ⟨he, by rw [hb]; simp⟩]
      have d2 : decide (((b :: bs).length : Int) > 0) = true := by simp
      rw [d2, condV_true, e]; rfl
  · have d : ((R.e : Int) == 0) = false := by simp [he]
    have e : R.fin = R.e := by unfold RS.fin; rw [if_neg (fun hh => he hh.1)]
    rw [d, grd_false, rErr_t h, e]

/-! ### reading what was written -/
theorem raw_app {a b : List UInt8} {n : Nat} (h : a.length = n) : RS.raw ⟨a ++ b, 0⟩ n = (a, ⟨b, 0⟩) := by
  unfold RS.raw
  rw [if_neg (by simp), if_neg (by omega), if_neg (by simp; omega)]
  subst h
  simp
theorem u8v_toNat (z : Int) (h : 0 ≤ z) : (u8v z).toNat = (z % 256).toNat := by
  unfold u8v
  rw [UInt8.toNat_ofNat']
  omega
theorem beV_two (a b : UInt8) : beV [a, b] = 256 * a.toNat + b.toNat := by simp [beV]
theorem numB2 (n : Nat) : numB 2 n = [u8v ((n / 256 : Nat) : Int), u8v n] := by
  have : ((n : Int).fdiv 256) = ((n / 256 : Nat) : Int) := by rw [Int.fdiv_eq_ediv_of_nonneg _ (by omega)]; omega
  simp [numB, List.range_succ, this]
theorem beV_num2 {n : Nat} (hn : n < 65536) : beV (numB 2 n) = n := by
  rw [numB2, beV_two, u8v_toNat _ (by omega), u8v_toNat _ (by omega)]; omega
end Go.Proofs.Vt
end
section
/- Readers: what was written is read. -/
namespace Go.Proofs.Vt
open Go Go.Rx Go.Proofs
variable {G : Nat → Option (List V)}

end Go.Proofs.Vt
end
section
/- Configs are read. -/
namespace Go.Proofs.Vt
open Go Go.Rx Go.Proofs
variable {G : Nat → Option (List V)}

theorem flat3 {a b : Int} {v : V} (h : flatV v = true) : [V.int .i64 a, .int .i64 b, v].all flatV = true := by
  rw [List.all_cons, List.all_cons, List.all_cons, h]; rfl
end Go.Proofs.Vt
end
section
/- Rows are read. -/
namespace Go.Proofs.Vt
open Go Go.Rx Go.Proofs
variable {G : Nat → Option (List V)}

end Go.Proofs.Vt
end
section
/- The log is read. -/
namespace Go.Proofs.Vt
open Go Go.Rx Go.Proofs
variable {G : Nat → Option (List V)}

theorem bytesOf_map : ∀ ys : List UInt8, bytesOfCells (ys.map byteV) = some ys
  | [] => rfl
  | y :: ys => by
    have e : UInt8.ofNat ((y.toNat : Int)).toNat = y := by rw [Int.toNat_natCast]; exact UInt8.ofNat_toNat
    simp only [List.map_cons, byteV, bytesOfCells]
    rw [show (ys.map byteV) = ys.map byteV from rfl, bytesOf_map ys, e]
theorem toStr_t {v : V} {ys : List UInt8} {s : AS} (h : RdC s v ys) (K : K0) : cvtS (Kd.slice 5) v s K = K (.str ys) s := by
  obtain ⟨a, c, ex, rfl⟩ := h.sl
  show toStr _ s K = _
  cases a with
  | none =>
    have hsrc := h.src
    have hc := h.cap _ _ _ _ rfl
    have h0 : ys = [] ∧ c = 0 := by
      cases hy : ys.length with
      | zero =>
        rw [hy] at hsrc
        refine ⟨List.eq_nil_of_length_eq_zero hy, ?_⟩
        cases c with
        | zero => rfl
        | succ c => simp [srcN] at hsrc
      | succ m => rw [hy] at hsrc; cases c <;> simp [srcN] at hsrc
    obtain ⟨rfl, rfl⟩ := h0
    rfl
  | some a =>
    unfold toStr
    simp only [h.src, bytesOf_map]
theorem Equal_t {v w : V} {ys zs : List UInt8} {r : List HP} {s : AS} (hv : Reads G r v ys) (hw : Reads G r w zs) (h : Hs G r s) (K : K0) : fn105 v w s K = K (.bool (decide (ys = zs))) s := by
  unfold fn105 fn105_q
  rw [toStr_t (hv s h).1, toStr_t (hw s h).1]
  have e : binV .eql (some Kd.str) false (.str ys) (.str zs) = some (.bool (decide (ys = zs))) := by
    simp only [binV, strV]
    congr 2
    by_cases e : ys = zs <;> simp [e]
  rw [e, optK_some]

/-- What a scan makes of bytes: rows, how many of the bytes they take, an error. -/
def scanL : Nat → List UInt8 → List (List UInt8) × Nat × Nat
  | 0, _ => ([], 0, 0)
  | f + 1, b => if b.length < 4 then ([], 0, 0) else if beV ((b.drop 2).take 2) + beV (b.take 2) ≠ 65535 then ([], 0, 140) else if b.length < beV (b.take 2) + 8 then ([], 0, 0)
    else if 40000 < beV (b.take 2) ∨ sumB (b.take (4 + beV (b.take 2))) ≠ (b.drop (4 + beV (b.take 2))).take 4 then ([], 0, 140)
    else (((b.take (4 + beV (b.take 2))).drop 4) :: (scanL f (b.drop (beV (b.take 2) + 8))).1, beV (b.take 2) + 8 + (scanL f (b.drop (beV (b.take 2) + 8))).2.1, (scanL f (b.drop (beV (b.take 2) + 8))).2.2)
def scanF (b : List UInt8) : List (List UInt8) × Nat × Nat := scanL b.length b

theorem num2_gen {x : List UInt8} (h : 2 ≤ x.length) : RS.num ⟨x, 0⟩ 2 = (beV (x.take 2), ⟨x.drop 2, 0⟩) := by
  have e := raw_app (a := x.take 2) (b := x.drop 2) (n := 2) (by rw [List.length_take]; omega)
  rw [List.take_append_drop] at e
  have hb := beV_lt (x.take 2)
  have hl : (x.take 2).length = 2 := by rw [List.length_take]; omega
  rw [hl] at hb
  unfold RS.num
  rw [e]
  dsimp only
  rw [if_neg (by omega)]

theorem scanL_zero {b : List UInt8} {m : Nat} (hm : b.length ≤ m) (h : b.length < 4) : scanL m b = ([], 0, 0) := by
  cases m with
  | zero => rfl
  | succ m => unfold scanL; rw [if_pos h]

theorem Scan_t (hG : ShaG G) {v : V} {bs : List UInt8} {r : List HP} {s : AS} (hr : Reads G r v bs) (h : Hs G r s) (hl : bs.length ≤ 1000000000) :
    Ens (fn66 v) s fun u s' => ∃ w, u = .tuple [w, .int .i64 (scanF bs).2.1, .int .i64 (scanF bs).2.2] ∧ Hs G (RowsH w (scanF bs).1 :: r) s' := by
  intro K hK
  obtain ⟨a, c, ex, rfl⟩ := rd_slice hr h
  unfold fn66 fn66_q
  refine loop_rule (fun m tm s1 => ∃ (off : Nat) (w : V) (rows : List (List UInt8)), off ≤ bs.length ∧ rows.length ≤ off ∧ (bs.drop off).length ≤ m ∧ scanF bs = (rows ++ (scanL m (bs.drop off)).1, off + (scanL m (bs.drop off)).2.1, (scanL m (bs.drop off)).2.2) ∧
    Hs G (RowsH w rows :: r) s1 ∧ tm.getD 0 .junk = .slice a bs.length c ex ∧ tm.getD 2 .junk = w ∧ tm.getD 3 .junk = .int .i64 (off : Nat)) ?_ (m := bs.length) (by omega)
    ⟨0, .slice none 0 0 true, [], by omega, by simp, by simp, by unfold scanF; simp, RowsH.nil h true, rfl, rfl, rfl⟩
  rintro m tm s1 Kn ⟨off, w, rows, hoff, hrl, hm, hscan, h1, t0, t2, t3⟩ hnext
  simp only [t0, t2, t3]
  unfold fn66_L1
  have hdl : (bs.drop off).length = bs.length - off := List.length_drop
  have wsub : IntKind.i64.wrap ((bs.length : Int) - (off : Int)) = ((bs.length - off : Nat) : Int) := by rw [wrap64 (by omega) (by omega)]; omega
  have wadd4 : IntKind.i64.wrap ((off : Int) + 4) = ((off + 4 : Nat) : Int) := by rw [wrap64 (by omega) (by omega)]; omega
  rw [lenV_slice, optK_some, bin_sub, optK_some, wsub, bin_geq, optK_some]
  by_cases h4 : 4 ≤ bs.length - off
  · have d : decide (((bs.length - off : Nat) : Int) ≥ 4) = true := decide_eq_true (by omega)
    rw [d, condV_true, bin_add, optK_some, wadd4]
    obtain ⟨b, hb⟩ : ∃ b, b = bs.drop off := ⟨_, rfl⟩
    rw [← hb] at hscan hm hdl
    obtain ⟨v1, e1, hr1⟩ := hr.cut (h1.tail) (lo := some (.int .i64 (off : Nat))) (hi := some (.int .i64 ((off + 4 : Nat) : Int))) (l := off) (n := off + 4) (by omega) (by omega) (.inr ⟨.i64, rfl⟩) (.inr ⟨.i64, rfl⟩)
    have ecut : (bs.take (off + 4)).drop off = b.take 4 := by rw [List.drop_take, hb]; congr 1; omega
    rw [ecut] at hr1
    rw [e1, optK_some]
    refine rRead_t hr1.cons h1 (by simp; omega) _ ?_
    rintro _ s2 ⟨kr, rfl, h2⟩
    have hb4 : (b.take 4).length = 4 := by rw [List.length_take]; omega
    have en1 : RS.num ⟨b.take 4, 0⟩ 2 = (beV (b.take 2), ⟨(b.drop 2).take 2, 0⟩) := by
      rw [num2_gen (by omega), List.take_take, List.drop_take]; rfl
    have en2 : RS.num ⟨(b.drop 2).take 2, 0⟩ 2 = (beV ((b.drop 2).take 2), ⟨((b.drop 2).take 2).drop 2, 0⟩) := by
      have hl2 : ((b.drop 2).take 2).length = 2 := by rw [List.length_take, List.length_drop]; omega
      rw [num2_gen (by omega), List.take_take]; rfl
    refine rNum_t (w := 2) (by omega) (by show (b.take 4).length ≤ _; omega) h2 _ ?_
    rintro _ s3 ⟨rfl, h3⟩
    rw [en1] at h3 ⊢
    refine rNum_t (w := 2) (by omega) (by show ((b.drop 2).take 2).length ≤ _; rw [List.length_take]; omega) h3 _ ?_
    rintro _ s4 ⟨rfl, h4'⟩
    rw [en2] at h4' ⊢
    dsimp only at h4' ⊢
    have hbe : ∀ x : List UInt8, beV (x.take 2) < 65536 := fun x => by
      refine Nat.lt_of_lt_of_le (beV_lt _) ?_
      have : (256 : Nat) ^ (x.take 2).length ≤ 256 ^ 2 := Nat.pow_le_pow_right (by omega) (by rw [List.length_take]; omega)
      omega
    obtain ⟨n, hn⟩ : ∃ n, n = beV (b.take 2) := ⟨_, rfl⟩
    obtain ⟨q, hq⟩ : ∃ q, q = beV ((b.drop 2).take 2) := ⟨_, rfl⟩
    have hnl := hbe b
    have hql := hbe (b.drop 2)
    rw [← hn] at hnl ⊢
    rw [← hq] at hql ⊢
    obtain ⟨f, rfl⟩ : ∃ f, m = f + 1 := ⟨m - 1, by omega⟩
    have hsc : scanL (f + 1) b = if q + n ≠ 65535 then ([], 0, 140) else if b.length < n + 8 then ([], 0, 0)
        else if 40000 < n ∨ sumB (b.take (4 + n)) ≠ (b.drop (4 + n)).take 4 then ([], 0, 140)
        else (((b.take (4 + n)).drop 4) :: (scanL f (b.drop (n + 8))).1, n + 8 + (scanL f (b.drop (n + 8))).2.1, (scanL f (b.drop (n + 8))).2.2) := by
      conv => lhs; unfold scanL
      rw [if_neg (by omega), ← hn, ← hq]
    have wn : IntKind.i64.wrap (65535 - (n : Int)) = 65535 - (n : Int) := wrap64 (by omega) (by omega)
    rw [bin_sub, optK_some, wn, bin_neq, optK_some]
    have bad : ∀ s5, Hs G (RowsH w rows :: r) s5 → scanL (f + 1) b = ([], 0, 140) → nx Kn (fun e tm s => exX e (fun j1 => (exB (j1 == 0) (K (V.tuple [tm.getD 2 .junk, tm.getD 3 .junk, V.int .i64 0]) s) False)) (K (V.tuple [tm.getD 2 .junk, tm.getD 3 .junk, tm.getD 4 .junk]) s)) .ret
        ([V.junk, .junk, w, .int .i64 (off : Nat), .int .i64 140] ++ List.replicate 62 V.junk) s5 := by
      intro s5 h5 hs
      rw [nx_ret, exX_ret]
      refine hK _ _ ⟨w, ?_, ?_⟩
      · rw [hscan, hs]; rfl
      · rw [hscan, hs, List.append_nil]; exact h5
    by_cases hqn : q + n = 65535
    · have d1 : ((q : Int) != 65535 - (n : Int)) = false := by simp; omega
      rw [if_neg (by omega)] at hsc
      have wb : IntKind.i64.wrap (((off + 4 : Nat) : Int) + (n : Int)) = ((off + 4 + n : Nat) : Int) := by rw [wrap64 (by omega) (by omega)]; omega
      have wc : IntKind.i64.wrap (((off + 4 + n : Nat) : Int) + 4) = ((off + 4 + n + 4 : Nat) : Int) := by rw [wrap64 (by omega) (by omega)]; omega
      rw [d1, condV_false, optK_some, bin_add, optK_some, wb, bin_add, optK_some, wc, optK_some, bin_gtr, optK_some]
      by_cases hend : b.length < n + 8
      · have d2 : decide (((off + 4 + n + 4 : Nat) : Int) > (bs.length : Int)) = true := decide_eq_true (by omega)
        rw [if_pos hend] at hsc
        rw [d2, condV_true, nx_exit, exX_exit]
        show exB true _ _
        rw [exB_true]
        refine hK _ _ ⟨w, ?_, ?_⟩
        · rw [hscan, hsc]; rfl
        · rw [hscan, hsc, List.append_nil]; exact h4'.tail
      · have d2 : decide (((off + 4 + n + 4 : Nat) : Int) > (bs.length : Int)) = false := decide_eq_false (by omega)
        rw [if_neg hend] at hsc
        rw [d2, condV_false, bin_gtr, optK_some]
        by_cases h40 : 40000 < n
        · have d3 : decide ((n : Int) > 40000) = true := decide_eq_true (by omega)
          rw [if_pos (.inl h40)] at hsc
          rw [d3, grd_true]
          exact bad _ h4'.tail hsc
        · have d3 : decide ((n : Int) > 40000) = false := decide_eq_false (by omega)
          rw [d3, grd_false]
          obtain ⟨v5, e5, hr5⟩ := hr.cut (h1.tail) (lo := some (.int .i64 (off : Nat))) (hi := some (.int .i64 ((off + 4 + n : Nat) : Int))) (l := off) (n := off + 4 + n) (by omega) (by omega) (.inr ⟨.i64, rfl⟩) (.inr ⟨.i64, rfl⟩)
          have ecut5 : (bs.take (off + 4 + n)).drop off = b.take (4 + n) := by rw [List.drop_take, hb]; congr 1; omega
          rw [ecut5] at hr5
          rw [e5, optK_some]
          refine sums_t hG hr5.cons h4'.tail (by simp; omega) _ ?_
          intro x s6 h6
          rw [optK_some]
          obtain ⟨v7, e7, hr7⟩ := hr.cut (h1.tail) (lo := some (.int .i64 ((off + 4 + n : Nat) : Int))) (hi := some (.int .i64 ((off + 4 + n + 4 : Nat) : Int))) (l := off + 4 + n) (n := off + 4 + n + 4) (by omega) (by omega) (.inr ⟨.i64, rfl⟩) (.inr ⟨.i64, rfl⟩)
          have ecut7 : (bs.take (off + 4 + n + 4)).drop (off + 4 + n) = (b.drop (4 + n)).take 4 := by rw [List.drop_take, hb, List.drop_drop, show off + 4 + n + 4 - (off + 4 + n) = 4 from by omega, show off + (4 + n) = off + 4 + n from by omega]
          rw [ecut7] at hr7
          rw [e7, optK_some, Equal_t reads_bytes hr7.cons.cons h6, un_not, optK_some]
          by_cases hsum : sumB (b.take (4 + n)) = (b.drop (4 + n)).take 4
          · rw [if_neg (by rintro (h | h); exact h40 h; exact h hsum)] at hsc
            rw [decide_eq_true hsum]
            show condV (.bool false) _ _
            rw [condV_false, optK_some]
            obtain ⟨v8, e8, hr8⟩ := hr.cut (h1.tail) (lo := some (.int .i64 ((off + 4 : Nat) : Int))) (hi := some (.int .i64 ((off + 4 + n : Nat) : Int))) (l := off + 4) (n := off + 4 + n) (by omega) (by omega) (.inr ⟨.i64, rfl⟩) (.inr ⟨.i64, rfl⟩)
            have ecut8 : (bs.take (off + 4 + n)).drop (off + 4) = (b.take (4 + n)).drop 4 := by
              rw [List.drop_take, List.drop_take, hb, List.drop_drop, show off + 4 + n - (off + 4) = 4 + n - 4 from by omega]
            rw [ecut8] at hr8
            rw [e8, optK_some]
            refine Clone_t hr8.cons.cons h6 (by simp; omega) _ ?_
            rintro _ s9 ⟨⟨na, nc, nex, rfl⟩, h9⟩
            refine bsl1_t rfl rfl h9 fun z s10 hz hzl h10 => ?_
            refine rows_push ((h10.ord [3, 1, 0])) hz hzl (by omega) fun v11 s11 h11 => ?_
            rw [optK_some, nx_nrm]
            have edrop : bs.drop (off + 4 + n + 4) = b.drop (n + 8) := by rw [hb, List.drop_drop]; congr 1; omega
            refine hnext f _ _ (by omega) ⟨off + 4 + n + 4, v11, rows ++ [(b.take (4 + n)).drop 4], by omega, by simp; omega, by rw [edrop, List.length_drop]; omega, ?_, h11.drop 1, rfl, rfl, rfl⟩
            rw [hscan, hsc, edrop, List.append_assoc]
            simp only [List.singleton_append, Prod.mk.injEq, true_and, and_true]
            omega
          · rw [if_pos (.inr hsum)] at hsc
            rw [decide_eq_false hsum]
            show condV (.bool true) _ _
            rw [condV_true]
            exact bad _ h6.tail hsc
    · have d1 : ((q : Int) != 65535 - (n : Int)) = true := by simp; omega
      rw [if_pos hqn] at hsc
      rw [d1, condV_true]
      exact bad _ h4'.tail hsc
  · have d : decide (((bs.length - off : Nat) : Int) ≥ 4) = false := decide_eq_false (by omega)
    rw [d, condV_false, nx_exit, exX_exit]
    show exB true _ _
    rw [exB_true]
    have hz := scanL_zero hm (by omega)
    refine hK _ _ ⟨w, ?_, ?_⟩
    · rw [hscan, hz]; rfl
    · rw [hscan, hz, List.append_nil]; exact h1
end Go.Proofs.Vt
end
section
/- The log that was written is read. -/
namespace Go.Proofs.Vt
open Go Go.Rx Go.Proofs

theorem numB2_len (n : Nat) : (numB 2 n).length = 2 := by rw [numB2]; rfl
theorem take_left2 {a b : List UInt8} {n : Nat} (h : a.length = n) : (a ++ b).take n = a := by subst h; simp
theorem drop_left2 {a b : List UInt8} {n : Nat} (h : a.length = n) : (a ++ b).drop n = b := by subst h; simp

theorem scanL_rec {row tl : List UInt8} (hr : row.length ≤ 40000) (m : Nat) : scanL (m + 1) (recB row ++ tl) = (row :: (scanL m tl).1, row.length + 8 + (scanL m tl).2.1, (scanL m tl).2.2) := by
  have hl := recB_length row
  have e0 : recB row ++ tl = numB 2 row.length ++ (numB 2 (65535 - row.length) ++ (row ++ (sumB (numB 2 row.length ++ numB 2 (65535 - row.length) ++ row) ++ tl))) := by
    simp only [recB, List.append_assoc]
  have e0' : recB row ++ tl = (numB 2 row.length ++ numB 2 (65535 - row.length) ++ row) ++ (sumB (numB 2 row.length ++ numB 2 (65535 - row.length) ++ row) ++ tl) := by
    simp only [recB, List.append_assoc]
  have hpl : (numB 2 row.length ++ numB 2 (65535 - row.length) ++ row).length = 4 + row.length := by simp only [List.length_append, numB2_len]
  have e1 : (recB row ++ tl).take 2 = numB 2 row.length := by rw [e0, take_left2 (numB2_len _)]
  have e2 : ((recB row ++ tl).drop 2).take 2 = numB 2 (65535 - row.length) := by rw [e0, drop_left2 (numB2_len _), take_left2 (numB2_len _)]
  have e3 : (recB row ++ tl).take (4 + row.length) = numB 2 row.length ++ numB 2 (65535 - row.length) ++ row := by rw [e0', take_left2 hpl]
  have e4 : ((recB row ++ tl).drop (4 + row.length)).take 4 = sumB (numB 2 row.length ++ numB 2 (65535 - row.length) ++ row) := by rw [e0', drop_left2 hpl, take_left2 (sumB_length _)]
  have e5 : ((recB row ++ tl).take (4 + row.length)).drop 4 = row := by rw [e3, drop_left2 (by simp only [List.length_append, numB2_len])]
  have e6 : (recB row ++ tl).drop (row.length + 8) = tl := by rw [drop_left2 hl]
  have hlen : (recB row ++ tl).length = row.length + 8 + tl.length := by rw [List.length_append, hl]
  conv => lhs; unfold scanL
  rw [e1, e2, beV_num2 (by omega), beV_num2 (by omega), if_neg (by omega), if_neg (by omega), if_neg (by omega), e5, e3, e4, e6, if_neg (by rintro (h | h); omega; exact h rfl)]

theorem scanL_rows : ∀ (rows : List (List UInt8)) (t : List UInt8) (m : Nat), (∀ row ∈ rows, row.length ≤ 40000) → (∀ k, scanL k t = ([], 0, 0)) → (rows.flatMap recB ++ t).length ≤ m → scanL m (rows.flatMap recB ++ t) = (rows, (rows.flatMap recB).length, 0)
  | [], t, m, _, ht, _ => by simpa using ht m
  | row :: rows, t, m, hr, ht, hm => by
    have hl := recB_length row
    simp only [List.flatMap_cons, List.append_assoc, List.length_append] at hm ⊢
    obtain ⟨k, rfl⟩ : ∃ k, m = k + 1 := ⟨m - 1, by omega⟩
    have ih := scanL_rows rows t k (fun x hx => hr x (List.mem_cons_of_mem _ hx)) ht (by simp only [List.length_append]; omega)
    rw [scanL_rec (hr row (List.mem_cons_self ..)), ih, hl]

theorem scan_rows {rows : List (List UInt8)} (hr : ∀ row ∈ rows, row.length ≤ 40000) : scanF (rows.flatMap recB) = (rows, (rows.flatMap recB).length, 0) := by
  have := scanL_rows rows [] (rows.flatMap recB).length hr (fun k => scanL_zero (by simp) (by simp)) (by simp)
  rw [List.append_nil] at this; exact this
end Go.Proofs.Vt
end
section
/- A voter is opened of a disk with rows. -/
namespace Go.Proofs.Vt
open Go Go.Rx Go.Proofs
variable {G : Nat → Option (List V)}

theorem lOpen_t (hG : ShaG G) {kd : Nat} {d : DS} {nt n : Nat} {rows : List (List UInt8)} {r : List HP} {s : AS} (hd : d.dead = false) (hscan : scanF d.bs = (rows, n, 0)) (hn : n ≤ d.bs.length) (hl : d.bs.length ≤ 1000000000) (h : Hs G (DiskH kd d nt :: r) s) :
    Ens (fn34 (.ptr (some ⟨.new kd, 0⟩))) s fun u s' => ∃ kl, u = .tuple [.ptr (some ⟨.new kl, 0⟩), .int .i64 0] ∧ Hs G (LogH kl kd rows false :: DiskH kd (d.cutN n) nt :: r) s' := by
  intro K hK
  unfold fn34 fn34_q
  rw [CutNeg_t h, hd, if_neg (by simp), bin_neq, optK_some, bne_self_eq_false, condV_false]
  refine dRead_t h _ ?_
  rintro v s1 ⟨_, h1⟩
  refine Scan_t hG reads_bytes h1 hl _ ?_
  rintro _ s2 ⟨w, rfl, h2⟩
  rw [hscan] at h2 ⊢
  have d0 : (((0 : Nat) : Int) != 0) = false := by decide
  simp only [ext0, List.getElem?_cons_zero, List.getElem?_cons_succ, optK_some, bin_neq, d0, condV_false]
  refine Cut_t (n := n) (h2.pull 2) hd hn _ ?_
  rintro _ s3 ⟨rfl, h3⟩
  obtain ⟨wa, wc, wex, rfl⟩ := RowsH.slice (h3.pull 1)
  have hag : aggO (fillV (placeS [(0, 27), (1, 52), (2, 4)] ty) [V.ptr none, .slice none 0 0 true, .bool false] [(0, .ptr (some ⟨.new kd, 0⟩)), (1, .slice wa rows.length wc wex)]) = some (.agg [.ptr (some ⟨.new kd, 0⟩), .slice wa rows.length wc wex, .bool false]) := by
    simp [fillV, placeS, cellsV, spl, aggO]
  simp only [bin_neq, optK_some, bne_self_eq_false, condV_false, hag]
  refine boxA_t h3 fun kl s4 h4 => ?_
  exact hK _ _ ⟨kl, rfl, LogH.iff.2 ⟨_, (h4.ord [0, 2, 1]).drop 3⟩⟩

/-- What a row tells. -/
inductive Deed where
  | P (n : Nat)
  | F (n : Nat)
  | V (x : Vo)
def Deed.row : Deed → List UInt8
  | .P n => rowP n
  | .F n => rowF n
  | .V x => rowV x
def Deed.ok : Deed → Prop
  | .P n => 1 ≤ n ∧ n ≤ 9007199254740991
  | .F n => 1 ≤ n ∧ n ≤ 9007199254740991
  | .V x => x.ok
structure Vst where
  p : Nat
  f : Nat
  v : List Vo
def Vst.step (t : Vst) : Deed → Option Vst
  | .P n => some ⟨max t.p n, t.f, t.v⟩
  | .F n => some ⟨t.p, max t.f n, t.v.filter fun x => decide (max t.f n ≤ numOf x)⟩
  | .V x => if t.f ≤ numOf x ∧ roomF t.v (numOf x) = true then some ⟨max t.p x.b, t.f, putVo t.v x⟩ else none
def Vst.run (t : Vst) : List Deed → Option Vst
  | [] => some t
  | d :: ds => match t.step d with | some t' => t'.run ds | none => none
def Vst.with (t : Vst) (rows : List (List UInt8)) : VS := ⟨t.p, t.f, t.v, rows, false⟩

end Go.Proofs.Vt
end
section
/- The disk: dead, revived, armed, crashed. -/
namespace Go.Proofs.Vt
open Go Go.Rx Go.Proofs
variable {G : Nat → Option (List V)}

theorem dRevive_t {kd : Nat} {d : DS} {nt : Nat} {r : List HP} {s : AS} (h : Hs G (DiskH kd d nt :: r) s) :
    Ens (fn32 (.ptr (some ⟨.new kd, 0⟩))) s fun u s' => u = .int .i64 0 ∧ Hs G (DiskH kd ⟨d.bs, d.sy, false, .always⟩ nt :: r) s' := by
  intro K hK
  obtain ⟨vb, hf, vt, n, xt, hok, h1⟩ := DiskH.iff.1 h
  have hfn := HoldH.fn (h1.pull 2)
  unfold fn32 fn32_q
  rw [dnone_t h1 hfn]
  simp only [condV_false, nilV_ptr, fp_ptr, Nat.zero_add, optK_some]
  refine st_t h1 (by simp) rfl fun s2 h2 => ?_
  simp only [List.set_cons_zero, List.set_cons_succ] at h2
  refine st_t h2 (by simp) rfl fun s3 h3 => ?_
  simp only [List.set_cons_zero, List.set_cons_succ] at h3
  have h4 : Hs G (HoldH alwaysV .always :: _) s3 := Hs.pure_iff.2 ⟨rfl, h3.drop 2⟩
  exact hK _ _ ⟨rfl, DiskH.mk (d := ⟨d.bs, d.sy, false, .always⟩) (h4.ord [1, 2, 0]) ⟨hok.n, hok.nt, hok.sy, hok.bs⟩⟩

def DS.armed (d : DS) (c : Nat) : DS := if d.dead then d else ⟨d.bs, d.sy, false, .arm c⟩
end Go.Proofs.Vt
end
