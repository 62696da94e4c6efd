/- A part of the proof of VoteOpens: contracts of the document's readers and digest. -/
import Derived.Test.YtlmjmjpohjdogaaGreatDoorCF
import Derived.Test.YtlmjmjpohjdogaaGreatDoorF4
set_option linter.unusedVariables false
set_option linter.unusedSimpArgs false
section
/- The document's readers (package sealchainref01). -/
namespace Go.Proofs.Vt
open Go Go.Rx Go.Proofs
variable {G : Nat → Option (List V)}

theorem byteV_flat (ys : List UInt8) : (ys.map byteV).all flatV = true := by
  rw [List.all_eq_true]; intro x hx
  obtain ⟨y, _, rfl⟩ := List.mem_map.1 hx
  rfl
theorem qCopy_t {v : V} {ys : List UInt8} {r : List HP} {s : AS} (hr : Reads G r v ys) (h : Hs G r s) (hn : ys.length ≤ 1099511627776) :
    Ens (fn54 v) s fun u s' => Hs G (BytesH u ys :: r) s' := by
  intro K hK
  unfold fn54 fn54_q
  have hrd := (hr s h).1
  refine app_t (by omega) (h.slNil 1 true) hrd.len hrd.src (by simp) (byteV_flat ys) (by omega) (by omega) fun v' s' h' => hK _ _ ?_
  rw [Nat.zero_add, List.nil_append] at h'
  exact h'
theorem qEq_t {v w : V} {ys zs : List UInt8} {r : List HP} {s : AS} (hv : Reads G r v ys) (hw : Reads G r w zs) (h : Hs G r s) (K : K0) : fn59 v w s K = K (.bool (decide (ys = zs))) s := by
  unfold fn59 fn59_q
  rw [toStr_t (hv s h).1, toStr_t (hw s h).1]
  have e : binV .eql (some Kd.str) false (.str ys) (.str zs) = some (.bool (decide (ys = zs))) := by
    simp only [binV, strV]
    congr 2
    by_cases e : ys = zs <;> simp [e]
  rw [e, optK_some]

theorem rr_e {kr : Nat} {R : RS} {r : List HP} {s : AS} (h : Hs G (RrH kr R :: r) s) (K : K0) : ld1 (.ptr (some ⟨.new kr, 1⟩)) s K = K (.int .i64 R.e) s := by
  obtain ⟨vb, h1⟩ := RrH.iff.1 h
  rw [ld_t h1]; rfl

theorem qRead_t {v : V} {ys : List UInt8} {r : List HP} {s : AS} (hr : Reads G r v ys) (h : Hs G r s) (hn : ys.length ≤ 1099511627776) :
    Ens (fn131 v) s fun u s' => ∃ kr, u = .ptr (some ⟨.new kr, 0⟩) ∧ Hs G (RrH kr ⟨ys, 0⟩ :: r) s' := by
  intro K hK
  unfold fn131 fn131_q
  refine qCopy_t hr h hn _ ?_
  intro u s1 h1
  obtain ⟨n, c, ex, rfl⟩ := slH_slice h1
  have hag : aggO (fillV (placeS [(0, 59), (1, 24)] ty) [V.slice none 0 0 true, .int .i64 0] [(0, .slice n ys.length c ex)]) = some (.agg [.slice n ys.length c ex, .int .i64 0]) := by
    simp [fillV, placeS, cellsV, spl, aggO]
  rw [hag, optK_some]
  refine boxA_t h1 fun k s2 h2 => hK _ _ ⟨k, rfl, RrH.iff.2 ⟨.slice n ys.length c ex, ?_⟩⟩
  exact ((h2.pull 1).toRd).swap
theorem qErr_t {kr : Nat} {R : RS} {r : List HP} {s : AS} (h : Hs G (RrH kr R :: r) s) (K : K0) : fn148 (.ptr (some ⟨.new kr, 0⟩)) s K = K (.int .i64 R.e) s := by
  unfold fn148 fn148_q
  rw [nilV_ptr, optK_some, fp_ptr, optK_some, Nat.zero_add, rr_e h]
theorem qFail_t {kr : Nat} {R : RS} (c : Nat) {r : List HP} {s : AS} (h : Hs G (RrH kr R :: r) s) :
    Ens (fn146 (.ptr (some ⟨.new kr, 0⟩)) (.int .i64 c)) s fun u s' => u = .tuple [] ∧ Hs G (RrH kr (R.fail c) :: r) s' := by
  intro K hK
  unfold fn146 fn146_q
  rw [nilV_ptr, optK_some, fp_ptr, optK_some, Nat.zero_add, rr_e h, bin_eql, optK_some]
  obtain ⟨vb, h1⟩ := RrH.iff.1 h
  by_cases h0 : R.e = 0
  · have e0 : ((R.e : Int) == 0) = true := by rw [h0]; rfl
    have ef : R.fail c = ⟨[], c⟩ := by unfold RS.fail; rw [if_pos h0]
    rw [e0, condV_true, optK_some, fp_ptr, optK_some, Nat.zero_add]
    refine st_t h1 (by simp) rfl fun s2 h2 => ?_
    rw [List.set_cons_succ, List.set_cons_zero] at h2
    rw [optK_some, fp_ptr, optK_some, Nat.zero_add]
    refine st_t h2 (by simp) rfl fun s3 h3 => ?_
    rw [List.set_cons_zero] at h3
    refine hK _ _ ⟨rfl, ?_⟩
    rw [ef]
    exact RrH.iff.2 ⟨.slice none 0 0 true, (((h3.drop 1).slNil 1 true).toRd (ys := [])).swap⟩
  · have e0 : ((R.e : Int) == 0) = false := by simp [h0]
    have ef : R.fail c = ⟨[], R.e⟩ := by unfold RS.fail; rw [if_neg h0]
    rw [e0, condV_false, optK_some, fp_ptr, optK_some, Nat.zero_add]
    refine st_t h1 (by simp) rfl fun s3 h3 => ?_
    rw [List.set_cons_zero] at h3
    refine hK _ _ ⟨rfl, ?_⟩
    rw [ef]
    exact RrH.iff.2 ⟨.slice none 0 0 true, (((h3.drop 1).slNil 1 true).toRd (ys := [])).swap⟩

theorem qRaw_t {kr : Nat} {R : RS} {n : Int} (hl : R.bs.length ≤ 1099511627776) {r : List HP} {s : AS} (h : Hs G (RrH kr R :: r) s) :
    Ens (fn147 (.ptr (some ⟨.new kr, 0⟩)) (.int .i64 n)) s fun u s' => Hs G (BytesH u (R.raw n).1 :: RrH kr (R.raw n).2 :: r) s' := by
  intro K hK
  unfold fn147 fn147_q
  have t2 : (((2 : Nat) : Int) == 0) = false := by decide
  have t3 : (((3 : Nat) : Int) != 0) = true := by decide
  have t2' : (((2 : Nat) : Int) != 0) = true := by decide
  rw [nilV_ptr, optK_some, fp_ptr, optK_some, Nat.zero_add, rr_e h, bin_eql, optK_some]
  by_cases he : R.e = 0
  · have e0 : ((R.e : Int) == 0) = true := by rw [he]; rfl
    have e1 : ((R.e : Int) != 0) = false := by rw [he]; rfl
    rw [e0, grd_true, bin_lss, optK_some]
    by_cases hn : n < 0
    · have ef : R.fail 2 = ⟨[], 2⟩ := by unfold RS.fail; rw [if_pos he]
      rw [decide_eq_true hn, condV_true]
      refine qFail_t 2 h _ ?_
      rintro _ s1 ⟨rfl, h1⟩
      have : R.raw n = ([], R.fail 2) := by unfold RS.raw; rw [if_neg (by omega), if_pos hn]
      rw [ef] at h1 this
      rw [optK_some, fp_ptr, optK_some, Nat.zero_add, rr_e h1, bin_eql, optK_some, t2, grd_false, optK_some, fp_ptr, optK_some, Nat.zero_add, rr_e h1, bin_neq, optK_some, t2', condV_true]
      refine hK _ _ ?_
      rw [this]
      exact h1.slNil 1 true
    · rw [decide_eq_false hn, condV_false, optK_some, fp_ptr, optK_some, Nat.zero_add, rr_e h, bin_eql, optK_some, e0, grd_true, optK_some, fp_ptr, optK_some, Nat.zero_add]
      obtain ⟨vb, h1⟩ := RrH.iff.1 h
      obtain ⟨va, vc, vex, hvb⟩ := (h1.pull 1).rd.sl
      rw [ld_t h1, List.getElem?_cons_zero, optK_some]
      have hlen : lenV (some (Kd.slice 5)) vb = some (.int .i64 R.bs.length) := by rw [hvb]; rfl
      rw [hlen, optK_some, bin_lss, optK_some]
      by_cases hs : (R.bs.length : Int) < n
      · have ef : R.fail 3 = ⟨[], 3⟩ := by unfold RS.fail; rw [if_pos he]
        rw [decide_eq_true hs, condV_true]
        refine qFail_t 3 h _ ?_
        rintro _ s1 ⟨rfl, h1⟩
        have : R.raw n = ([], R.fail 3) := by unfold RS.raw; rw [if_neg (by omega), if_neg hn, if_pos hs]
        rw [ef] at h1 this
        rw [optK_some, fp_ptr, optK_some, Nat.zero_add, rr_e h1, bin_neq, optK_some, t3, condV_true]
        refine hK _ _ ?_
        rw [this]
        exact h1.slNil 1 true
      · have this : R.raw n = (R.bs.take n.toNat, ⟨R.bs.drop n.toNat, 0⟩) := by unfold RS.raw; rw [if_neg (by omega), if_neg hn, if_neg hs]
        have hnn : V.int IntKind.i64 n = .int .i64 (n.toNat : Nat) := by rw [Int.toNat_of_nonneg (by omega)]
        rw [decide_eq_false hs, condV_false, optK_some, fp_ptr, optK_some, Nat.zero_add, rr_e h, bin_neq, optK_some, e1, condV_false, optK_some, fp_ptr, optK_some, Nat.zero_add, ld_t h1, List.getElem?_cons_zero, optK_some]
        obtain ⟨v1, e1, hr1⟩ := (reads_rd (G := G) (v := vb) (ys := R.bs) (r := Ob kr (.cells [vb, .int .i64 R.e] 0) :: r)).cut (h1.pull 1) (lo := none) (hi := some (.int .i64 n)) (l := 0) (n := n.toNat) (by omega) (by omega) (.inl ⟨rfl, rfl⟩) (.inr ⟨.i64, by rw [hnn]⟩)
        rw [e1, optK_some]
        refine qCopy_t hr1 (h1.pull 1) (by simp; omega) _ ?_
        intro u s2 h2
        have h3 := h2.ord [2, 1, 0]
        rw [optK_some, fp_ptr, optK_some, Nat.zero_add, ld_t h3, List.getElem?_cons_zero, optK_some]
        obtain ⟨v4, e4, h4⟩ := rdH_cut (h3.pull 1) (lo := some (.int .i64 n)) (hi := none) (l := n.toNat) (n := R.bs.length) (Nat.le_refl _) (by omega) (.inr ⟨.i64, by rw [hnn]⟩) (.inl ⟨rfl, rfl⟩)
        rw [e4, optK_some, optK_some, fp_ptr, optK_some, Nat.zero_add]
        obtain ⟨a4, c4, ex4, rfl⟩ := h4.rd.sl
        refine st_t (h4.pull 1) (by simp) rfl fun s5 h5 => ?_
        rw [List.set_cons_zero] at h5
        refine hK _ _ ?_
        rw [this]
        refine (RrH.iff.2 ⟨.slice a4 (R.bs.drop n.toNat).length c4 ex4, ?_⟩ : Hs G (RrH kr ⟨R.bs.drop n.toNat, 0⟩ :: BytesH u (R.bs.take n.toNat) :: r) s5).swap
        have e5 : ((R.bs.take R.bs.length).drop n.toNat) = R.bs.drop n.toNat := by rw [List.take_length]
        have e6 : ((R.bs.take n.toNat).drop 0) = R.bs.take n.toNat := rfl
        rw [e5, e6, he] at h5
        exact h5
  · have e0 : ((R.e : Int) == 0) = false := by simp [he]
    have e1 : ((R.e : Int) != 0) = true := by simp [he]
    rw [e0, grd_false, optK_some, fp_ptr, optK_some, Nat.zero_add, rr_e h, bin_eql, optK_some, e0, grd_false, optK_some, fp_ptr, optK_some, Nat.zero_add, rr_e h, bin_neq, optK_some, e1, condV_true]
    refine hK _ _ ?_
    have : R.raw n = ([], R) := by unfold RS.raw; rw [if_pos he]
    rw [this]
    exact h.slNil 1 true

theorem qwide_ok (w : Nat) (hw : w = 1 ∨ w = 2 ∨ w = 4 ∨ w = 8) (s : AS) (K : K0) : fn145 (.int .i64 w) s K = K (.bool true) s := by
  rcases hw with rfl | rfl | rfl | rfl <;> rfl

theorem qNum_loop {K : KX} {kr : Nat} {ys : List UInt8} {u : V} {tm : Tm} {r : List HP} {s : AS} (hlen : ys.length ≤ 8) (h : Hs G (BytesH u ys :: r) s)
    (t0 : tm.getD 0 .junk = .ptr (some ⟨.new kr, 0⟩)) (t5 : tm.getD 5 .junk = u) (t6 : tm.getD 6 .junk = .int .u64 0) (t7 : tm.getD 7 .junk = .int .i64 0)
    (hK : ∀ tm', tm'.getD 0 .junk = .ptr (some ⟨.new kr, 0⟩) → tm'.getD 6 .junk = .int .u64 (beV ys) → K (.exit 0) tm' s) :
    loopN LOOPS (fun tm s K => fn132_L1 fn145 fn146 fn147 (tm.getD 0 .junk) (tm.getD 5 .junk) (tm.getD 6 .junk) (tm.getD 7 .junk) s K) tm s K := by
  refine loop_rule (fun m tm s1 => ∃ i : Nat, i + m = ys.length ∧ s1 = s ∧ tm.getD 0 .junk = .ptr (some ⟨.new kr, 0⟩) ∧ tm.getD 5 .junk = u ∧ tm.getD 6 .junk = .int .u64 (beV (ys.take i)) ∧ tm.getD 7 .junk = .int .i64 (i : Nat)) ?_ (m := ys.length) (by omega)
    ⟨0, by omega, rfl, t0, t5, t6, t7⟩
  rintro m tm s1 Kn ⟨i, him, rfl, t0, t5, t6, t7⟩ hnext
  simp only [t0, t5, t6, t7]
  unfold fn132_L1
  obtain ⟨a, c, ex, hu⟩ := slH_slice h
  have hlv : lenV (some (Kd.slice 5)) u = some (.int .i64 ys.length) := by rw [hu]; rfl
  rw [hlv, optK_some, bin_lss, optK_some]
  by_cases hi : i < ys.length
  · have d : decide ((i : Int) < (ys.length : Int)) = true := by simp; omega
    have w1 : IntKind.i64.wrap ((i : Int) + 1) = ((i + 1 : Nat) : Int) := by rw [wrap64 (by omega) (by omega)]; omega
    obtain ⟨y, hy⟩ : ∃ y, ys[i]? = some y := ⟨ys[i], by simp [hi]⟩
    obtain ⟨p, e1, l1⟩ := rd_elem (h.toRd.rd).toRd hy .i64
    have hb := beV_lt (ys.take i)
    have hb2 := beV_lt (ys.take (i + 1))
    have e2 : ys.take (i + 1) = ys.take i ++ [y] := by rw [List.take_add_one, hy]; rfl
    rw [e2, beV_snoc, ← e2] at hb2
    have hle : (256 : Nat) ^ (ys.take (i + 1)).length ≤ 256 ^ 8 := Nat.pow_le_pow_right (by omega) (by rw [List.length_take]; omega)
    have hbig : 256 * beV (ys.take i) + y.toNat < 18446744073709551616 := Nat.lt_of_lt_of_le hb2 hle
    have hyl := byte_lt y
    have wm : IntKind.u64.wrap (256 * (beV (ys.take i) : Int)) = ((256 * beV (ys.take i) : Nat) : Int) := by rw [wrapu64 (by omega) (by omega)]; omega
    have wa : IntKind.u64.wrap (((256 * beV (ys.take i) : Nat) : Int) + (y.toNat : Int)) = ((256 * beV (ys.take i) + y.toNat : Nat) : Int) := by rw [wrapu64 (by omega) (by omega)]; omega
    rw [d, condV_true, bin_mul, optK_some, wm, e1, optK_some, l1, cvt_byteI .u64 y (wrapu64 (by omega) (by omega)), bin_add, optK_some, wa, bin_add, optK_some, w1, nx_nrm]
    refine hnext (ys.length - (i + 1)) _ _ (by omega) ⟨i + 1, by omega, rfl, rfl, rfl, ?_, rfl⟩
    rw [e2, beV_snoc]; rfl
  · have : i = ys.length := by omega
    subst this
    have d : decide ((ys.length : Int) < (ys.length : Int)) = false := by simp
    rw [List.take_length, d, condV_false, nx_exit]
    exact hK _ rfl (by show V.int .u64 _ = _; rfl)

theorem qNum_t {kr w : Nat} {R : RS} (hw : w = 1 ∨ w = 2 ∨ w = 4 ∨ w = 8) (hl : R.bs.length ≤ 1099511627776) {r : List HP} {s : AS} (h : Hs G (RrH kr R :: r) s) :
    Ens (fn132 (.ptr (some ⟨.new kr, 0⟩)) (.int .i64 w)) s fun u s' => u = .int .i64 (R.num w).1 ∧ Hs G (RrH kr (R.num w).2 :: r) s' := by
  intro K hK
  have hw8 := wide_le hw
  have hlen : (R.raw w).1.length ≤ 8 := by have := (raw_len R w).2; omega
  have fin : ∀ (tm : Tm) (s1 : AS), tm.getD 0 .junk = .ptr (some ⟨.new kr, 0⟩) → tm.getD 6 .junk = .int .u64 (beV (R.raw w).1) → Hs G (RrH kr (R.raw w).2 :: r) s1 →
      optK (binV .gtr (some (Kd.int .u64)) true (tm.getD 6 .junk) (V.int .u64 9007199254740991)) s1 (fun t38 s => condV t38 (fn146 (tm.getD 0 .junk) (V.int .i64 9) s fun t40 s => K (V.int .i64 0) s) (cvt (Kd.int .u64) (Kd.int .i64) (tm.getD 6 .junk) s fun t42 s => K t42 s)) := by
    intro tm s1 t0 t6 h1
    rw [t6, bin_gtr, optK_some]
    have hK' := hK
    unfold RS.num at hK'
    by_cases hgt : 9007199254740991 < beV (R.raw w).1
    · have d : decide ((beV (R.raw w).1 : Int) > 9007199254740991) = true := by simp; omega
      rw [if_pos hgt] at hK'
      rw [d, condV_true, t0]
      refine qFail_t 9 h1 _ ?_
      rintro _ s2 ⟨rfl, h2⟩
      exact hK' _ _ ⟨rfl, h2⟩
    · have d : decide ((beV (R.raw w).1 : Int) > 9007199254740991) = false := by simp; omega
      rw [if_neg hgt] at hK'
      rw [d, condV_false]
      show optK (some (.int .i64 (IntKind.i64.wrap (beV (R.raw w).1 : Int)))) s1 _
      rw [wrap64 (by omega) (by omega), optK_some]
      exact hK' _ _ ⟨rfl, h1⟩
  unfold fn132 fn132_q
  rw [nilV_ptr, optK_some, fp_ptr, optK_some, Nat.zero_add, rr_e h, bin_eql, optK_some]
  by_cases he : R.e = 0
  · have e0 : ((R.e : Int) == 0) = true := by rw [he]; rfl
    rw [e0, grd_true, qwide_ok w hw, un_not, optK_some]
    show condV (.bool false) _ _
    rw [condV_false]
    refine qRaw_t hl h _ ?_
    intro u s1 h1
    refine qNum_loop hlen h1 rfl rfl rfl rfl ?_
    intro tm t0 t6
    rw [exX_exit]
    show exB true _ _
    rw [exB_true]
    exact fin tm s1 t0 t6 h1.tail
  · have e0 : ((R.e : Int) == 0) = false := by simp [he]
    rw [e0, grd_false]
    refine qRaw_t hl h _ ?_
    intro u s1 h1
    refine qNum_loop hlen h1 rfl rfl rfl rfl ?_
    intro tm t0 t6
    rw [exX_exit]
    show exB true _ _
    rw [exB_true]
    exact fin tm s1 t0 t6 h1.tail
end Go.Proofs.Vt
end
section
/- The document's readers: counts, texts, the end. -/
namespace Go.Proofs.Vt
open Go Go.Rx Go.Proofs
variable {G : Nat → Option (List V)}

theorem cvt_i {a b : IntKind} {z : Int} (s : AS) (K : K0) : cvt (Kd.int a) (Kd.int b) (.int a z) s K = K (.int b (b.wrap z)) s := rfl
theorem byteV_int (y : UInt8) : byteV y = .int .u8 (y.toNat : Nat) := rfl

/-- What follows a byte that was read. -/
theorem qCount_rest {K : KX} {kr i n k most : Nat} {u : V} {b : UInt8} {ys : List UInt8} {R2 : RS} {r : List HP} {s : AS} (hi : i ≤ 7) (hn : n < 128 ^ i) (h : Hs G (BytesH u (b :: ys) :: RrH kr R2 :: r) s)
    (c : Nat × RS) (hc : c = if 128 ≤ b.toNat then R2.countL most k (128 * n + b.toNat % 128) else if 9007199254740991 < 128 * n + b.toNat % 128 then (0, R2.fail 9) else if most < 128 * n + b.toNat % 128 then (0, R2.fail 5) else (128 * n + b.toNat % 128, R2))
    (hret : ∀ s', Hs G (RrH kr c.2 :: r) s' → K .ret (jk 4 (V.int .i64 c.1 :: jk 51 [])) s')
    (hnx : 128 ≤ b.toNat → 128 * n + b.toNat % 128 < 128 ^ (i + 1) → c = R2.countL most k (128 * n + b.toNat % 128) → ∀ s', Hs G (RrH kr R2 :: r) s' → K .nrm (V.ptr (some ⟨.new kr, 0⟩) :: V.int .i64 most :: jk 3 (V.int .i64 ((128 * n + b.toNat % 128 : Nat) : Int) :: V.int .i64 ((i + 1 : Nat) : Int) :: jk 49 [])) s') :
    (optK (binV .mul (some (Kd.int .i64)) true (V.int .i64 128) (V.int .i64 n)) s fun t35 s => (optK (elemPtr none 1 u (V.int .i64 0)) s fun t37 s => ((ld1 t37) s fun t38 s =>
 (optK (binV .rem (some (Kd.int .u8)) true t38 (V.int .u8 128)) s fun t39 s => ((cvt (Kd.int .u8) (Kd.int .i64) t39) s fun t40 s =>
 (optK (binV .add (some (Kd.int .i64)) false t35 t40) s fun t41 s => (optK (elemPtr none 1 u (V.int .i64 0)) s fun t43 s => ((ld1 t43) s fun t44 s =>
 (optK (binV .geq (some (Kd.int .u8)) true t44 (V.int .u8 128)) s fun t45 s => (condV t45
 (optK (binV .add (some (Kd.int .i64)) true (V.int .i64 i) (V.int .i64 1)) s fun t14 s => (K .nrm (V.ptr (some ⟨.new kr, 0⟩) :: V.int .i64 most :: jk 3 (t41 :: t14 :: jk 49 [])) s))
 (optK (binV .gtr (some (Kd.int .i64)) true t41 (V.int .i64 9007199254740991)) s fun t47 s => (condV t47
 ((fn146 (V.ptr (some ⟨.new kr, 0⟩)) (V.int .i64 9)) s fun t49 s =>
 (K .ret (jk 4 ((V.int .i64 0) :: (jk 51 []))) s))
 (optK (binV .gtr (some (Kd.int .i64)) false t41 (V.int .i64 most)) s fun t52 s => (condV t52
 ((fn146 (V.ptr (some ⟨.new kr, 0⟩)) (V.int .i64 5)) s fun t54 s =>
 (K .ret (jk 4 ((V.int .i64 0) :: (jk 51 []))) s))
 (K .ret (jk 4 (t41 :: (jk 51 []))) s))))))))))))))) := by
  obtain ⟨p, e1, l1⟩ := rd_elem (h.toRd.rd).toRd (i := 0) (y := b) rfl .i64
  have e1' : elemPtr none 1 u (.int .i64 0) = some (.ptr (some p)) := e1
  have hbl := byte_lt b
  have hpow2 : (128 : Nat) ^ i ≤ 128 ^ 7 := Nat.pow_le_pow_right (by omega) (by omega)
  have hmod : b.toNat % 128 < 128 := Nat.mod_lt _ (by omega)
  have hrem : (b.toNat : Int).tmod 128 = ((b.toNat % 128 : Nat) : Int) := by rw [Int.tmod_eq_emod_of_nonneg (by omega)]; omega
  have wm : IntKind.i64.wrap (128 * (n : Int)) = ((128 * n : Nat) : Int) := by rw [wrap64 (by omega) (by omega)]; omega
  have wc : IntKind.i64.wrap (((b.toNat % 128 : Nat) : Int)) = ((b.toNat % 128 : Nat) : Int) := by rw [wrap64 (by omega) (by omega)]
  have wa : IntKind.i64.wrap (((128 * n : Nat) : Int) + ((b.toNat % 128 : Nat) : Int)) = ((128 * n + b.toNat % 128 : Nat) : Int) := by rw [wrap64 (by omega) (by omega)]; omega
  have w1 : IntKind.i64.wrap ((i : Int) + 1) = ((i + 1 : Nat) : Int) := by rw [wrap64 (by omega) (by omega)]; omega
  obtain ⟨x, hx⟩ : ∃ x, x = 128 * n + b.toNat % 128 := ⟨_, rfl⟩
  rw [bin_mul, optK_some, wm, e1', optK_some, l1, byteV_int, bin_rem, if_neg (by omega), optK_some, hrem, cvt_i, wc, bin_add, optK_some, wa, optK_some, l1, byteV_int, bin_geq, optK_some]
  by_cases h128 : 128 ≤ b.toNat
  · have d : decide ((b.toNat : Int) ≥ 128) = true := decide_eq_true (by omega)
    rw [d, condV_true, bin_add, optK_some, w1]
    rw [if_pos h128] at hc
    have : 128 * n + b.toNat % 128 < 128 ^ (i + 1) := by rw [Nat.pow_succ]; omega
    exact hnx h128 this hc _ h.tail
  · have d : decide ((b.toNat : Int) ≥ 128) = false := decide_eq_false (by omega)
    rw [if_neg h128] at hc
    rw [d, condV_false, bin_gtr, optK_some]
    rw [← hx] at hc ⊢
    by_cases h9 : 9007199254740991 < x
    · have d2 : decide ((x : Int) > 9007199254740991) = true := decide_eq_true (by omega)
      rw [if_pos h9] at hc
      subst hc
      rw [d2, condV_true]
      refine qFail_t 9 h.tail _ ?_
      rintro _ s2 ⟨rfl, h2⟩
      exact hret _ h2
    · have d2 : decide ((x : Int) > 9007199254740991) = false := decide_eq_false (by omega)
      rw [if_neg h9] at hc
      rw [d2, condV_false, bin_gtr, optK_some]
      by_cases hm : most < x
      · have d3 : decide ((x : Int) > (most : Int)) = true := decide_eq_true (by omega)
        rw [if_pos hm] at hc
        subst hc
        rw [d3, condV_true]
        refine qFail_t 5 h.tail _ ?_
        rintro _ s2 ⟨rfl, h2⟩
        exact hret _ h2
      · have d3 : decide ((x : Int) > (most : Int)) = false := decide_eq_false (by omega)
        rw [if_neg hm] at hc
        subst hc
        rw [d3, condV_false]
        exact hret _ h.tail

theorem countL_dead {most k n : Nat} {R : RS} (he : R.e ≠ 0) : R.countL most (k + 1) n = (0, R) := by
  unfold RS.countL
  have : R.raw 1 = ([], R) := by unfold RS.raw; rw [if_pos he]
  rw [this]

theorem qCount_t {kr most : Nat} {R : RS} (hl : R.bs.length ≤ 1099511627776) {r : List HP} {s : AS} (h : Hs G (RrH kr R :: r) s) :
    Ens (fn133 (.ptr (some ⟨.new kr, 0⟩)) (.int .i64 most)) s fun u s' => u = .int .i64 (R.count most).1 ∧ Hs G (RrH kr (R.count most).2 :: r) s' := by
  intro K hK
  unfold fn133 fn133_q
  by_cases he0 : R.e ≠ 0
  · have e : R.count most = (0, R) := countL_dead he0
    refine loop_rule (fun m tm s1 => s1 = s ∧ tm.getD 0 .junk = .ptr (some ⟨.new kr, 0⟩)) ?_ (m := 0) (by omega) ⟨rfl, rfl⟩
    rintro m tm s1 Kn ⟨rfl, t0⟩ hnext
    simp only [t0]
    unfold fn133_L1
    have d0 : ((R.e : Int) == 0) = false := by simp [he0]
    rw [nilV_ptr, optK_some, fp_ptr, optK_some, Nat.zero_add, rr_e h, bin_eql, optK_some, d0, condV_false, nx_exit, exX_exit]
    show exB true _ _
    rw [exB_true]
    refine hK _ _ ?_
    rw [e]; exact ⟨rfl, h⟩
  have he0 : R.e = 0 := by omega
  refine loop_rule (fun m tm s1 => ∃ (n i : Nat) (R1 : RS), m + i = 8 ∧ n < 128 ^ i ∧ R1.e = 0 ∧ R1.bs.length ≤ 1099511627776 ∧ R.count most = R1.countL most m n ∧ Hs G (RrH kr R1 :: r) s1 ∧
    tm.getD 0 .junk = .ptr (some ⟨.new kr, 0⟩) ∧ tm.getD 1 .junk = .int .i64 most ∧ tm.getD 5 .junk = .int .i64 (n : Nat) ∧ tm.getD 6 .junk = .int .i64 (i : Nat)) ?_ (m := 8) (by omega)
    ⟨0, 0, R, by omega, by decide, he0, hl, rfl, h, rfl, rfl, rfl, rfl⟩
  rintro m tm s1 Kn ⟨n, i, R1, hmi, hn, he, hl1, hR, h1, t0, t1, t5, t6⟩ hnext
  simp only [t0, t1, t5, t6]
  unfold fn133_L1
  have d0 : ((R1.e : Int) == 0) = true := by rw [he]; rfl
  rw [nilV_ptr, optK_some, fp_ptr, optK_some, Nat.zero_add, rr_e h1, bin_eql, optK_some, d0, condV_true, bin_eql, optK_some]
  cases m with
  | zero =>
    have d : ((i : Int) == 8) = true := by rw [show i = 8 by omega]; rfl
    rw [d, condV_true]
    refine qFail_t 4 h1 _ ?_
    rintro _ s2 ⟨rfl, h2⟩
    rw [nx_ret, exX_ret]
    have e : R.count most = (0, R1.fail 4) := hR
    refine hK _ _ ?_
    rw [e]; exact ⟨rfl, h2⟩
  | succ k =>
    have d : ((i : Int) == 8) = false := by simp; omega
    rw [d, condV_false]
    refine qRaw_t hl1 h1 _ ?_
    intro u s2 h2
    have hl2 := (raw_len R1 1).1
    have hfull : (R.count most) = match (R1.raw 1).1 with
      | [] => (0, (R1.raw 1).2)
      | b :: _ => if k = 7 ∧ b.toNat = 128 then (0, (R1.raw 1).2.fail 4) else if 128 ≤ b.toNat then (R1.raw 1).2.countL most k (128 * n + b.toNat % 128) else if 9007199254740991 < 128 * n + b.toNat % 128 then (0, (R1.raw 1).2.fail 9)
        else if most < 128 * n + b.toNat % 128 then (0, (R1.raw 1).2.fail 5) else (128 * n + b.toNat % 128, (R1.raw 1).2) := hR
    have hR2e : (R1.raw 1).1 ≠ [] → (R1.raw 1).2.e = 0 := by
      unfold RS.raw
      rw [if_neg (by omega), if_neg (by omega)]
      split
      · intro hh; exact absurd rfl hh
      · intro _; rfl
    obtain ⟨ys, hys⟩ : ∃ ys, ys = (R1.raw 1).1 := ⟨_, rfl⟩
    obtain ⟨R2, hR2⟩ : ∃ R2, R2 = (R1.raw 1).2 := ⟨_, rfl⟩
    rw [← hys, ← hR2] at h2 hfull hR2e
    rw [← hR2] at hl2
    obtain ⟨a, c, ex, hu⟩ := slH_slice h2
    have hlv : lenV (some (Kd.slice 5)) u = some (.int .i64 ys.length) := by rw [hu]; rfl
    rw [hlv, optK_some, bin_eql, optK_some]
    cases ys with
    | nil =>
      show condV (.bool true) _ _
      rw [condV_true, nx_ret, exX_ret]
      refine hK _ _ ?_
      rw [hfull]; exact ⟨rfl, h2.tail⟩
    | cons b ys =>
      dsimp only at hfull
      have hne : (((b :: ys).length : Int) == 0) = false := by simp; omega
      have hbl := byte_lt b
      rw [hne, condV_false, bin_eql, optK_some]
      have hret : ∀ s', Hs G (RrH kr (R.count most).2 :: r) s' → (nx Kn fun e tm s => exX e (fun j1 => (exB (j1 == 0) (K (V.int .i64 0) s) False)) (K (tm.getD 4 .junk) s)) .ret (jk 4 (V.int .i64 (R.count most).1 :: jk 51 [])) s' := fun s' h' => by
        rw [nx_ret, exX_ret]
        exact hK _ _ ⟨rfl, h'⟩
      have hnx : 128 ≤ b.toNat → 128 * n + b.toNat % 128 < 128 ^ (i + 1) → R.count most = R2.countL most k (128 * n + b.toNat % 128) → ∀ s', Hs G (RrH kr R2 :: r) s' →
          (nx Kn fun e tm s => exX e (fun j1 => (exB (j1 == 0) (K (V.int .i64 0) s) False)) (K (tm.getD 4 .junk) s)) .nrm (V.ptr (some ⟨.new kr, 0⟩) :: V.int .i64 most :: jk 3 (V.int .i64 ((128 * n + b.toNat % 128 : Nat) : Int) :: V.int .i64 ((i + 1 : Nat) : Int) :: jk 49 [])) s' := fun _ g1 g2 s' h' => by
        rw [nx_nrm]
        exact hnext k _ _ (by omega) ⟨_, i + 1, R2, by omega, g1, hR2e (by simp), by omega, g2, h', rfl, rfl, rfl, rfl⟩
      by_cases h7 : k = 7
      · have hi0 : i = 0 := by omega
        have d1 : ((i : Int) == 0) = true := by rw [hi0]; rfl
        obtain ⟨p, e1, l1⟩ := rd_elem (h2.toRd.rd).toRd (i := 0) (y := b) rfl .i64
        have e1' : elemPtr none 1 u (.int .i64 0) = some (.ptr (some p)) := e1
        rw [d1, grd_true, e1', optK_some, l1, byteV_int, bin_eql, optK_some]
        by_cases h128 : b.toNat = 128
        · have d2 : ((b.toNat : Int) == 128) = true := by rw [h128]; rfl
          rw [if_pos ⟨h7, h128⟩] at hfull
          rw [d2, condV_true]
          refine qFail_t 4 h2.tail _ ?_
          rintro _ s3 ⟨rfl, h3⟩
          rw [hfull] at hret
          exact hret _ h3
        · have d2 : ((b.toNat : Int) == 128) = false := by simp; omega
          rw [if_neg (fun hh => h128 hh.2)] at hfull
          rw [d2, condV_false, ← e1']
          exact qCount_rest (by omega) hn h2 _ hfull hret hnx
      · have d1 : ((i : Int) == 0) = false := by simp; omega
        rw [if_neg (fun hh => h7 hh.1)] at hfull
        rw [d1, grd_false]
        exact qCount_rest (by omega) hn h2 _ hfull hret hnx

theorem qText_t {kr most : Nat} {R : RS} (hl : R.bs.length ≤ 1099511627776) {r : List HP} {s : AS} (h : Hs G (RrH kr R :: r) s) :
    Ens (fn134 (.ptr (some ⟨.new kr, 0⟩)) (.int .i64 most)) s fun u s' => Hs G (BytesH u (R.text most).1 :: RrH kr (R.text most).2 :: r) s' := by
  intro K hK
  unfold fn134 fn134_q
  refine qCount_t hl h _ ?_
  rintro _ s1 ⟨rfl, h1⟩
  have hl1 := countL_len most 8 0 R
  have hl1' : (R.count most).2.bs.length ≤ R.bs.length := hl1
  rw [nilV_ptr, optK_some, fp_ptr, optK_some, Nat.zero_add, rr_e h1, bin_neq, optK_some]
  by_cases he : (R.count most).2.e = 0
  · have d : (((R.count most).2.e : Int) != 0) = false := by rw [he]; rfl
    have e : R.text most = (R.count most).2.raw (R.count most).1 := by unfold RS.text; rw [if_pos he]
    rw [d, condV_false]
    refine qRaw_t (by omega) h1 _ ?_
    intro u s2 h2
    refine hK _ _ ?_
    rw [e]; exact h2
  · have d : (((R.count most).2.e : Int) != 0) = true := by simp [he]
    have e : R.text most = ([], (R.count most).2) := by unfold RS.text; rw [if_neg he]
    rw [d, condV_true]
    refine hK _ _ ?_
    rw [e]; exact h1.slNil 1 true
theorem qEnd_t {kr : Nat} {R : RS} {r : List HP} {s : AS} (h : Hs G (RrH kr R :: r) s) (K : K0) : fn136 (.ptr (some ⟨.new kr, 0⟩)) s K = K (.int .i64 R.fin) s := by
  unfold fn136 fn136_q
  rw [nilV_ptr, optK_some, fp_ptr, optK_some, Nat.zero_add, rr_e h, bin_eql, optK_some]
  by_cases he : R.e = 0
  · have d : ((R.e : Int) == 0) = true := by rw [he]; rfl
    obtain ⟨vb, h1⟩ := RrH.iff.1 h
    obtain ⟨va, vc, vex, hvb⟩ := (h1.pull 1).rd.sl
    have hlen : lenV (some (Kd.slice 5)) vb = some (.int .i64 R.bs.length) := by rw [hvb]; rfl
    rw [d, grd_true, optK_some, fp_ptr, optK_some, Nat.zero_add, ld_t h1, List.getElem?_cons_zero, optK_some, hlen, optK_some, bin_gtr, optK_some]
    cases hb : R.bs with
    | nil =>
      have e : R.fin = R.e := by unfold RS.fin; rw [if_neg (fun hh => hh.2 hb)]
      show condV (.bool false) _ _ = _
      rw [condV_false, optK_some, fp_ptr, optK_some, Nat.zero_add, rr_e h, e]
    | cons b bs =>
      have e : R.fin = 4 := by unfold RS.fin; rw [if_pos ⟨he, by rw [hb]; simp⟩]
      have d2 : decide (((b :: bs).length : Int) > 0) = true := by simp
      rw [d2, condV_true, e]; rfl
  · have d : ((R.e : Int) == 0) = false := by simp [he]
    have e : R.fin = R.e := by unfold RS.fin; rw [if_neg (fun hh => he hh.1)]
    rw [d, grd_false, optK_some, fp_ptr, optK_some, Nat.zero_add, rr_e h, e]
end Go.Proofs.Vt
end
section
/- SHA-256 by the document's text (package sealchainref02): words. -/
namespace Go.Proofs.Vt
open Go Go.Rx Go.Proofs
variable {G : Nat → Option (List V)}

theorem byteW_toNat (y : UInt8) : (byteW y).toNat = y.toNat := by
  have := byte_lt y
  unfold byteW; rw [BitVec.toNat_ofNat, Nat.mod_eq_of_lt (by omega)]
theorem shl_toNat {x : BitVec 32} {n m : Nat} (h : x.toNat = m) (hb : 2 ^ n * m < 4294967296) : (x <<< n).toNat = 2 ^ n * m := by
  rw [BitVec.toNat_shiftLeft, h, Nat.shiftLeft_eq, Nat.mul_comm, Nat.mod_eq_of_lt hb]
theorem add_or {x y : BitVec 32} {i a b : Nat} (hx : x.toNat = 2 ^ i * a) (hy : y.toNat = b) (hb : b < 2 ^ i) (hs : 2 ^ i * a + b < 4294967296) : x + y = x ||| y := by
  apply BitVec.eq_of_toNat_eq
  rw [BitVec.toNat_add, BitVec.toNat_or, hx, hy, Nat.mod_eq_of_lt hs, Nat.two_pow_add_eq_or_of_lt hb]
theorem or_toNat {x y : BitVec 32} {i a b : Nat} (hx : x.toNat = 2 ^ i * a) (hy : y.toNat = b) (hb : b < 2 ^ i) : (x ||| y).toNat = 2 ^ i * a + b := by
  rw [BitVec.toNat_or, hx, hy, Nat.two_pow_add_eq_or_of_lt hb]
theorem be4_add (a b c d : UInt8) : ((byteW a <<< 24) + (byteW b <<< 16)) + (byteW c <<< 8) + byteW d = (((byteW a <<< 24) ||| (byteW b <<< 16)) ||| (byteW c <<< 8)) ||| byteW d := by
  have ha := byte_lt a; have hb := byte_lt b; have hc := byte_lt c; have hd := byte_lt d
  have ea := shl_toNat (n := 24) (byteW_toNat a) (by omega)
  have eb := shl_toNat (n := 16) (byteW_toNat b) (by omega)
  have ec := shl_toNat (n := 8) (byteW_toNat c) (by omega)
  have ed := byteW_toNat d
  rw [add_or ea eb (by omega) (by omega)]
  have e1 := or_toNat ea eb (by omega)
  have e1' : ((byteW a <<< 24) ||| (byteW b <<< 16)).toNat = 2 ^ 16 * (2 ^ 8 * a.toNat + b.toNat) := by rw [e1]; omega
  rw [add_or e1' ec (by omega) (by omega)]
  have e2 := or_toNat e1' ec (by omega)
  have e2' : (((byteW a <<< 24) ||| (byteW b <<< 16)) ||| (byteW c <<< 8)).toNat = 2 ^ 8 * (2 ^ 8 * (2 ^ 8 * a.toNat + b.toNat) + c.toNat) := by rw [e2]; omega
  rw [add_or e2' ed (by omega) (by omega)]
theorem ch_eq (e f g : BitVec 32) : (e &&& f) ^^^ (~~~e &&& g) = g ^^^ (e &&& (f ^^^ g)) := by
  apply BitVec.eq_of_getLsbD_eq
  intro i hi
  simp only [BitVec.getLsbD_xor, BitVec.getLsbD_and, BitVec.getLsbD_not, hi, decide_true, Bool.true_and]
  cases e.getLsbD i <;> cases f.getLsbD i <;> cases g.getLsbD i <;> rfl
theorem maj_eq (a b c : BitVec 32) : ((a &&& b) ^^^ (a &&& c)) ^^^ (b &&& c) = (a &&& b) ||| (c &&& (a ||| b)) := by
  apply BitVec.eq_of_getLsbD_eq
  intro i hi
  simp only [BitVec.getLsbD_xor, BitVec.getLsbD_and, BitVec.getLsbD_or]
  cases a.getLsbD i <;> cases b.getLsbD i <;> cases c.getLsbD i <;> rfl

theorem qturn_ok (x : BitVec 32) (n : Nat) (hn : n ≤ 32) (s : AS) (K : K0) : fn128 (w32 x) (.int .i64 (n : Nat)) s K = K (w32 (turnW x n)) s := by
  unfold fn128 fn128_q turnW
  have w : IntKind.i64.wrap (32 - (n : Int)) = ((32 - n : Nat) : Int) := by rw [wrap64 (by omega) (by omega)]; omega
  simp only [w_shr _ _ _ x n hn, optK_some, bin_sub, w, w_shl _ _ _ x (32 - n) (by omega), w_or]

theorem qfirst_t {r : List HP} {s : AS} (h : Hs G r s) : Ens fn99 s fun u s' => u = .agg (shaFirst.map w32) ∧ Hs G r s' := by
  intro K hK
  unfold fn99 fn99_q
  refine newC_t h fun k s1 h1 => ?_
  have e : aggO (fillV (fun j => some (j * 1, 1)) [V.int .u32 0, V.int .u32 0, V.int .u32 0, V.int .u32 0, V.int .u32 0, V.int .u32 0, V.int .u32 0, V.int .u32 0] [(0, (V.int .u32 1779033703)), (1, (V.int .u32 3144134277)), (2, (V.int .u32 1013904242)), (3, (V.int .u32 2773480762)), (4, (V.int .u32 1359893119)), (5, (V.int .u32 2600822924)), (6, (V.int .u32 528734635)), (7, (V.int .u32 1541459225))]) = some (.agg (shaFirst.map w32)) := rfl
  rw [e, optK_some]
  refine stAll_t h1 rfl rfl (w32s_flat _) fun s2 h2 => ?_
  rw [peekA_t rfl h2 rfl, rfin1]
  exact hK _ _ ⟨rfl, h2.tail⟩
set_option maxRecDepth 20000 in
theorem qconst_t {r : List HP} {s : AS} (h : Hs G r s) : Ens fn126 s fun u s' => u = .agg (shaRound.map w32) ∧ Hs G r s' := by
  intro K hK
  unfold fn126 fn126_q
  refine newC_t h fun k s1 h1 => ?_
  refine (show ∀ x, x = some (V.agg (shaRound.map w32)) → optK x s1 _ from fun x hx => ?_) _ rfl
  rw [hx, optK_some]
  refine stAll_t h1 rfl rfl (w32s_flat _) fun s2 h2 => ?_
  rw [peekA_t rfl h2 rfl, rfin1]
  exact hK _ _ ⟨rfl, h2.tail⟩

set_option maxHeartbeats 1000000 in
set_option maxRecDepth 20000 in
theorem qwords_loop {K : KX} {s : AS} {kw : Nat} {v t2 : V} {ys : List UInt8} {tm : Tm} {r : List HP} (hr : Reads G r v ys) (hy : 64 ≤ ys.length)
    (hs0 : Hs G (Ob kw (.cells (wCells ys 0) 0) :: r) s) (h0 : tm.getD 0 .junk = v) (h2 : tm.getD 2 .junk = t2) (h3 : tm.getD 3 .junk = .ptr (some ⟨.new kw, 0⟩)) (h4 : tm.getD 4 .junk = .int .i64 0)
    (hK : ∀ tm' s', Hs G (Ob kw (.cells (wCells ys 64) 0) :: r) s' → tm'.getD 2 .junk = t2 → tm'.getD 3 .junk = .ptr (some ⟨.new kw, 0⟩) → K (.exit 0) tm' s') :
    loopN LOOPS (fun tm s K => fn127_L1 fn128 (tm.getD 0 .junk) (tm.getD 2 .junk) (tm.getD 3 .junk) (tm.getD 4 .junk) s K) tm s K := by
  refine loop_rule (fun m tm s1 => ∃ i : Nat, i + m = 64 ∧ Hs G (Ob kw (.cells (wCells ys i) 0) :: r) s1 ∧
      tm.getD 0 .junk = v ∧ tm.getD 2 .junk = t2 ∧ tm.getD 3 .junk = .ptr (some ⟨.new kw, 0⟩) ∧ tm.getD 4 .junk = .int .i64 (i : Nat)) ?_ (m := 64) (by omega) ⟨0, rfl, hs0, h0, h2, h3, h4⟩
  rintro m tm s1 Kn ⟨i, him, hs1, h0, h2, h3, h4⟩ hnext
  simp only [h0, h2, h3, h4]
  unfold fn127_L1
  have hg1 := hs1.get
  have hr1 : Rd s1 v ys := (hr s1 hs1.tail).1.toRd
  rw [bin_lss, optK_some]
  by_cases hi : i < 64
  · have d64 : decide ((i : Int) < 64) = true := by simp; omega
    have wi : IntKind.i64.wrap ((i : Int) + 1) = ((i + 1 : Nat) : Int) := by rw [wrap64 (by omega) (by omega)]; omega
    have est : ∀ (K : K0), st 1 (.ptr (some ⟨.new kw, i⟩)) (w32 (nextW ys (wordsL ys i) i)) s1 K = K undefV (s1.put kw (some (.cells (wCells ys (i + 1)) 0))) := fun K => by
      rw [st1_new hg1 (by rw [wCells_length ys (by omega)]; omega) rfl, wCells_set ys hi]
    obtain ⟨s2, hs2⟩ : ∃ s2, s2 = s1.put kw (some (.cells (wCells ys (i + 1)) 0)) := ⟨_, rfl⟩
    have g2 : Hs G (Ob kw (.cells (wCells ys (i + 1)) 0) :: r) s2 := by rw [hs2]; exact hs1.put _
    simp only [← hs2] at est
    have c0 : elemPtr (some 64) 1 (.ptr (some ⟨.new kw, 0⟩)) (.int .i64 ((i : Nat) : Int)) = some (.ptr (some ⟨.new kw, i⟩)) := by rw [elemA_ok (by omega)]; simp
    rw [d64, condV_true, bin_lss, optK_some]
    by_cases h16 : i < 16
    · have d16 : decide ((i : Int) < 16) = true := by simp; omega
      have m4 : IntKind.i64.wrap (4 * (i : Int)) = ((4 * i : Nat) : Int) := by rw [wrap64 (by omega) (by omega)]; omega
      have a1 : IntKind.i64.wrap (((4 * i : Nat) : Int) + 1) = ((4 * i + 1 : Nat) : Int) := by rw [wrap64 (by omega) (by omega)]; omega
      have a2 : IntKind.i64.wrap (((4 * i : Nat) : Int) + 2) = ((4 * i + 2 : Nat) : Int) := by rw [wrap64 (by omega) (by omega)]; omega
      have a3 : IntKind.i64.wrap (((4 * i : Nat) : Int) + 3) = ((4 * i + 3 : Nat) : Int) := by rw [wrap64 (by omega) (by omega)]; omega
      obtain ⟨p0, e0, l0⟩ := rd_at hr1 (i := 4 * i) (by omega)
      obtain ⟨p1, e1, l1⟩ := rd_at hr1 (i := 4 * i + 1) (by omega)
      obtain ⟨p2, e2, l2⟩ := rd_at hr1 (i := 4 * i + 2) (by omega)
      obtain ⟨p3, e3, l3⟩ := rd_at hr1 (i := 4 * i + 3) (by omega)
      have s24 : ∀ x, binV .shl (some (Kd.int .u32)) true (w32 x) (.int .u64 24) = some (w32 (x <<< 24)) := fun x => w_shl _ _ _ x 24 (by omega)
      have s16 : ∀ x, binV .shl (some (Kd.int .u32)) true (w32 x) (.int .u64 16) = some (w32 (x <<< 16)) := fun x => w_shl _ _ _ x 16 (by omega)
      have s8 : ∀ x, binV .shl (some (Kd.int .u32)) true (w32 x) (.int .u64 8) = some (w32 (x <<< 8)) := fun x => w_shl _ _ _ x 8 (by omega)
      have hv : nextW ys (wordsL ys i) i = ((byteW (ys.getD (4 * i) 0) <<< 24) + (byteW (ys.getD (4 * i + 1) 0) <<< 16)) + (byteW (ys.getD (4 * i + 2) 0) <<< 8) + byteW (ys.getD (4 * i + 3) 0) := by
        unfold nextW; rw [if_pos h16, be4_add]; rfl
      rw [hv] at est
      rw [d16, condV_true, bin_mul, optK_some, m4, e0, optK_some, l0, cvt_byte, s24, optK_some, optK_some, bin_add, optK_some, a1, e1, optK_some, l1, cvt_byte, s16, optK_some, w_add, optK_some, optK_some, bin_add, optK_some, a2, e2, optK_some, l2, cvt_byte, s8, optK_some, w_add, optK_some, optK_some, bin_add, optK_some, a3, e3, optK_some, l3, cvt_byte, w_add, optK_some, c0, optK_some, est, bin_add, optK_some, wi, nx_nrm]
      exact hnext (64 - (i + 1)) _ _ (by omega) ⟨i + 1, by omega, g2, rfl, rfl, rfl, rfl⟩
    · have d16 : decide ((i : Int) < 16) = false := by simp; omega
      have b15 : IntKind.i64.wrap ((i : Int) - 15) = ((i - 15 : Nat) : Int) := by rw [wrap64 (by omega) (by omega)]; omega
      have b2 : IntKind.i64.wrap ((i : Int) - 2) = ((i - 2 : Nat) : Int) := by rw [wrap64 (by omega) (by omega)]; omega
      have b7 : IntKind.i64.wrap ((i : Int) - 7) = ((i - 7 : Nat) : Int) := by rw [wrap64 (by omega) (by omega)]; omega
      have b16 : IntKind.i64.wrap ((i : Int) - 16) = ((i - 16 : Nat) : Int) := by rw [wrap64 (by omega) (by omega)]; omega
      have q15 := wCells_get ys (i := i) (j := i - 15) (by omega)
      have q2 := wCells_get ys (i := i) (j := i - 2) (by omega)
      have q7 := wCells_get ys (i := i) (j := i - 7) (by omega)
      have q16 := wCells_get ys (i := i) (j := i - 16) (by omega)
      have c15 : elemPtr (some 64) 1 (.ptr (some ⟨.new kw, 0⟩)) (.int .i64 ((i - 15 : Nat) : Int)) = some (.ptr (some ⟨.new kw, i - 15⟩)) := by rw [elemA_ok (by omega)]; simp
      have c2 : elemPtr (some 64) 1 (.ptr (some ⟨.new kw, 0⟩)) (.int .i64 ((i - 2 : Nat) : Int)) = some (.ptr (some ⟨.new kw, i - 2⟩)) := by rw [elemA_ok (by omega)]; simp
      have c7 : elemPtr (some 64) 1 (.ptr (some ⟨.new kw, 0⟩)) (.int .i64 ((i - 7 : Nat) : Int)) = some (.ptr (some ⟨.new kw, i - 7⟩)) := by rw [elemA_ok (by omega)]; simp
      have c16 : elemPtr (some 64) 1 (.ptr (some ⟨.new kw, 0⟩)) (.int .i64 ((i - 16 : Nat) : Int)) = some (.ptr (some ⟨.new kw, i - 16⟩)) := by rw [elemA_ok (by omega)]; simp
      have t17 : ∀ x s K, fn128 (w32 x) (.int .i64 17) s K = K (w32 (turnW x 17)) s := fun x s K => qturn_ok x 17 (by omega) s K
      have t19 : ∀ x s K, fn128 (w32 x) (.int .i64 19) s K = K (w32 (turnW x 19)) s := fun x s K => qturn_ok x 19 (by omega) s K
      have t7 : ∀ x s K, fn128 (w32 x) (.int .i64 7) s K = K (w32 (turnW x 7)) s := fun x s K => qturn_ok x 7 (by omega) s K
      have t18 : ∀ x s K, fn128 (w32 x) (.int .i64 18) s K = K (w32 (turnW x 18)) s := fun x s K => qturn_ok x 18 (by omega) s K
      have r10 : ∀ x, binV .shr (some (Kd.int .u32)) true (w32 x) (.int .u64 10) = some (w32 (x >>> 10)) := fun x => w_shr _ _ _ x 10 (by omega)
      have r3 : ∀ x, binV .shr (some (Kd.int .u32)) true (w32 x) (.int .u64 3) = some (w32 (x >>> 3)) := fun x => w_shr _ _ _ x 3 (by omega)
      have hv : nextW ys (wordsL ys i) i = (((turnW ((wordsL ys i).getD (i - 2) 0) 17 ^^^ turnW ((wordsL ys i).getD (i - 2) 0) 19) ^^^ ((wordsL ys i).getD (i - 2) 0 >>> 10)) + (wordsL ys i).getD (i - 7) 0 +
          ((turnW ((wordsL ys i).getD (i - 15) 0) 7 ^^^ turnW ((wordsL ys i).getD (i - 15) 0) 18) ^^^ ((wordsL ys i).getD (i - 15) 0 >>> 3))) + (wordsL ys i).getD (i - 16) 0 := by unfold nextW; rw [if_neg h16]
      rw [hv] at est
      obtain ⟨y, hy'⟩ : ∃ y, y = (wordsL ys i).getD (i - 2) 0 := ⟨_, rfl⟩
      obtain ⟨x, hx'⟩ : ∃ x, x = (wordsL ys i).getD (i - 15) 0 := ⟨_, rfl⟩
      obtain ⟨z, hz'⟩ : ∃ z, z = (wordsL ys i).getD (i - 7) 0 := ⟨_, rfl⟩
      obtain ⟨u, hu'⟩ : ∃ u, u = (wordsL ys i).getD (i - 16) 0 := ⟨_, rfl⟩
      rw [← hy', ← hx', ← hz', ← hu'] at est
      rw [← hx'] at q15
      rw [← hy'] at q2
      rw [← hz'] at q7
      rw [← hu'] at q16
      clear hv hy' hx' hz' hu'
      rw [d16, condV_false]
      rw [bin_sub, optK_some, b15, c15, optK_some, ld1_new hg1, q15, optK_some]
      rw [bin_sub, optK_some, b2, c2, optK_some, ld1_new hg1, q2, optK_some]
      rw [t7, t18, w_xor, optK_some, r3, optK_some, w_xor, optK_some, t17, t19, w_xor, optK_some, r10, optK_some, w_xor, optK_some]
      rw [bin_sub, optK_some, b7, c7, optK_some, ld1_new hg1, q7, optK_some]
      rw [w_add, optK_some, w_add, optK_some]
      rw [bin_sub, optK_some, b16, c16, optK_some, ld1_new hg1, q16, optK_some]
      rw [w_add, optK_some, c0, optK_some, est, bin_add, optK_some, wi, nx_nrm]
      exact hnext (64 - (i + 1)) _ _ (by omega) ⟨i + 1, by omega, g2, rfl, rfl, rfl, rfl⟩
  · have : i = 64 := by omega
    subst this
    have d64 : decide (((64 : Nat) : Int) < 64) = false := by decide
    rw [d64, condV_false, nx_exit]
    exact hK _ _ hs1 rfl rfl

theorem wCells_full (ys : List UInt8) : wCells ys 64 = (wordsL ys 64).map w32 := by unfold wCells; rw [Nat.sub_self, List.replicate_zero, List.append_nil]
theorem wWords_length (ys : List UInt8) : ((wordsL ys 64).map w32).length = 64 := by rw [List.length_map, wordsL_length]
set_option maxRecDepth 20000 in
theorem qwords_t {v : V} {ys : List UInt8} {r : List HP} {s : AS} (hr : Reads G r v ys) (hy : 64 ≤ ys.length) (h : Hs G r s) :
    Ens (fn127 v) s fun u s' => u = .agg ((wordsL ys 64).map w32) ∧ Hs G r s' := by
  intro K hK
  unfold fn127 fn127_q
  refine newC_t h fun ko s1 h1 => ?_
  refine newC_t h1 fun kw s2 h2 => ?_
  have h2' : Hs G (Ob kw (.cells (wCells ys 0) 0) :: Ob ko (.cells (wCells ys 0) 0) :: r) s2 := h2
  clear h2
  refine qwords_loop (t2 := .ptr (some ⟨.new ko, 0⟩)) (r := _ :: r) hr.cons hy h2' rfl rfl rfl rfl ?_
  intro tm s3 h3 e2 e3
  rw [exX_exit]
  show exB true _ _
  rw [exB_true, e2, e3]
  rw [wCells_full] at h3
  obtain ⟨w, hw⟩ : ∃ w, w = (wordsL ys 64).map w32 := ⟨_, rfl⟩
  have hl := wWords_length ys
  have hf := w32s_flat (wordsL ys 64)
  rw [← hw] at h3 hK hl hf
  rw [ldAll_t h3 hl]
  refine stAll_t (h3.pull 1) (wCells_length ys (by omega)) hl hf fun s4 h4 => ?_
  rw [peekA_t rfl h4 hl, rfin1]
  exact hK _ _ ⟨rfl, h4.tail.tail⟩
end Go.Proofs.Vt
end
section
/- SHA-256 by the document's text: blocks, digests. -/
namespace Go.Proofs.Vt
open Go Go.Rx Go.Proofs
variable {G : Nat → Option (List V)}

theorem w_not (x : BitVec 32) : unV .xor (w32 x) = some (w32 (~~~x)) := by
  have e : unV .xor (w32 x) = binV .xor none false (w32 (BitVec.allOnes 32)) (w32 x) := rfl
  rw [e, w_xor, BitVec.allOnes_xor]

set_option maxHeartbeats 2000000 in
set_option maxRecDepth 20000 in
theorem qblock_loop1 {K : KX} {s : AS} {kx kk kw : Nat} {t2 t4 : V} {ys : List UInt8} {wl : List (BitVec 32)} (hwl : wl = wordsL ys 64) (hwll : wl.length = 64) {tm : Tm} {r : List HP} {v : R8}
    (hs : Hs G (Ob kx (.cells (v.l.map w32) 0) :: Ob kk (.cells (shaRound.map w32) 0) :: Ob kw (.cells (wl.map w32) 0) :: r) s)
    (h2 : tm.getD 2 .junk = t2) (h4 : tm.getD 4 .junk = t4) (h5 : tm.getD 5 .junk = .ptr (some ⟨.new kk, 0⟩)) (h6 : tm.getD 6 .junk = .ptr (some ⟨.new kw, 0⟩)) (h7 : tm.getD 7 .junk = .ptr (some ⟨.new kx, 0⟩)) (h8 : tm.getD 8 .junk = .int .i64 0)
    (hK : ∀ tm' s', Hs G (Ob kx (.cells ((rounds ys v 64).l.map w32) 0) :: Ob kk (.cells (shaRound.map w32) 0) :: Ob kw (.cells (wl.map w32) 0) :: r) s' → tm'.getD 2 .junk = t2 → tm'.getD 4 .junk = t4 → tm'.getD 7 .junk = .ptr (some ⟨.new kx, 0⟩) → K (.exit 0) tm' s') :
    loopN LOOPS (fun tm s K => fn100_L1 fn126 fn127 fn128 (tm.getD 2 .junk) (tm.getD 4 .junk) (tm.getD 5 .junk) (tm.getD 6 .junk) (tm.getD 7 .junk) (tm.getD 8 .junk) s K) tm s K := by
  refine loop_rule (fun m tm s1 => ∃ i : Nat, i + m = 64 ∧ Hs G (Ob kx (.cells ((rounds ys v i).l.map w32) 0) :: Ob kk (.cells (shaRound.map w32) 0) :: Ob kw (.cells (wl.map w32) 0) :: r) s1 ∧
    tm.getD 2 .junk = t2 ∧ tm.getD 4 .junk = t4 ∧ tm.getD 5 .junk = .ptr (some ⟨.new kk, 0⟩) ∧ tm.getD 6 .junk = .ptr (some ⟨.new kw, 0⟩) ∧ tm.getD 7 .junk = .ptr (some ⟨.new kx, 0⟩) ∧ tm.getD 8 .junk = .int .i64 (i : Nat)) ?_
    (m := 64) (by omega) ⟨0, rfl, hs, h2, h4, h5, h6, h7, h8⟩
  rintro m tm s1 Kn ⟨i, him, hs1, h2, h4, h5, h6, h7, h8⟩ hnext
  simp only [h2, h4, h5, h6, h7, h8]
  unfold fn100_L1
  rw [bin_lss, optK_some]
  by_cases hi64 : i < 64
  · have d64 : decide ((i : Int) < 64) = true := by simp; omega
    have wi : IntKind.i64.wrap ((i : Int) + 1) = ((i + 1 : Nat) : Int) := by rw [wrap64 (by omega) (by omega)]; omega
    obtain ⟨k, hk⟩ : ∃ k, k = shaRound.getD i 0 := ⟨_, rfl⟩
    obtain ⟨w, hw⟩ : ∃ w, w = wl.getD i 0 := ⟨_, rfl⟩
    have hrd : rounds ys v (i + 1) = rnd k w (rounds ys v i) := by rw [hk, hw, hwl]; rfl
    obtain ⟨x, hx⟩ : ∃ x, x = rounds ys v i := ⟨_, rfl⟩
    rw [← hx] at hrd hs1
    have hkk := hs1.pull 1
    have hww := hs1.pull 2
    have qk : (shaRound.map w32)[i]? = some (w32 k) := by rw [w_cell (show i < shaRound.length from hi64), ← hk]
    have qw : (wl.map w32)[i]? = some (w32 w) := by rw [w_cell (by omega), ← hw]
    have ck : elemPtr (some 64) 1 (.ptr (some ⟨.new kk, 0⟩)) (.int .i64 (i : Nat)) = some (.ptr (some ⟨.new kk, i⟩)) := by rw [elemA_ok hi64]; simp
    have cw : elemPtr (some 64) 1 (.ptr (some ⟨.new kw, 0⟩)) (.int .i64 (i : Nat)) = some (.ptr (some ⟨.new kw, i⟩)) := by rw [elemA_ok hi64]; simp
    have c0 : elemPtr (some 8) 1 (.ptr (some ⟨.new kx, 0⟩)) (.int .i64 0) = some (.ptr (some ⟨.new kx, 0⟩)) := rfl
    have c1 : elemPtr (some 8) 1 (.ptr (some ⟨.new kx, 0⟩)) (.int .i64 1) = some (.ptr (some ⟨.new kx, 1⟩)) := rfl
    have c2 : elemPtr (some 8) 1 (.ptr (some ⟨.new kx, 0⟩)) (.int .i64 2) = some (.ptr (some ⟨.new kx, 2⟩)) := rfl
    have c3 : elemPtr (some 8) 1 (.ptr (some ⟨.new kx, 0⟩)) (.int .i64 3) = some (.ptr (some ⟨.new kx, 3⟩)) := rfl
    have c4 : elemPtr (some 8) 1 (.ptr (some ⟨.new kx, 0⟩)) (.int .i64 4) = some (.ptr (some ⟨.new kx, 4⟩)) := rfl
    have c5 : elemPtr (some 8) 1 (.ptr (some ⟨.new kx, 0⟩)) (.int .i64 5) = some (.ptr (some ⟨.new kx, 5⟩)) := rfl
    have c6 : elemPtr (some 8) 1 (.ptr (some ⟨.new kx, 0⟩)) (.int .i64 6) = some (.ptr (some ⟨.new kx, 6⟩)) := rfl
    have c7 : elemPtr (some 8) 1 (.ptr (some ⟨.new kx, 0⟩)) (.int .i64 7) = some (.ptr (some ⟨.new kx, 7⟩)) := rfl
    have q0 : (x.l.map w32)[0]? = some (w32 x.a) := rfl
    have q1 : (x.l.map w32)[1]? = some (w32 x.b) := rfl
    have q2 : (x.l.map w32)[2]? = some (w32 x.c) := rfl
    have q3 : (x.l.map w32)[3]? = some (w32 x.d) := rfl
    have q4 : (x.l.map w32)[4]? = some (w32 x.e) := rfl
    have q5 : (x.l.map w32)[5]? = some (w32 x.f) := rfl
    have q6 : (x.l.map w32)[6]? = some (w32 x.g) := rfl
    have q7 : (x.l.map w32)[7]? = some (w32 x.h) := rfl
    have h7' := holds_t (ti := ti145) rfl hs1 q7 (sameV_w32 _)
    have h5' := holds_t (ti := ti145) rfl hs1 q5 (sameV_w32 _)
    have h6' := holds_t (ti := ti145) rfl hs1 q6 (sameV_w32 _)
    have h1' := holds_t (ti := ti145) rfl hs1 q1 (sameV_w32 _)
    have h2' := holds_t (ti := ti145) rfl hs1 q2 (sameV_w32 _)
    have hk' := holds_t (ti := ti145) rfl hkk qk (sameV_w32 _)
    have hw' := holds_t (ti := ti145) rfl hww qw (sameV_w32 _)
    have l0 := fun K => (ld_t hs1 (o := 0) K).trans (by rw [q0, optK_some])
    have l1 := fun K => (ld_t hs1 (o := 1) K).trans (by rw [q1, optK_some])
    have l2 := fun K => (ld_t hs1 (o := 2) K).trans (by rw [q2, optK_some])
    have l3 := fun K => (ld_t hs1 (o := 3) K).trans (by rw [q3, optK_some])
    have l4 := fun K => (ld_t hs1 (o := 4) K).trans (by rw [q4, optK_some])
    have l5 := fun K => (ld_t hs1 (o := 5) K).trans (by rw [q5, optK_some])
    have l6 := fun K => (ld_t hs1 (o := 6) K).trans (by rw [q6, optK_some])
    have l7 := fun K => (ld_t hs1 (o := 7) K).trans (by rw [q7, optK_some])
    have lk := fun K => (ld_t hkk (o := i) K).trans (by rw [qk, optK_some])
    have lw := fun K => (ld_t hww (o := i) K).trans (by rw [qw, optK_some])
    have tn : ∀ y (n : Nat) s K, n ≤ 32 → fn128 (w32 y) (.int .i64 (n : Nat)) s K = K (w32 (turnW y n)) s := fun y n s K hn => qturn_ok y n hn s K
    have t6 : ∀ y s K, fn128 (w32 y) (.int .i64 6) s K = K (w32 (turnW y 6)) s := fun y s K => tn y 6 s K (by omega)
    have t11 : ∀ y s K, fn128 (w32 y) (.int .i64 11) s K = K (w32 (turnW y 11)) s := fun y s K => tn y 11 s K (by omega)
    have t25 : ∀ y s K, fn128 (w32 y) (.int .i64 25) s K = K (w32 (turnW y 25)) s := fun y s K => tn y 25 s K (by omega)
    have t2' : ∀ y s K, fn128 (w32 y) (.int .i64 2) s K = K (w32 (turnW y 2)) s := fun y s K => tn y 2 s K (by omega)
    have t13 : ∀ y s K, fn128 (w32 y) (.int .i64 13) s K = K (w32 (turnW y 13)) s := fun y s K => tn y 13 s K (by omega)
    have t22 : ∀ y s K, fn128 (w32 y) (.int .i64 22) s K = K (w32 (turnW y 22)) s := fun y s K => tn y 22 s K (by omega)
    rw [d64, condV_true, c0, optK_some, l0, c4, optK_some, l4, c7, optK_some, l7, t6, h7', chkB_true, t11, h7', chkB_true, w_xor, optK_some, t25, h7', chkB_true, w_xor, optK_some, w_add, optK_some]
    rw [c5, optK_some, l5, h5', chkB_true, chkB_true, chkB_true, w_and, optK_some, w_not, optK_some, c6, optK_some, l6, h6', chkB_true, chkB_true, chkB_true, w_and, optK_some, w_xor, optK_some, ch_eq, w_add, optK_some]
    rw [ck, optK_some, lk, hk', chkB_true, chkB_true, chkB_true, w_add, optK_some, cw, optK_some, lw, hw', chkB_true, chkB_true, chkB_true, w_add, optK_some]
    rw [t2', t13, w_xor, optK_some, t22, w_xor, optK_some, c1, optK_some, l1, h1', chkB_true, chkB_true, chkB_true, w_and, optK_some, c2, optK_some, l2, h2', chkB_true, chkB_true, chkB_true, w_and, optK_some, w_xor, optK_some]
    rw [optK_some, l1, h1', chkB_true, chkB_true, chkB_true, optK_some, l2, h2', chkB_true, chkB_true, chkB_true, w_and, optK_some, w_xor, optK_some, maj_eq, w_add, optK_some, w_add, optK_some]
    rw [optK_some, l1, optK_some, l2, c3, optK_some, l3, w_add, optK_some, optK_some, l5, optK_some, l6]
    have hag : aggO (fillV (fun j => some (j * 1, 1)) [V.int .u32 0, V.int .u32 0, V.int .u32 0, V.int .u32 0, V.int .u32 0, V.int .u32 0, V.int .u32 0, V.int .u32 0]
      [(0, w32 (rT k w x + rU x)), (1, w32 x.a), (2, w32 x.b), (3, w32 x.c), (4, w32 (x.d + rT k w x)), (5, w32 x.e), (6, w32 x.f), (7, w32 x.g)]) = some (.agg ((rnd k w x).l.map w32)) := rfl
    unfold rT rU at hag
    rw [hag, optK_some]
    refine stAll_t hs1 rfl rfl (w32s_flat _) fun s2 hs2 => ?_
    rw [bin_add, optK_some, wi, nx_nrm]
    rw [← hrd] at hs2
    exact hnext (64 - (i + 1)) _ _ (by omega) ⟨i + 1, by omega, hs2, rfl, rfl, rfl, rfl, rfl, rfl⟩
  · have : i = 64 := by omega
    subst this
    have d64 : decide (((64 : Nat) : Int) < 64) = false := by decide
    rw [d64, condV_false, nx_exit]
    exact hK _ _ hs1 rfl rfl rfl

theorem qblock_loop2 {K : KX} {s : AS} {kv kx : Nat} {t4 : V} {v x : List (BitVec 32)} {tm : Tm} {r : List HP} (hv : v.length = 8) (hx : x.length = 8) (hs : Hs G (Ob kv (.cells (v.map w32) 0) :: Ob kx (.cells (x.map w32) 0) :: r) s)
    (h2 : tm.getD 2 .junk = .ptr (some ⟨.new kv, 0⟩)) (h4 : tm.getD 4 .junk = t4) (h7 : tm.getD 7 .junk = .ptr (some ⟨.new kx, 0⟩)) (h13 : tm.getD 13 .junk = .int .i64 0)
    (hK : ∀ tm' s', Hs G (Ob kv (.cells ((addW v x 8).map w32) 0) :: Ob kx (.cells (x.map w32) 0) :: r) s' → tm'.getD 2 .junk = .ptr (some ⟨.new kv, 0⟩) → tm'.getD 4 .junk = t4 → K (.exit 2) tm' s') :
    loopN LOOPS (fun tm s K => fn100_L2 fn126 fn127 fn128 (tm.getD 2 .junk) (tm.getD 4 .junk) (tm.getD 7 .junk) (tm.getD 13 .junk) s K) tm s K := by
  refine loop_rule (fun m tm s1 => ∃ i : Nat, i + m = 8 ∧ Hs G (Ob kv (.cells ((addW v x i).map w32) 0) :: Ob kx (.cells (x.map w32) 0) :: r) s1 ∧ tm.getD 2 .junk = .ptr (some ⟨.new kv, 0⟩) ∧ tm.getD 4 .junk = t4 ∧ tm.getD 7 .junk = .ptr (some ⟨.new kx, 0⟩) ∧ tm.getD 13 .junk = .int .i64 (i : Nat)) ?_
    (m := 8) (by omega) ⟨0, rfl, by rw [addW_zero hv]; exact hs, h2, h4, h7, h13⟩
  rintro m tm s1 Kn ⟨i, him, hs1, h2, h4, h7, h13⟩ hnext
  simp only [h2, h4, h7, h13]
  unfold fn100_L2
  rw [bin_lss, optK_some]
  by_cases hi8 : i < 8
  · have d8 : decide ((i : Int) < 8) = true := by simp; omega
    have wi : IntKind.i64.wrap ((i : Int) + 1) = ((i + 1 : Nat) : Int) := by rw [wrap64 (by omega) (by omega)]; omega
    have cv : elemPtr (some 8) 1 (.ptr (some ⟨.new kv, 0⟩)) (.int .i64 (i : Nat)) = some (.ptr (some ⟨.new kv, i⟩)) := by rw [elemA_ok hi8]; simp
    have cx : elemPtr (some 8) 1 (.ptr (some ⟨.new kx, 0⟩)) (.int .i64 (i : Nat)) = some (.ptr (some ⟨.new kx, i⟩)) := by rw [elemA_ok hi8]; simp
    have q : ((addW v x i).map w32)[i]? = some (w32 (v.getD i 0)) := by rw [w_cell (by simp; omega), addW_get v x i hi8, if_neg (Nat.lt_irrefl i)]
    have qx : (x.map w32)[i]? = some (w32 (x.getD i 0)) := w_cell (by omega)
    rw [d8, condV_true, cv, optK_some, ld_t hs1, q, optK_some, cx, optK_some, ld_t (hs1.pull 1), qx, optK_some, w_add, optK_some, optK_some]
    refine st_t hs1 (by simp; omega) rfl fun s2 hs2 => ?_
    rw [bin_add, optK_some, wi, nx_nrm]
    have e : ((addW v x i).map w32).set i (w32 (v.getD i 0 + x.getD i 0)) = (addW v x (i + 1)).map w32 := by rw [← addW_set v x hi8, List.map_set]
    rw [e] at hs2
    exact hnext (8 - (i + 1)) _ _ (by omega) ⟨i + 1, by omega, hs2, rfl, rfl, rfl, rfl⟩
  · have : i = 8 := by omega
    subst this
    have d8 : decide (((8 : Nat) : Int) < 8) = false := by decide
    rw [d8, condV_false, nx_exit]
    exact hK _ _ hs1 rfl rfl

theorem qwords_t' {v : V} {ys : List UInt8} {r : List HP} {s : AS} (hr : Reads G r v ys) (hy : 64 ≤ ys.length) (h : Hs G r s) :
    Ens (fn127 v) s fun u s' => ∃ wl, wl = wordsL ys 64 ∧ wl.length = 64 ∧ u = .agg (wl.map w32) ∧ Hs G r s' := fun K hK =>
  qwords_t hr hy h _ fun u s' hh => hK _ _ ⟨_, rfl, wordsL_length ys 64, hh.1, hh.2⟩
theorem takeF_of {vs : List (BitVec 32)} {ys : List UInt8} {x : R8} (h : x = rounds ys (r8 vs) 64) : takeF vs ys = addW vs x.l 8 := by rw [h]; rfl

set_option maxRecDepth 20000 in
theorem qblock_t {v : V} {ys : List UInt8} {vs : List (BitVec 32)} {r : List HP} {s : AS} (hr : Reads G r v ys) (hy : 64 ≤ ys.length) (hv : vs.length = 8) (h : Hs G r s) :
    Ens (fn100 (.agg (vs.map w32)) v) s fun u s' => u = .agg ((takeF vs ys).map w32) ∧ Hs G r s' := by
  intro K hK
  unfold fn100 fn100_q
  refine boxA_t h fun kv s1 h1 => ?_
  refine newC_t h1 fun ko s2 h2 => ?_
  refine qconst_t h2 _ ?_
  rintro _ s3 ⟨rfl, h3⟩
  refine qwords_t' ((hr.cons (A := Ob kv (.cells (vs.map w32) 0))).cons (A := Ob ko (.cells ((List.replicate 8 (0 : BitVec 32)).map w32) 0))) hy h3 _ ?_
  rintro _ s4 ⟨wl, hwl, hwll, rfl, h4⟩
  refine newC_t h4 fun kk s5 h5 => ?_
  refine newC_t h5 fun kw s6 h6 => ?_
  refine stAll_t (h6.pull 1) rfl rfl (w32s_flat _) fun s7 h7 => ?_
  refine stAll_t (h7.pull 1) rfl (by simp [hwll]) (w32s_flat _) fun s8 h8 => ?_
  rw [ldAll_t (h8.pull 3) (by simp [hv])]
  refine newC_t h8 fun kx s9 h9 => ?_
  refine stAll_t h9 rfl (by simp [hv]) (w32s_flat _) fun s10 h10 => ?_
  have evs : vs = (r8 vs).l := by
    match vs, hv with
    | [a, b, c, d, e, f, g, h], _ => rfl
  have h11 : Hs G (Ob kx (.cells ((r8 vs).l.map w32) 0) :: Ob kk (.cells (shaRound.map w32) 0) :: Ob kw (.cells (wl.map w32) 0) :: Ob ko (.cells ((List.replicate 8 (0 : BitVec 32)).map w32) 0) :: Ob kv (.cells (vs.map w32) 0) :: r) s10 := by
    rw [← evs]; exact h10.ord [0, 2, 1, 3]
  refine qblock_loop1 hwl hwll (t2 := .ptr (some ⟨.new kv, 0⟩)) (t4 := .ptr (some ⟨.new ko, 0⟩)) h11 rfl rfl rfl rfl rfl rfl ?_
  intro tm s12 h12 e2 e4 e7
  obtain ⟨x, hx⟩ : ∃ x, x = rounds ys (r8 vs) 64 := ⟨_, rfl⟩
  rw [← hx] at h12
  rw [exX_exit]
  show exB true _ _
  rw [exB_true, e2, e4, e7]
  refine qblock_loop2 (t4 := .ptr (some ⟨.new ko, 0⟩)) (x := x.l) hv rfl (h12.ord [4, 0]) rfl rfl rfl rfl ?_
  intro tm2 s13 h13 g2 g4
  rw [exX_exit]
  show exB true _ _
  rw [exB_true, g2, g4, ldAll_t h13 (by simp)]
  refine stAll_t (h13.pull 4) (by simp) (by simp) (w32s_flat _) fun s14 h14 => ?_
  rw [peekA_t rfl h14 (by simp), rfin1]
  exact hK _ _ ⟨by rw [takeF_of hx], h14.drop 0 |>.drop 0 |>.drop 0 |>.drop 0 |>.drop 0⟩

/-! ### a block is its first 64 bytes -/
theorem nextW_congr {ys zs : List UInt8} (h : ∀ j, j < 64 → ys.getD j 0 = zs.getD j 0) (l : List (BitVec 32)) (i : Nat) : nextW ys l i = nextW zs l i := by
  unfold nextW
  by_cases hi : i < 16
  · rw [if_pos hi, if_pos hi]
    unfold be4
    rw [h _ (by omega), h _ (by omega), h _ (by omega), h _ (by omega)]
  · rw [if_neg hi, if_neg hi]
theorem wordsL_congr {ys zs : List UInt8} (h : ∀ j, j < 64 → ys.getD j 0 = zs.getD j 0) : ∀ i, wordsL ys i = wordsL zs i
  | 0 => rfl
  | i + 1 => by
    have ih := wordsL_congr h i
    show wordsL ys i ++ [nextW ys (wordsL ys i) i] = wordsL zs i ++ [nextW zs (wordsL zs i) i]
    rw [ih, nextW_congr h]
theorem rounds_congr {ys zs : List UInt8} (h : ∀ j, j < 64 → ys.getD j 0 = zs.getD j 0) (r : R8) : ∀ i, rounds ys r i = rounds zs r i
  | 0 => rfl
  | i + 1 => by
    have ih := rounds_congr h r i
    have hw := wordsL_congr h 64
    show rnd (shaRound.getD i 0) ((wordsL ys 64).getD i 0) (rounds ys r i) = rnd (shaRound.getD i 0) ((wordsL zs 64).getD i 0) (rounds zs r i)
    rw [ih, hw]
theorem takeF_congr {ys zs : List UInt8} (v : List (BitVec 32)) (h : ∀ j, j < 64 → ys.getD j 0 = zs.getD j 0) : takeF v ys = takeF v zs := by unfold takeF; rw [rounds_congr h]
theorem takeF_take (v : List (BitVec 32)) (ys : List UInt8) : takeF v (ys.take 64) = takeF v ys :=
  takeF_congr v fun j hj => by rw [List.getD_eq_getElem?_getD, List.getD_eq_getElem?_getD, List.getElem?_take_of_lt hj]
theorem takeF_append (v : List (BitVec 32)) {ys : List UInt8} (zs : List UInt8) (h : 64 ≤ ys.length) : takeF v (ys ++ zs) = takeF v ys :=
  takeF_congr v fun j hj => by rw [List.getD_eq_getElem?_getD, List.getD_eq_getElem?_getD, List.getElem?_append_left (by omega)]
theorem absorb_append : ∀ (n : Nat) (v : List (BitVec 32)) (ys zs : List UInt8), 64 * n ≤ ys.length → absorb n v (ys ++ zs) = absorb n v ys
  | 0, _, _, _, _ => rfl
  | n + 1, v, ys, zs, h => by
    unfold absorb
    rw [takeF_append v zs (by omega), List.drop_append_of_le_length (by omega), absorb_append n _ _ _ (by rw [List.length_drop]; omega)]
theorem absorb_add : ∀ (a b : Nat) (v : List (BitVec 32)) (ys : List UInt8), absorb (a + b) v ys = absorb b (absorb a v ys) (ys.drop (64 * a))
  | 0, b, v, ys => by rw [Nat.zero_add]; rfl
  | a + 1, b, v, ys => by
    rw [Nat.add_right_comm, absorb, absorb, absorb_add a b, List.drop_drop]
    congr 2; omega
/-- The digest, as the document has it. -/
theorem shaF_eq (ys : List UInt8) : shaF ys = digF (absorb ((ys ++ padF ys.length).length / 64) shaFirst (ys ++ padF ys.length)) := by
  unfold shaF sumF
  have e1 : (if ys.length < 64 then shaFirst else absorb (ys.length / 64) shaFirst ys) = absorb (ys.length / 64) shaFirst ys := by
    split
    · rename_i h
      rw [show ys.length / 64 = 0 by omega]; rfl
    · rfl
  rw [e1]
  obtain ⟨n, hn⟩ : ∃ n, n = ys.length / 64 := ⟨_, rfl⟩
  obtain ⟨p, hp⟩ : ∃ p, p = padF ys.length := ⟨_, rfl⟩
  rw [← hn, ← hp]
  have hle : 64 * n ≤ ys.length := by omega
  have e2 : ys.drop (64 * n) ++ p = (ys ++ p).drop (64 * n) := (List.drop_append_of_le_length hle).symm
  rw [e2, ← absorb_append n shaFirst ys p hle, ← absorb_add]
  have e3 : n + ((ys ++ p).drop (64 * n)).length / 64 = (ys ++ p).length / 64 := by
    rw [List.length_drop, List.length_append]; omega
  rw [e3]
end Go.Proofs.Vt
end
section
/- SHA-256 by the document's text: a text's digest. -/
namespace Go.Proofs.Vt
open Go Go.Rx Go.Proofs
variable {G : Nat → Option (List V)}

abbrev S02_L1 := fn51_L1 fn54 fn99 fn100
abbrev S02_L2 := fn51_L2 fn54 fn99 fn100
abbrev S02_L3 := fn51_L3 fn54 fn99 fn100
abbrev S02_L4 := fn51_L4 fn54 fn99 fn100

theorem qsum_loop1 {K : KX} {s : AS} {t0 t2 pv : V} {ys : List UInt8} {tm : Tm} {r : List HP} (hm : ys.length ≤ 1073741824)
    (h : Hs G (BytesH pv (ys ++ [128]) :: r) s) (h0 : tm.getD 0 .junk = t0) (h2 : tm.getD 2 .junk = t2) (h3 : tm.getD 3 .junk = pv)
    (hK : ∀ tm' s' pv', Hs G (BytesH pv' (ys ++ 128 :: List.replicate (zeroN ys.length) 0) :: r) s' → tm'.getD 0 .junk = t0 → tm'.getD 2 .junk = t2 → tm'.getD 3 .junk = pv' → K (.exit 0) tm' s') :
    loopN LOOPS (fun tm s K => S02_L1 (tm.getD 0 .junk) (tm.getD 2 .junk) (tm.getD 3 .junk) s K) tm s K := by
  refine loop_rule (fun m tm s1 => ∃ (j : Nat) (pv : V), j + m = zeroN ys.length ∧ Hs G (BytesH pv (ys ++ 128 :: List.replicate j 0) :: r) s1 ∧
    tm.getD 0 .junk = t0 ∧ tm.getD 2 .junk = t2 ∧ tm.getD 3 .junk = pv) ?_ (m := zeroN ys.length) (by unfold zeroN; omega) ⟨0, pv, by omega, h, h0, h2, h3⟩
  rintro m tm s1 Kn ⟨j, pv, hj, h1, h0, h2, h3⟩ hnext
  simp only [h0, h2, h3]
  unfold S02_L1 fn51_L1
  have hz : zeroN ys.length < 64 := by unfold zeroN; omega
  obtain ⟨a, c, ex, hpv⟩ := slH_slice h1
  have hlen : (ys ++ 128 :: List.replicate j (0 : UInt8)).length = ys.length + 1 + j := by simp; omega
  have hlv : lenV (some (Kd.slice 5)) pv = some (.int .i64 ((ys.length + 1 + j : Nat) : Int)) := by rw [hpv, ← hlen]; rfl
  have hrem : binV .rem (some (Kd.int .i64)) true (.int .i64 ((ys.length + 1 + j : Nat) : Int)) (.int .i64 64) = some (.int .i64 (((ys.length + 1 + j) % 64 : Nat) : Int)) := by
    simp only [bin_rem]; rw [if_neg (by decide), Int.tmod_eq_emod_of_nonneg (by omega)]; rfl
  rw [hlv, optK_some, hrem, optK_some, bin_neq, optK_some]
  by_cases hjz : j = zeroN ys.length
  · have d : ((((ys.length + 1 + j) % 64 : Nat) : Int) != 56) = false := by
      have : (ys.length + 1 + j) % 64 = 56 := by rw [hjz]; unfold zeroN; omega
      rw [this]; rfl
    subst hjz
    rw [d, condV_false, nx_exit]
    exact hK _ _ _ h1 rfl rfl rfl
  · have d : ((((ys.length + 1 + j) % 64 : Nat) : Int) != 56) = true := by
      have : (ys.length + 1 + j) % 64 ≠ 56 := by unfold zeroN at hj hz hjz; omega
      simp; omega
    rw [d, condV_true]
    refine bsl1_t rfl rfl h1 fun x s2 hx hxl h2' => ?_
    refine push_t (h2'.ord [1, 0]) hx hxl rfl (by omega) (by omega) fun v3 s3 h3' => ?_
    rw [nx_nrm]
    refine hnext (m - 1) _ _ (by omega) ⟨j + 1, v3, by omega, ?_, rfl, rfl, rfl⟩
    have e : (ys ++ 128 :: List.replicate j (0 : UInt8)).map byteV ++ [V.int .u8 0] = (ys ++ 128 :: List.replicate (j + 1) (0 : UInt8)).map byteV := by
      rw [List.replicate_succ']; simp [byteV]
    have e2 : (ys ++ 128 :: List.replicate j (0 : UInt8)).length + 1 = (ys ++ 128 :: List.replicate (j + 1) (0 : UInt8)).length := by simp; omega
    rw [e, e2] at h3'
    exact h3'

theorem qsum_loop2 {K : KX} {s : AS} {t2 pv : V} {many : Nat} {pad : List UInt8} {tm : Tm} {r : List HP} (hm : many ≤ 1073741824) (hp : pad.length ≤ 1073742924)
    (h : Hs G (BytesH pv pad :: r) s) (h2 : tm.getD 2 .junk = t2) (h3 : tm.getD 3 .junk = pv) (h4 : tm.getD 4 .junk = .int .i64 ((many * 8 : Nat) : Int)) (h5 : tm.getD 5 .junk = .int .i64 7)
    (hK : ∀ tm' s' pv', Hs G (BytesH pv' (pad ++ numB 8 (many * 8)) :: r) s' → tm'.getD 2 .junk = t2 → tm'.getD 3 .junk = pv' → K (.exit 2) tm' s') :
    loopN LOOPS (fun tm s K => S02_L2 (tm.getD 2 .junk) (tm.getD 3 .junk) (tm.getD 4 .junk) (tm.getD 5 .junk) s K) tm s K := by
  refine loop_rule (fun m tm s1 => ∃ (i : Nat) (pv : V), i + m = 8 ∧ Hs G (BytesH pv (pad ++ (numB 8 (many * 8)).take i) :: r) s1 ∧
    tm.getD 2 .junk = t2 ∧ tm.getD 3 .junk = pv ∧ tm.getD 4 .junk = .int .i64 ((many * 8 : Nat) : Int) ∧ tm.getD 5 .junk = .int .i64 (7 - (i : Int))) ?_ (m := 8) (by omega) ⟨0, pv, rfl, by simpa using h, h2, h3, h4, h5⟩
  rintro m tm s1 Kn ⟨i, pv, him, h1, h2, h3, h4, h5⟩ hnext
  simp only [h2, h3, h4, h5]
  unfold S02_L2 fn51_L2
  rw [bin_geq, optK_some]
  by_cases hi : i < 8
  · have d : decide ((7 - (i : Int)) ≥ 0) = true := decide_eq_true (by omega)
    have w2 : IntKind.i64.wrap (8 * (7 - (i : Int))) = ((8 * (8 - 1 - i) : Nat) : Int) := by rw [wrap64 (by omega) (by omega)]; omega
    have w4 : IntKind.i64.wrap ((7 - (i : Int)) - 1) = 7 - ((i + 1 : Nat) : Int) := by rw [wrap64 (by omega) (by omega)]; omega
    have hsh : binV .shr (some (Kd.int .i64)) false (.int .i64 ((many * 8 : Nat) : Int)) (.int .i64 ((8 * (8 - 1 - i) : Nat) : Int)) = some (.int .i64 (((many * 8 : Nat) : Int).fdiv (2 ^ (8 * (8 - 1 - i))))) := by
      have ht : min (((8 * (8 - 1 - i) : Nat) : Int)).toNat IntKind.i64.bits = 8 * (8 - 1 - i) := by show min _ 64 = _; omega
      simp only [binV, shrV]
      rw [if_neg (by omega), ht]
    have hx : (numB 8 (many * 8)).take (i + 1) = (numB 8 (many * 8)).take i ++ [u8v (((many * 8 : Nat) : Int).fdiv (2 ^ (8 * (8 - 1 - i))))] := by
      have : (numB 8 (many * 8))[i]? = some (u8v (((many * 8 : Nat) : Int).fdiv (2 ^ (8 * (8 - 1 - i))))) := by simp [numB, hi]
      rw [List.take_add_one, this]; rfl
    obtain ⟨x, hxe⟩ : ∃ x, x = u8v (((many * 8 : Nat) : Int).fdiv (2 ^ (8 * (8 - 1 - i)))) := ⟨_, rfl⟩
    rw [← hxe] at hx
    rw [d, condV_true, bin_mul, optK_some, w2, hsh, optK_some]
    simp only [cvt, convI, u8v_byte, ← hxe, optK_some]
    refine bsl1_t rfl rfl h1 fun y s2 hy hyl h2' => ?_
    have hl : (pad ++ (numB 8 (many * 8)).take i).length ≤ 1073743924 := by simp; omega
    refine push_t (h2'.ord [1, 0]) hy hyl rfl (by omega) (by omega) fun v3 s3 h3' => ?_
    rw [bin_sub, optK_some, w4, nx_nrm]
    refine hnext (8 - (i + 1)) _ _ (by omega) ⟨i + 1, v3, by omega, ?_, rfl, rfl, rfl, rfl⟩
    have e : (pad ++ (numB 8 (many * 8)).take i).map byteV ++ [byteV x] = (pad ++ (numB 8 (many * 8)).take (i + 1)).map byteV := by rw [hx]; simp
    have e2 : (pad ++ (numB 8 (many * 8)).take i).length + 1 = (pad ++ (numB 8 (many * 8)).take (i + 1)).length := by rw [hx]; simp; omega
    rw [e, e2] at h3'
    exact h3'
  · have : i = 8 := by omega
    subst this
    have d : decide ((7 - ((8 : Nat) : Int)) ≥ 0) = false := by decide
    rw [List.take_of_length_le (by simp)] at h1
    rw [d, condV_false, nx_exit]
    exact hK _ _ _ h1 rfl rfl

theorem qsum_loop3 {K : KX} {s : AS} {k6 : Nat} {t2 v : V} {all : List UInt8} {tm : Tm} {r : List HP} (hl : all.length ≤ 1073744824) (hd : all.length % 64 = 0)
    (h : Hs G (Ob k6 (.cells (shaFirst.map w32) 0) :: BytesH v all :: r) s) (h2 : tm.getD 2 .junk = t2) (h3 : tm.getD 3 .junk = v) (h6 : tm.getD 6 .junk = .ptr (some ⟨.new k6, 0⟩)) (h7 : tm.getD 7 .junk = .int .i64 0)
    (hK : ∀ tm' s' vs, vs = absorb (all.length / 64) shaFirst all → vs.length = 8 → Hs G (Ob k6 (.cells (vs.map w32) 0) :: BytesH v all :: r) s' → tm'.getD 2 .junk = t2 → tm'.getD 6 .junk = .ptr (some ⟨.new k6, 0⟩) → K (.exit 4) tm' s') :
    loopN LOOPS (fun tm s K => S02_L3 (tm.getD 2 .junk) (tm.getD 3 .junk) (tm.getD 6 .junk) (tm.getD 7 .junk) s K) tm s K := by
  obtain ⟨N, hN⟩ : ∃ N, N = all.length / 64 := ⟨_, rfl⟩
  refine loop_rule (fun m tm s1 => ∃ (j : Nat) (vs : List (BitVec 32)), j + m = N ∧ vs.length = 8 ∧ absorb m vs (all.drop (64 * j)) = absorb N shaFirst all ∧ Hs G (Ob k6 (.cells (vs.map w32) 0) :: BytesH v all :: r) s1 ∧
    tm.getD 2 .junk = t2 ∧ tm.getD 3 .junk = v ∧ tm.getD 6 .junk = .ptr (some ⟨.new k6, 0⟩) ∧ tm.getD 7 .junk = .int .i64 ((64 * j : Nat) : Int)) ?_ (m := N) (by omega) ⟨0, shaFirst, by omega, rfl, rfl, h, h2, h3, h6, h7⟩
  rintro m tm s1 Kn ⟨j, vs, hjm, hvs, hab, h1, h2, h3, h6, h7⟩ hnext
  simp only [h2, h3, h6, h7]
  unfold S02_L3 fn51_L3
  obtain ⟨a, c, ex, hv⟩ := slH_slice (h1.pull 1)
  have hlv : lenV (some (Kd.slice 5)) v = some (.int .i64 all.length) := by rw [hv]; rfl
  rw [hlv, optK_some, bin_lss, optK_some]
  cases m with
  | zero =>
    have d : decide (((64 * j : Nat) : Int) < (all.length : Int)) = false := decide_eq_false (by omega)
    rw [d, condV_false, nx_exit]
    rw [← hN] at hK
    exact hK _ _ vs hab hvs h1 rfl rfl
  | succ m =>
    have d : decide (((64 * j : Nat) : Int) < (all.length : Int)) = true := decide_eq_true (by omega)
    have w1 : IntKind.i64.wrap (((64 * j : Nat) : Int) + 64) = ((64 * (j + 1) : Nat) : Int) := by rw [wrap64 (by omega) (by omega)]; omega
    rw [d, condV_true, ldAll_t h1 (by simp [hvs]), bin_add, optK_some, w1]
    obtain ⟨v1, e1, hr1⟩ := (reads_bytes (G := G) (v := v) (ys := all) (r := Ob k6 (.cells (vs.map w32) 0) :: r)).cut (h1.pull 1) (lo := some (.int .i64 ((64 * j : Nat) : Int))) (hi := some (.int .i64 ((64 * (j + 1) : Nat) : Int))) (l := 64 * j) (n := 64 * (j + 1)) (by omega) (by omega) (.inr ⟨.i64, rfl⟩) (.inr ⟨.i64, rfl⟩)
    have ecut : (all.take (64 * (j + 1))).drop (64 * j) = (all.drop (64 * j)).take 64 := by rw [List.drop_take]; congr 1; omega
    rw [ecut] at hr1
    have hbl : ((all.drop (64 * j)).take 64).length = 64 := by rw [List.length_take, List.length_drop]; omega
    rw [e1, optK_some]
    refine qblock_t hr1 (by omega) hvs (h1.pull 1) _ ?_
    rintro _ s2 ⟨rfl, h2'⟩
    refine stAll_t (h2'.pull 1) (by simp [hvs]) (by simp) (w32s_flat _) fun s3 h3' => ?_
    rw [optK_some, nx_nrm]
    refine hnext m _ _ (by omega) ⟨j + 1, takeF vs ((all.drop (64 * j)).take 64), by omega, takeF_length _ _, ?_, h3', rfl, rfl, rfl, rfl⟩
    rw [takeF_take, ← hab, absorb, List.drop_drop]
    congr 2

theorem qsum_loop4 {K : KX} {s : AS} {k6 ko : Nat} {t2 : V} {v : List (BitVec 32)} {tm : Tm} {r : List HP} (hv : v.length = 8)
    (h : Hs G (Ob ko (.cells (outW v 0) 0) :: Ob k6 (.cells (v.map w32) 0) :: r) s) (h2 : tm.getD 2 .junk = t2) (h6 : tm.getD 6 .junk = .ptr (some ⟨.new k6, 0⟩)) (h8 : tm.getD 8 .junk = .ptr (some ⟨.new ko, 0⟩)) (h9 : tm.getD 9 .junk = .int .i64 0)
    (hK : ∀ tm' s', Hs G (Ob ko (.cells ((digF v).map byteV) 0) :: Ob k6 (.cells (v.map w32) 0) :: r) s' → tm'.getD 2 .junk = t2 → tm'.getD 8 .junk = .ptr (some ⟨.new ko, 0⟩) → K (.exit 6) tm' s') :
    loopN LOOPS (fun tm s K => S02_L4 (tm.getD 2 .junk) (tm.getD 6 .junk) (tm.getD 8 .junk) (tm.getD 9 .junk) s K) tm s K := by
  refine loop_rule (fun m tm s1 => ∃ i : Nat, i + m = 32 ∧ Hs G (Ob ko (.cells (outW v i) 0) :: Ob k6 (.cells (v.map w32) 0) :: r) s1 ∧
    tm.getD 2 .junk = t2 ∧ tm.getD 6 .junk = .ptr (some ⟨.new k6, 0⟩) ∧ tm.getD 8 .junk = .ptr (some ⟨.new ko, 0⟩) ∧ tm.getD 9 .junk = .int .i64 (i : Nat)) ?_ (m := 32) (by omega) ⟨0, rfl, h, h2, h6, h8, h9⟩
  rintro m tm s1 Kn ⟨i, him, h1, h2, h6, h8, h9⟩ hnext
  simp only [h2, h6, h8, h9]
  unfold S02_L4 fn51_L4
  rw [bin_lss, optK_some]
  by_cases hi : i < 32
  · have d : decide ((i : Int) < 32) = true := by simp; omega
    have hq : binV .quo (some (Kd.int .i64)) true (.int .i64 (i : Nat)) (.int .i64 4) = some (.int .i64 ((i / 4 : Nat) : Int)) := by
      simp only [bin_quo]; rw [if_neg (by decide), Int.tdiv_eq_ediv_of_nonneg (by omega), wrap64 (by omega) (by omega)]; rfl
    have hr : binV .rem (some (Kd.int .i64)) true (.int .i64 (i : Nat)) (.int .i64 4) = some (.int .i64 ((i % 4 : Nat) : Int)) := by
      simp only [bin_rem]; rw [if_neg (by decide), Int.tmod_eq_emod_of_nonneg (by omega)]; rfl
    have w2 : IntKind.i64.wrap (8 * ((i % 4 : Nat) : Int)) = ((8 * (i % 4) : Nat) : Int) := by rw [wrap64 (by omega) (by omega)]; omega
    have w3 : IntKind.i64.wrap (24 - ((8 * (i % 4) : Nat) : Int)) = ((24 - 8 * (i % 4) : Nat) : Int) := by rw [wrap64 (by omega) (by omega)]; omega
    have w4 : IntKind.i64.wrap ((i : Int) + 1) = ((i + 1 : Nat) : Int) := by rw [wrap64 (by omega) (by omega)]; omega
    have ec : elemPtr (some 8) 1 (.ptr (some ⟨.new k6, 0⟩)) (.int .i64 ((i / 4 : Nat) : Int)) = some (.ptr (some ⟨.new k6, i / 4⟩)) := by rw [elemA_ok (by omega)]; simp
    have eo : elemPtr (some 32) 1 (.ptr (some ⟨.new ko, 0⟩)) (.int .i64 ((i : Nat) : Int)) = some (.ptr (some ⟨.new ko, i⟩)) := by rw [elemA_ok hi]; simp
    have q : (v.map w32)[i / 4]? = some (w32 (v.getD (i / 4) 0)) := w_cell (by omega)
    have hsh : binV .shr (some (Kd.int .u32)) false (w32 (v.getD (i / 4) 0)) (.int .i64 ((24 - 8 * (i % 4) : Nat) : Int)) = some (w32 ((v.getD (i / 4) 0) >>> (24 - 8 * (i % 4)))) := w_shr _ _ _ _ _ (by omega)
    have hcv : ∀ s K, cvt (Kd.int .u32) (Kd.int .u8) (w32 ((v.getD (i / 4) 0) >>> (24 - 8 * (i % 4)))) s K = K (byteV (digB v i)) s := fun s K => by
      simp only [cvt, w32, convI, u8v_byte, optK_some]; rfl
    rw [d, condV_true, hq, optK_some, ec, optK_some, ld_t (h1.pull 1), q, optK_some, hr, optK_some, bin_mul, optK_some, w2, bin_sub, optK_some, w3, hsh, optK_some, hcv, eo, optK_some]
    refine st_t h1 (by simp; omega) rfl fun s2 h2' => ?_
    rw [outW_set v hi] at h2'
    rw [bin_add, optK_some, w4, nx_nrm]
    exact hnext (32 - (i + 1)) _ _ (by omega) ⟨i + 1, by omega, h2', rfl, rfl, rfl, rfl⟩
  · have : i = 32 := by omega
    subst this
    have d : decide (((32 : Nat) : Int) < 32) = false := by decide
    rw [outW_full] at h1
    rw [d, condV_false, nx_exit]
    exact hK _ _ h1 rfl rfl

theorem padF_mod (n : Nat) : (n + (padF n).length) % 64 = 0 := by
  unfold padF
  rw [List.length_append, List.length_cons, List.length_replicate, numB_length]
  unfold zeroN; omega
set_option maxRecDepth 20000 in
theorem qSum_t {v : V} {ys : List UInt8} {r : List HP} {s : AS} (hr : Reads G r v ys) (h : Hs G r s) (hy : ys.length ≤ 1000000000) :
    Ens (fn51 v) s fun u s' => u = .agg ((shaF ys).map byteV) ∧ Hs G r s' := by
  intro K hK
  obtain ⟨va, vc, vex, hve⟩ := rd_slice hr h
  have hlv : lenV (some (Kd.slice 5)) v = some (.int .i64 ys.length) := by rw [hve]; rfl
  have hpm := padF_mod ys.length
  have hpl : (padF ys.length).length ≤ 200 := by simp [padF, zeroN]; omega
  unfold fn51 fn51_q
  refine newC_t (cs := List.replicate 32 (V.int .u8 0)) h fun k2 s1 h1 => ?_
  refine qCopy_t hr.cons h1 (by omega) _ ?_
  intro u s2 h2
  refine bsl1_t rfl rfl h2 fun x s3 hx hxl h3 => ?_
  refine push_t (h3.ord [1, 0]) hx hxl rfl (by omega) (by omega) fun v4 s4 h4 => ?_
  have e4 : ys.map byteV ++ [V.int .u8 128] = (ys ++ [128]).map byteV := by rw [List.map_append]; rfl
  have e4' : ys.length + 1 = (ys ++ [(128 : UInt8)]).length := by simp
  rw [e4, e4'] at h4
  refine qsum_loop1 (t0 := v) (t2 := .ptr (some ⟨.new k2, 0⟩)) (by omega) h4 rfl rfl rfl ?_
  intro tm1 s5 v5 h5 a0 a2 a3
  have w8 : IntKind.i64.wrap (8 * (ys.length : Int)) = ((ys.length * 8 : Nat) : Int) := by rw [wrap64 (by omega) (by omega)]; omega
  rw [exX_exit]
  show exB true _ _
  rw [exB_true, a0, a2, a3, hlv, optK_some, bin_mul, optK_some, w8]
  refine qsum_loop2 (t2 := .ptr (some ⟨.new k2, 0⟩)) (many := ys.length) (by omega) (by rw [List.length_append, List.length_cons, List.length_replicate]; unfold zeroN; omega) h5 rfl rfl rfl rfl ?_
  intro tm2 s6 v6 h6 b2 b3
  have eall : (ys ++ 128 :: List.replicate (zeroN ys.length) 0) ++ numB 8 (ys.length * 8) = ys ++ padF ys.length := by unfold padF; rw [List.append_assoc, List.cons_append]
  rw [eall] at h6
  rw [exX_exit]
  show exB true _ _
  rw [exB_true, b2, b3]
  refine qfirst_t h6 _ ?_
  rintro _ s7 ⟨rfl, h7⟩
  refine newC_t h7 fun k6 s8 h8 => ?_
  refine stAll_t h8 rfl rfl (w32s_flat _) fun s9 h9 => ?_
  refine qsum_loop3 (t2 := .ptr (some ⟨.new k2, 0⟩)) (all := ys ++ padF ys.length) (by rw [List.length_append]; omega) (by rw [List.length_append, hpm]) h9 rfl rfl rfl rfl ?_
  intro tm3 s10 vs hvs hvl h10 c2 c6
  rw [exX_exit]
  show exB true _ _
  rw [exB_true, c2, c6]
  refine newC_t (cs := outW vs 0) h10 fun ko s11 h11 => ?_
  refine qsum_loop4 (t2 := .ptr (some ⟨.new k2, 0⟩)) hvl h11 rfl rfl rfl rfl ?_
  intro tm4 s12 h12 d2 d8
  rw [exX_exit]
  show exB true _ _
  have ed : digF vs = shaF ys := by rw [hvs, shaF_eq]
  rw [ed] at h12
  rw [exB_true, d2, d8, ldAll_t h12 (by simp)]
  refine stAll_t (h12.pull 3) (by simp) (by simp) (byteV_flat _) fun s13 h13 => ?_
  rw [peekA_t rfl h13 (by simp), rfin1]
  exact hK _ _ ⟨rfl, h13.drop 0 |>.drop 0 |>.drop 0 |>.drop 0⟩
end Go.Proofs.Vt
end
