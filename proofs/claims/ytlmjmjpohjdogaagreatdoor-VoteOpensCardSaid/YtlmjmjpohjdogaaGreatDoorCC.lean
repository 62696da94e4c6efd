/- A part of the proofs of the Vote laws: contracts of the log, of sorting and of configs' bytes. -/
import Derived.Test.YtlmjmjpohjdogaaGreatDoorCB
import Derived.Test.YtlmjmjpohjdogaaGreatDoorCA
import Derived.Test.YtlmjmjpohjdogaaGreatDoorRxD
import Derived.Test.YtlmjmjpohjdogaaGreatDoorF4
set_option linter.unusedVariables false
set_option linter.unusedSimpArgs false
section
/- The log: records. -/
namespace Go.Proofs.Vt
open Go Go.Rx Go.Proofs
variable {G : Nat → Option (List V)}

def sumB (b : List UInt8) : List UInt8 := (shaF b).take 4
@[simp] theorem sumB_length (b : List UInt8) : (sumB b).length = 4 := by simp [sumB]
theorem sums_t (hG : ShaG G) {b : V} {ys : List UInt8} {r : List HP} {s : AS} (hr : Reads G r b ys) (h : Hs G r s) (hy : ys.length ≤ 1000000000) :
    Ens (fn106 b) s fun u s' => Hs G (BytesH u (sumB ys) :: r) s' := by
  intro K hK
  unfold fn106 fn106_q
  refine Sum_t hG hr h hy _ ?_
  rintro _ s1 ⟨rfl, h1⟩
  refine newC_t h1 fun k s2 h2 => ?_
  refine stAll_t h2 (by simp) (by simp) (byteV_flat _) fun s3 h3 => ?_
  have e : sliceArr 32 1 (.ptr (some ⟨.new k, 0⟩)) none (some (.int .i64 4)) none = some (.slice (some ⟨.new k, 0⟩) 4 32 true) := by
    simp [sliceArr, bounds3, boundV, add]
  rw [e, optK_some]
  refine hK _ _ ?_
  have := ob_slH (sz := 1) (n := 4) (c := 32) (ex := true) (xs := (sumB ys).map byteV) h3 (by simp [sumB, List.map_take]) (by simp) (byteV_flat _) (by omega) (by simp) (.inl rfl)
  show Hs G (SlH 1 _ (sumB ys).length _ :: r) s3
  rw [sumB_length]; exact this

def recB (row : List UInt8) : List UInt8 := (numB 2 row.length ++ numB 2 (65535 - row.length) ++ row) ++ sumB (numB 2 row.length ++ numB 2 (65535 - row.length) ++ row)
@[simp] theorem recB_length (row : List UInt8) : (recB row).length = row.length + 8 := by simp [recB]; omega

theorem Record_t (hG : ShaG G) {v : V} {row : List UInt8} {r : List HP} {s : AS} (hr : Reads G r v row) (h : Hs G r s) (hl : row.length ≤ 40000) :
    Ens (fn125 v) s fun t s' => ∃ u, t = .tuple [u, .int .i64 0] ∧ Hs G (BytesH u (recB row) :: r) s' := by
  intro K hK
  obtain ⟨a, c, ex, rfl⟩ := rd_slice hr h
  unfold fn125 fn125_q
  have d : decide ((row.length : Int) > 40000) = false := by simp; omega
  have w : IntKind.i64.wrap (65535 - (row.length : Int)) = ((65535 - row.length : Nat) : Int) := by rw [wrap64 (by omega) (by omega)]; omega
  simp only [lenV_slice, optK_some, bin_gtr, d, condV_false, bin_sub, w]
  refine wNew_t h _ ?_
  rintro _ s1 ⟨kw, rfl, h1⟩
  refine wNum_t h1 (w := 2) (n := row.length) (by omega) (by omega) (Nat.div_eq_of_lt (by omega)) (by simp) _ ?_
  rintro _ s2 ⟨rfl, h2⟩
  refine wNum_t h2 (w := 2) (n := 65535 - row.length) (by omega) (by omega) (Nat.div_eq_of_lt (by omega)) (by simp) _ ?_
  rintro _ s3 ⟨rfl, h3⟩
  refine wRaw_t h3 hr (by simp; omega) _ ?_
  rintro _ s4 ⟨rfl, h4⟩
  refine wBytes_t h4 (by simp; omega) _ ?_
  rintro _ s5 ⟨u, rfl, ⟨ua, uc, uex, rfl⟩, h5⟩
  simp only [List.nil_append] at h5
  simp only [ext0, List.getElem?_cons_zero, List.getElem?_cons_succ, optK_some, bin_neq, bne_self_eq_false, condV_false]
  refine sums_t hG reads_bytes h5 (by simp; omega) _ ?_
  intro x s6 h6
  have hrd := (reads_bytes (G := G) s6 h6).1
  refine app_t (by omega) (h6.pull 1) hrd.len hrd.src (by simp) (byteV_flat _) (by simp; omega) (by omega) fun v7 s7 h7 => ?_
  rw [← List.map_append, ← List.length_append] at h7
  exact hK _ _ ⟨_, rfl, h7.drop 1⟩

theorem records_t (hG : ShaG G) {v : V} {rows : List (List UInt8)} {r : List HP} {s : AS} (h : Hs G (RowsH v rows :: r) s) (hl : ∀ row ∈ rows, row.length ≤ 40000) (hn : rows.length ≤ 1000) :
    Ens (fn96 v) s fun t s' => ∃ u, t = .tuple [u, .int .i64 0] ∧ Hs G (BytesH u (rows.flatMap recB) :: RowsH v rows :: r) s' := by
  intro K hK
  obtain ⟨xs, hxl, h1⟩ := RowsH.iff.1 h
  obtain ⟨a, c, ex, rfl⟩ := slH_slice h1
  unfold fn96 fn96_q
  simp only [lenV_slice, optK_some]
  have hlen : ∀ i, ((rows.take i).flatMap recB).length ≤ i * 40008 := fun i => by
    have : ∀ l : List (List UInt8), (∀ row ∈ l, row.length ≤ 40000) → (l.flatMap recB).length ≤ l.length * 40008 := fun l => by
      induction l with
      | nil => intro _; simp
      | cons x l ih => intro hh; have := ih fun row hm => hh row (List.mem_cons_of_mem _ hm); have := hh x (List.mem_cons_self ..); simp only [List.flatMap_cons, List.length_append, recB_length, List.length_cons]; omega
    have h1 := this (rows.take i) fun row hm => hl row (List.mem_of_mem_take hm)
    have h2 : (rows.take i).length ≤ i := by rw [List.length_take]; omega
    exact Nat.le_trans h1 (Nat.mul_le_mul_right 40008 h2)
  refine loop_rule (fun m tm s1 => ∃ (i : Nat) (u : V), i + m = rows.length ∧ Hs G (BytesH u ((rows.take i).flatMap recB) :: SlH 1 (.slice a rows.length c ex) rows.length xs :: HP.all (List.zipWith BytesH xs rows) :: r) s1 ∧
    tm.getD 2 .junk = u ∧ tm.getD 8 .junk = .slice a rows.length c ex ∧ tm.getD 9 .junk = .int .i64 rows.length ∧ tm.getD 10 .junk = .int .i64 (i : Nat)) ?_ (m := rows.length) (by omega) ⟨0, .slice none 0 0 true, by omega, h1.slNil 1 true, rfl, rfl, rfl, rfl⟩
  rintro m tm s1 Kn ⟨i, u, him, h2, t2, t8, t9, t10⟩ hnext
  simp only [t2, t8, t9, t10]
  unfold fn96_L1
  by_cases hi : i < rows.length
  · have d : decide ((i : Int) < (rows.length : Int)) = true := by simp; omega
    have w1 : IntKind.i64.wrap ((i : Int) + 1) = ((i + 1 : Nat) : Int) := by rw [wrap64 (by omega) (by omega)]; omega
    obtain ⟨row, hrow⟩ : ∃ row, rows[i]? = some row := ⟨rows[i], by simp [hi]⟩
    obtain ⟨x, hx⟩ : ∃ x, xs[i]? = some x := ⟨xs[i]'(by omega), by simp [show i < xs.length by omega]⟩
    obtain ⟨p, e1, l1⟩ := elem1_t (h2.pull 1) hx .i64
    simp only [bin_lss, optK_some, d, condV_true, e1, l1]
    refine Record_t hG (reads_all (zip_mem hx hrow)) (h2.pull 2) (hl row (List.mem_of_getElem? hrow)) _ ?_
    rintro _ s3 ⟨y, rfl, h3⟩
    simp only [ext0, List.getElem?_cons_zero, List.getElem?_cons_succ, optK_some, bin_neq, bne_self_eq_false, condV_false]
    have hrd := (reads_bytes (G := G) s3 h3).1
    have hl1 := hlen i
    have hl2 := hl row (List.mem_of_getElem? hrow)
    have hrl := recB_length row
    refine app_t (by omega) (h3.pull 2) hrd.len hrd.src (by simp) (byteV_flat _) (by omega) (by omega) fun v7 s7 h7 => ?_
    rw [← List.map_append, ← List.length_append] at h7
    simp only [bin_add, optK_some, w1, nx_nrm]
    refine hnext (rows.length - (i + 1)) _ _ (by omega) ⟨i + 1, v7, by omega, ?_, rfl, rfl, rfl, rfl⟩
    have e : (rows.take (i + 1)).flatMap recB = (rows.take i).flatMap recB ++ recB row := by rw [List.take_add_one, hrow, List.flatMap_append]; simp
    rw [e]
    exact (h7.ord [0, 3, 2]).drop 3
  · have : i = rows.length := by omega
    subst this
    simp only [bin_lss, optK_some, Int.lt_irrefl, decide_false, condV_false, nx_exit, exX_exit, beq_self_eq_true, exB_true]
    rw [List.take_length] at h2
    exact hK _ _ ⟨u, rfl, (RowsH.iff.2 ⟨xs, hxl, h2.ord [1, 2]⟩).swap⟩

theorem copiedR_t {v : V} {rows : List (List UInt8)} {r : List HP} {s : AS} (h : Hs G (RowsH v rows :: r) s) (hl : ∀ row ∈ rows, row.length ≤ 40000) (hn : rows.length ≤ 1099511627) :
    Ens (fn68 v) s fun u s' => Hs G (RowsH u rows :: RowsH v rows :: r) s' := by
  intro K hK
  obtain ⟨xs, hxl, h1⟩ := RowsH.iff.1 h
  obtain ⟨a, c, ex, rfl⟩ := slH_slice h1
  unfold fn68 fn68_q
  simp only [lenV_slice, optK_some]
  refine loop_rule (fun m tm s1 => ∃ (i : Nat) (u : V), i + m = rows.length ∧ Hs G (RowsH u (rows.take i) :: SlH 1 (.slice a rows.length c ex) rows.length xs :: HP.all (List.zipWith BytesH xs rows) :: r) s1 ∧
    tm.getD 2 .junk = u ∧ tm.getD 5 .junk = .slice a rows.length c ex ∧ tm.getD 6 .junk = .int .i64 rows.length ∧ tm.getD 7 .junk = .int .i64 (i : Nat)) ?_ (m := rows.length) (by omega) ⟨0, .slice none 0 0 true, by omega, RowsH.nil h1 true, rfl, rfl, rfl, rfl⟩
  rintro m tm s1 Kn ⟨i, u, him, h2, t2, t5, t6, t7⟩ hnext
  simp only [t2, t5, t6, t7]
  unfold fn68_L1
  by_cases hi : i < rows.length
  · have d : decide ((i : Int) < (rows.length : Int)) = true := by simp; omega
    have w1 : IntKind.i64.wrap ((i : Int) + 1) = ((i + 1 : Nat) : Int) := by rw [wrap64 (by omega) (by omega)]; omega
    obtain ⟨row, hrow⟩ : ∃ row, rows[i]? = some row := ⟨rows[i], by simp [hi]⟩
    obtain ⟨x, hx⟩ : ∃ x, xs[i]? = some x := ⟨xs[i]'(by omega), by simp [show i < xs.length by omega]⟩
    obtain ⟨p, e1, l1⟩ := elem1_t (h2.pull 1) hx .i64
    have hl2 := hl row (List.mem_of_getElem? hrow)
    simp only [bin_lss, optK_some, d, condV_true, e1, l1]
    refine Clone_t (reads_all (zip_mem hx hrow)) (h2.pull 2) (by omega) _ ?_
    rintro y s3 ⟨⟨ya, yc, yex, rfl⟩, h3⟩
    refine bsl1_t rfl rfl h3 fun z s4 hz hzl h4 => ?_
    refine rows_push (h4.ord [3, 1, 0]) hz hzl (by simp; omega) fun v7 s7 h7 => ?_
    simp only [bin_add, optK_some, w1, nx_nrm]
    refine hnext (rows.length - (i + 1)) _ _ (by omega) ⟨i + 1, v7, by omega, ?_, rfl, rfl, rfl, rfl⟩
    have e : rows.take (i + 1) = rows.take i ++ [row] := by rw [List.take_add_one, hrow]; rfl
    rw [e]
    exact h7.ord [0, 2, 1]
  · have : i = rows.length := by omega
    subst this
    simp only [bin_lss, optK_some, Int.lt_irrefl, decide_false, condV_false, nx_exit, exX_exit, beq_self_eq_true, exB_true]
    rw [List.take_length] at h2
    exact hK _ _ ((RowsH.iff.2 ⟨xs, hxl, h2.ord [1, 2]⟩).swap)

/-! ### logs -/
def LogH (kl kd : Nat) (rows : List (List UInt8)) (dead : Bool) : HP := HP.ex fun vr : V => HP.all [Ob kl (.cells [.ptr (some ⟨.new kd, 0⟩), vr, .bool dead] 0), RowsH vr rows]
theorem LogH.iff {kl kd : Nat} {rows : List (List UInt8)} {dead : Bool} {r : List HP} {s : AS} : Hs G (LogH kl kd rows dead :: r) s ↔ ∃ vr, Hs G (Ob kl (.cells [.ptr (some ⟨.new kd, 0⟩), vr, .bool dead] 0) :: RowsH vr rows :: r) s := by
  unfold LogH
  simp only [Hs.ex_iff, Hs.all_iff, List.cons_append, List.nil_append]

theorem lnone_t {kl kd : Nat} {vr db : V} {r : List HP} {s : AS} (h : Hs G (Ob kl (.cells [.ptr (some ⟨.new kd, 0⟩), vr, db] 0) :: r) s) (K : K0) : fn67 (.ptr (some ⟨.new kl, 0⟩)) s K = K (.bool false) s := by
  unfold fn67 fn67_q
  simp only [bin_ptr_nil, Option.isNone_some, optK_some, grd_false, nilV_ptr, fp_ptr, Nat.zero_add, ld_t h, List.getElem?_cons_zero]
theorem llive_t {kl kd : Nat} {vr : V} {dead : Bool} {r : List HP} {s : AS} (h : Hs G (Ob kl (.cells [.ptr (some ⟨.new kd, 0⟩), vr, .bool dead] 0) :: r) s) (K : K0) : fn95 (.ptr (some ⟨.new kl, 0⟩)) s K = K (.int .i64 (if dead then 130 else 0)) s := by
  unfold fn95 fn95_q
  rw [lnone_t h]
  simp only [condV_false, optK_some, nilV_ptr, fp_ptr, Nat.zero_add, ld_t h, List.getElem?_cons_zero, List.getElem?_cons_succ]
  cases dead <;> rfl
theorem lDead_t {kl kd : Nat} {rows : List (List UInt8)} {dead : Bool} {r : List HP} {s : AS} (h : Hs G (LogH kl kd rows dead :: r) s) (K : K0) : fn63 (.ptr (some ⟨.new kl, 0⟩)) s K = K (.bool dead) s := by
  obtain ⟨vr, h1⟩ := LogH.iff.1 h
  unfold fn63 fn63_q
  rw [lnone_t h1]
  simp only [un_not, Bool.not_false, optK_some, grd_true, nilV_ptr, fp_ptr, Nat.zero_add, ld_t h1, List.getElem?_cons_zero, List.getElem?_cons_succ]
theorem did_t {kl kd : Nat} {vr db : V} {e : Int} {r : List HP} {s : AS} (h : Hs G (Ob kl (.cells [.ptr (some ⟨.new kd, 0⟩), vr, db] 0) :: r) s) :
    Ens (fn97 (.ptr (some ⟨.new kl, 0⟩)) (.int .i64 e)) s fun u s' => u = .int .i64 e ∧ Hs G (Ob kl (.cells [.ptr (some ⟨.new kd, 0⟩), vr, .bool (e == 130)] 0) :: r) s' := by
  intro K hK
  unfold fn97 fn97_q
  simp only [bin_eql, optK_some, nilV_ptr, fp_ptr, Nat.zero_add]
  refine st_t h (by simp) rfl fun s2 h2 => ?_
  exact hK _ _ ⟨rfl, h2⟩
theorem lRows_t {kl kd : Nat} {rows : List (List UInt8)} {dead : Bool} {r : List HP} {s : AS} (h : Hs G (LogH kl kd rows dead :: r) s) (hl : ∀ row ∈ rows, row.length ≤ 40000) (hn : rows.length ≤ 1099511627) :
    Ens (fn35 (.ptr (some ⟨.new kl, 0⟩))) s fun u s' => Hs G (RowsH u rows :: LogH kl kd rows dead :: r) s' := by
  intro K hK
  obtain ⟨vr, h1⟩ := LogH.iff.1 h
  unfold fn35 fn35_q
  rw [lnone_t h1]
  simp only [condV_false, optK_some, nilV_ptr, fp_ptr, Nat.zero_add, ld_t h1, List.getElem?_cons_zero, List.getElem?_cons_succ]
  refine copiedR_t (h1.pull 1) hl hn _ ?_
  intro u s2 h2
  exact hK _ _ ((LogH.iff.2 ⟨vr, h2.ord [2, 1, 0]⟩).swap)
end Go.Proofs.Vt
end
section
/- The log: Add, Swap, Open. -/
namespace Go.Proofs.Vt
open Go Go.Rx Go.Proofs
variable {G : Nat → Option (List V)}

theorem rows_app {v y : V} {rows new : List (List UInt8)} {r : List HP} {s : AS} (h : Hs G (RowsH v rows :: RowsH y new :: r) s) (hroom : rows.length + new.length ≤ 1099511627776) {K : K0} (hK : ∀ v' s', Hs G (RowsH v' (rows ++ new) :: r) s' → K v' s') : app 1 24 v y s K := by
  obtain ⟨xs, hl, h1⟩ := RowsH.iff.1 h
  obtain ⟨ys, hl2, h2⟩ := RowsH.iff.1 (h1.pull 2)
  obtain ⟨e1, e2⟩ := slH_src h2
  have hf := slH_facts h2
  refine app_t (by omega) (h2.pull 2) e1 e2 hf.1 hf.2 (by omega) (by omega) fun v' s' h3 => hK v' s' ?_
  refine RowsH.iff.2 ⟨xs ++ ys, by simp [hl, hl2], ?_⟩
  rw [List.length_append, List.zipWith_append hl]
  have h4 := Hs.all_iff.1 (h3.pull 3)
  have h5 : Hs G (HP.all (List.zipWith BytesH xs rows ++ List.zipWith BytesH ys new) :: SlH 1 v' (rows.length + new.length) (xs ++ ys) :: SlH 1 y new.length ys :: r) s' := by
    rw [Hs.all_iff, List.append_assoc]
    refine ⟨h4.old, ?_⟩
    have := h4.sep
    rw [sepL_append] at this ⊢
    obtain ⟨F1, F2, i1, i2, d, ha, hb⟩ := this
    refine ⟨F1, F2, i1, i2, d, ha, ?_⟩
    have q := sepL_pull 2 hb
    obtain ⟨F3, F4, i3, i4, d2, hc, hd⟩ := q
    exact sepL_append.2 ⟨F3, F4, i3, i4, d2, hc, hd⟩
  exact (h5.drop 2).swap

def addE (d : DS) (b : List UInt8) : Int := if d.writeE b = 0 then (d.write b).syncE else d.writeE b
def addD (d : DS) (b : List UInt8) : DS := if d.writeE b = 0 then (d.write b).sync else d.write b

theorem Add_t (hG : ShaG G) {kl kd : Nat} {rows new : List (List UInt8)} {dead : Bool} {d : DS} {nt : Nat} {y : V} {r : List HP} {s : AS} (h : Hs G (LogH kl kd rows dead :: DiskH kd d nt :: RowsH y new :: r) s) (h0 : new ≠ [])
    (hl : ∀ row ∈ new, row.length ≤ 40000) (hn : new.length ≤ 1000) (hr : rows.length ≤ 1099511) (hnt : nt < 1099511627776) :
    Ens (fn85 (.ptr (some ⟨.new kl, 0⟩)) y) s fun u s' => if dead = true then u = .int .i64 130 ∧ Hs G (LogH kl kd rows true :: DiskH kd d nt :: r) s' else
      u = .int .i64 (addE d (new.flatMap recB)) ∧ Hs G (LogH kl kd (if addE d (new.flatMap recB) = 0 then rows ++ new else rows) (addE d (new.flatMap recB) == 130) :: DiskH kd (addD d (new.flatMap recB)) (nt + 1) :: r) s' := by
  intro K hK
  obtain ⟨vr, h1⟩ := LogH.iff.1 h
  unfold fn85 fn85_q
  rw [llive_t h1]
  cases dead with
  | true =>
    simp only [bin_neq, optK_some, if_true]
    exact hK _ _ ⟨rfl, LogH.iff.2 ⟨vr, h1.drop 3⟩⟩
  | false =>
    simp only [bin_neq, optK_some, Bool.false_eq_true, if_false, bne_self_eq_false, condV_false]
    simp only [Bool.false_eq_true, if_false] at hK
    refine records_t hG (h1.pull 3) hl hn _ ?_
    rintro _ s2 ⟨b, rfl, h2⟩
    obtain ⟨ya, yc, yex, rfl⟩ := RowsH.slice (h2.pull 1)
    have hpos : decide ((new.length : Int) > 0) = true := by
      cases new with
      | nil => exact absurd rfl h0
      | cons x l => simp
    obtain ⟨bs, hbs⟩ : ∃ bs, bs = new.flatMap recB := ⟨_, rfl⟩
    rw [← hbs] at h2 hK
    have hbl : bs.length ≤ 100000000 := by
      have : ∀ l : List (List UInt8), (∀ row ∈ l, row.length ≤ 40000) → (l.flatMap recB).length ≤ l.length * 40008 := fun l => by
        induction l with
        | nil => intro _; simp
        | cons x l ih => intro hh; have := ih fun row hm => hh row (List.mem_cons_of_mem _ hm); have := hh x (List.mem_cons_self ..); simp only [List.flatMap_cons, List.length_append, recB_length, List.length_cons]; omega
      have h3 := this new hl
      have h4 := Nat.mul_le_mul_right 40008 hn
      rw [hbs]; omega
    simp only [ext0, List.getElem?_cons_zero, List.getElem?_cons_succ, optK_some, bin_neq, bne_self_eq_false, condV_false, lenV_slice, bin_gtr, hpos, condV_true, nilV_ptr, fp_ptr, Nat.zero_add, ld_t (h2.pull 2)]
    refine Write_t (h2.pull 4) reads_bytes hnt (by omega) _ ?_
    rintro _ s3 ⟨rfl, h3⟩
    refine did_t (h3.pull 3) _ ?_
    rintro _ s4 ⟨rfl, h4⟩
    simp only [bin_neq, optK_some]
    by_cases he : d.writeE bs = 0
    · have d2 : (d.writeE bs != 0) = false := by simp [he]
      simp only [d2, condV_false, nilV_ptr, fp_ptr, Nat.zero_add, optK_some, ld_t h4, List.getElem?_cons_zero]
      refine Sync_t (h4.pull 1) _ ?_
      rintro _ s5 ⟨rfl, h5⟩
      refine did_t (h5.pull 1) _ ?_
      rintro _ s6 ⟨rfl, h6⟩
      have eE : addE d bs = (d.write bs).syncE := by unfold addE; rw [if_pos he]
      have eD : addD d bs = (d.write bs).sync := by unfold addD; rw [if_pos he]
      rw [eE, eD] at hK
      simp only [bin_neq, optK_some]
      by_cases he2 : (d.write bs).syncE = 0
      · have d3 : ((d.write bs).syncE != 0) = false := by simp [he2]
        simp only [d3, condV_false, nilV_ptr, fp_ptr, Nat.zero_add, optK_some, ld_t h6, List.getElem?_cons_zero, List.getElem?_cons_succ]
        refine copiedR_t (h6.pull 3) hl (by omega) _ ?_
        intro z s7 h7
        obtain ⟨va, vc, vex, rfl⟩ := RowsH.slice (h7.pull 5)
        rw [holds_t rfl (h7.pull 2) rfl (sameV_slice _ _ _ _), chkB_true]
        refine rows_app (h7.ord [5, 0]) (by omega) fun v8 s8 h8 => ?_
        obtain ⟨xa, xc, xex, rfl⟩ := RowsH.slice h8
        refine st_t (h8.pull 2) (by simp) rfl fun s9 h9 => ?_
        refine hK _ _ ⟨by rw [he2], ?_⟩
        rw [if_pos he2, he2]
        rw [he2] at h9
        exact LogH.iff.2 ⟨_, (h9.ord [0, 1, 3]).drop 3 |>.drop 3⟩
      · have d3 : ((d.write bs).syncE != 0) = true := by simp [he2]
        simp only [d3, condV_true]
        refine hK _ _ ⟨rfl, ?_⟩
        rw [if_neg he2]
        exact LogH.iff.2 ⟨_, (h6.ord [0, 4, 1]).drop 3 |>.drop 3⟩
    · have d2 : (d.writeE bs != 0) = true := by simp [he]
      simp only [d2, condV_true]
      have eE : addE d bs = d.writeE bs := by unfold addE; rw [if_neg he]
      have eD : addD d bs = d.write bs := by unfold addD; rw [if_neg he]
      rw [eE, eD] at hK
      refine hK _ _ ⟨rfl, ?_⟩
      rw [if_neg he]
      exact LogH.iff.2 ⟨_, (h4.ord [0, 4, 1]).drop 3 |>.drop 3⟩

theorem lSwap_t (hG : ShaG G) {kl kd : Nat} {rows new : List (List UInt8)} {dead : Bool} {d : DS} {nt : Nat} {y : V} {r : List HP} {s : AS} (h : Hs G (LogH kl kd rows dead :: DiskH kd d nt :: RowsH y new :: r) s)
    (hl : ∀ row ∈ new, row.length ≤ 40000) (hn : new.length ≤ 1000) (hr : rows.length ≤ 1099511) (hnt : nt < 1099511627776) :
    Ens (fn50 (.ptr (some ⟨.new kl, 0⟩)) y) s fun u s' => if dead = true then u = .int .i64 130 ∧ Hs G (LogH kl kd rows true :: DiskH kd d nt :: r) s' else
      u = .int .i64 (d.swapE (new.flatMap recB)) ∧ Hs G (LogH kl kd (if d.swapE (new.flatMap recB) = 0 then new else rows) (d.swapE (new.flatMap recB) == 130) :: DiskH kd (d.swap (new.flatMap recB)) (nt + 1) :: r) s' := by
  intro K hK
  obtain ⟨vr, h1⟩ := LogH.iff.1 h
  unfold fn50 fn50_q
  rw [llive_t h1]
  cases dead with
  | true =>
    simp only [bin_neq, optK_some, if_true]
    exact hK _ _ ⟨rfl, LogH.iff.2 ⟨vr, h1.drop 3⟩⟩
  | false =>
    simp only [bin_neq, optK_some, Bool.false_eq_true, if_false, bne_self_eq_false, condV_false]
    simp only [Bool.false_eq_true, if_false] at hK
    refine records_t hG (h1.pull 3) hl hn _ ?_
    rintro _ s2 ⟨b, rfl, h2⟩
    obtain ⟨bs, hbs⟩ : ∃ bs, bs = new.flatMap recB := ⟨_, rfl⟩
    rw [← hbs] at h2 hK
    have hbl : bs.length ≤ 100000000 := by
      have : ∀ l : List (List UInt8), (∀ row ∈ l, row.length ≤ 40000) → (l.flatMap recB).length ≤ l.length * 40008 := fun l => by
        induction l with
        | nil => intro _; simp
        | cons x l ih => intro hh; have := ih fun row hm => hh row (List.mem_cons_of_mem _ hm); have := hh x (List.mem_cons_self ..); simp only [List.flatMap_cons, List.length_append, recB_length, List.length_cons]; omega
      have h3 := this new hl
      have h4 := Nat.mul_le_mul_right 40008 hn
      rw [hbs]; omega
    simp only [ext0, List.getElem?_cons_zero, List.getElem?_cons_succ, optK_some, bin_neq, bne_self_eq_false, condV_false, nilV_ptr, fp_ptr, Nat.zero_add, ld_t (h2.pull 2)]
    refine Swap_t (h2.pull 4) reads_bytes hnt (by omega) _ ?_
    rintro _ s3 ⟨rfl, h3⟩
    refine did_t (h3.pull 3) _ ?_
    rintro _ s4 ⟨rfl, h4⟩
    simp only [bin_neq, optK_some]
    by_cases he : d.swapE bs = 0
    · have d2 : (d.swapE bs != 0) = false := by simp [he]
      simp only [d2, condV_false, nilV_ptr, fp_ptr, Nat.zero_add, optK_some]
      refine copiedR_t (h4.pull 3) hl (by omega) _ ?_
      intro z s7 h7
      obtain ⟨va, vc, vex, rfl⟩ := RowsH.slice h7
      refine st_t (h7.pull 2) (by simp) rfl fun s9 h9 => ?_
      refine hK _ _ ⟨by rw [he], ?_⟩
      rw [if_pos he, he]
      rw [he] at h9
      exact LogH.iff.2 ⟨_, (h9.ord [0, 1, 3]).drop 3 |>.drop 3 |>.drop 3⟩
    · have d2 : (d.swapE bs != 0) = true := by simp [he]
      simp only [d2, condV_true]
      refine hK _ _ ⟨rfl, ?_⟩
      rw [if_neg he]
      exact LogH.iff.2 ⟨_, (h4.ord [0, 4, 1]).drop 3 |>.drop 3⟩
end Go.Proofs.Vt
end
section
/- PRINTED by sortgen.py: sorting of ints. -/
namespace Go.Proofs.Vt
open Go Go.Rx Go.Proofs
variable {G : Nat → Option (List V)}

def iV (z : Int) : V := .int .i64 z
theorem isNaN_t (z : Int) (s : AS) (K : K0) : fn120 (iV z) s K = K (.bool false) s := by
  unfold fn120 fn120_q iV; simp
theorem less_t (x y : Int) (s : AS) (K : K0) : fn161 (iV x) (iV y) s K = K (.bool (decide (x < y))) s := by
  unfold fn161 fn161_q
  rw [isNaN_t, grd_false]
  unfold iV; simp
def cmpZ (x y : Int) : Int := if x < y then -1 else if x > y then 1 else 0
theorem compare_t (x y : Int) (s : AS) (K : K0) : fn88 (iV x) (iV y) s K = K (.int .i64 (cmpZ x y)) s := by
  unfold fn88 fn88_q
  rw [isNaN_t, isNaN_t]
  unfold iV cmpZ
  simp only [condV_false, bin_lss, bin_gtr, optK_some]
  by_cases h1 : x < y
  · simp [h1]
  · by_cases h2 : x > y
    · simp [h1, h2]
    · simp [h1, h2]
theorem cmpV_t (x y : Int) (s : AS) (K : K0) : callV (E166 fn88) (.func (.func 88) [] []) [iV x, iV y] s K = K (.int .i64 (cmpZ x y)) s := compare_t x y s K

set_option maxRecDepth 20000 in
theorem insO_L2_t {K : KX} {v : V} {r : List HP} {s : AS} {A B C : List Int} {x : Int} {tm : Tm} {n0 : Nat} {tI : V} (hn : n0 = (A ++ x :: B ++ C).length) (hsm : n0 ≤ 1000000) (hs : (A ++ B).Pairwise (· ≤ ·)) (hx : ∀ b ∈ B, x < b)
    (h : Hs G (SlH 1 v n0 ((A ++ x :: B ++ C).map iV) :: r) s) (t0 : tm.getD 0 .junk = v) (t1 : tm.getD 1 .junk = .int .i64 0) (t2 : tm.getD 2 .junk = .int .i64 n0)  (tI' : tm.getD 6 .junk = tI) (tJ : tm.getD 7 .junk = .int .i64 (A.length : Nat))
    (hK : ∀ tm' s' (P : List Int), P.Pairwise (· ≤ ·) → P.Perm (A ++ x :: B) → Hs G (SlH 1 v n0 ((P ++ C).map iV) :: r) s' → tm'.getD 0 .junk = v → tm'.getD 1 .junk = .int .i64 0 → tm'.getD 2 .junk = .int .i64 n0 →  tm'.getD 6 .junk = tI → K (.exit 2) tm' s') :
    loopN LOOPS (fun tm s K => fn155_L2 fn161 (tm.getD 0 .junk) (tm.getD 1 .junk) (tm.getD 2 .junk) (tm.getD 6 .junk) (tm.getD 7 .junk) s K) tm s K := by
  refine loop_rule (fun m tm s1 => ∃ (A' B' : List Int), m = A'.length ∧ (A' ++ B').Pairwise (· ≤ ·) ∧ (∀ b ∈ B', x < b) ∧ (A' ++ x :: B').Perm (A ++ x :: B) ∧ Hs G (SlH 1 v n0 ((A' ++ x :: B' ++ C).map iV) :: r) s1 ∧
    tm.getD 0 .junk = v ∧ tm.getD 1 .junk = .int .i64 0 ∧ tm.getD 2 .junk = .int .i64 n0 ∧  tm.getD 6 .junk = tI ∧ tm.getD 7 .junk = .int .i64 (A'.length : Nat)) ?_
    (m := A.length) (by simp at hn; omega) ⟨A, B, rfl, hs, hx, List.Perm.refl _, h, t0, t1, t2,  tI', tJ⟩
  rintro m tm s1 Kn ⟨A', B', rfl, hs', hx', hp, h1, t0, t1, t2,  tI', tJ⟩ hnext
  simp only [t0, t1, t2,  tI', tJ]
  unfold fn155_L2
  have hlen : n0 = A'.length + (1 + B'.length) + C.length := by
    have := hp.length_eq
    simp at this hn; omega
  rcases List.eq_nil_or_concat A' with rfl | ⟨A'', y, rfl⟩
  · have d : decide ((([] : List Int).length : Int) > 0) = false := by simp
    simp only [bin_gtr, optK_some, d, grd_false, nx_exit]
    exact hK _ _ (x :: B') (List.pairwise_cons.2 ⟨fun b hb => by have := hx' b hb; omega, by simpa using hs'⟩) hp h1 rfl rfl rfl  rfl
  · simp only [List.concat_eq_append] at h1 hs' hp hlen hnext ⊢
    have hl : (A'' ++ [y]).length = A''.length + 1 := by simp
    have d : decide ((((A'' ++ [y]).length : Nat) : Int) > 0) = true := by rw [hl]; simp
    have w : IntKind.i64.wrap ((((A'' ++ [y]).length : Nat) : Int) - 1) = (A''.length : Int) := by rw [hl, wrap64 (by simp at hlen; omega) (by simp at hlen; omega)]; omega
    have gx : ((A'' ++ [y] ++ x :: B' ++ C).map iV)[(A'' ++ [y]).length]? = some (iV x) := by simp
    have gy : ((A'' ++ [y] ++ x :: B' ++ C).map iV)[A''.length]? = some (iV y) := by simp
    obtain ⟨px, ex, lx⟩ := elem1_t h1 gx .i64
    obtain ⟨py, ey, ly⟩ := elem1_t h1 gy .i64
    obtain ⟨p1, e1, st1⟩ := elemSet_t h1 (i := (A'' ++ [y]).length) (by simp at hlen; rw [hl]; omega) .i64
    rw [ex] at e1; cases e1
    simp only [bin_gtr, optK_some, d, grd_true, ex, lx, bin_sub, w, ey, ly, less_t]
    by_cases hlt : x < y
    · have hd : decide (x < y) = true := by simpa using hlt
      simp only [hd, condV_true]
      refine st1 _ _ rfl fun s2 h2 => ?_
      obtain ⟨p2, e2, st2⟩ := elemSet_t h2 (i := A''.length) (by simp at hlen; omega) .i64
      rw [ey] at e2; cases e2
      refine st2 _ _ rfl fun s3 h3 => ?_
      simp only [nx_nrm]
      have e3 : (((A'' ++ [y] ++ x :: B' ++ C).map iV).set (A'' ++ [y]).length (iV y)).set A''.length (iV x) = (A'' ++ x :: (y :: B') ++ C).map iV := by
        simp [List.set_append]
      rw [e3] at h3
      refine hnext A''.length _ _ (by simp) ⟨A'', y :: B', rfl, by simpa using hs', fun b hb => ?_, ?_, h3, rfl, rfl, rfl,  rfl, rfl⟩
      · rcases List.mem_cons.1 hb with rfl | hb
        · exact hlt
        · exact hx' b hb
      · refine List.Perm.trans ?_ hp
        rw [List.append_assoc]
        exact List.Perm.append_left _ (List.Perm.swap y x B')
    · have hd : decide (x < y) = false := by simpa using hlt
      simp only [hd, condV_false, nx_exit]
      refine hK _ _ (A'' ++ [y] ++ x :: B') ?_ hp h1 rfl rfl rfl  rfl
      rw [List.pairwise_append] at hs' ⊢
      refine ⟨hs'.1, List.pairwise_cons.2 ⟨fun b hb => by have := hx' b hb; omega, hs'.2.1⟩, fun a ha b hb => ?_⟩
      rcases List.mem_cons.1 hb with rfl | hb
      · rcases List.mem_append.1 ha with ha | ha
        · have := (List.pairwise_append.1 hs'.1).2.2 a ha y (by simp); omega
        · simp at ha; omega
      · exact hs'.2.2 a ha b hb

set_option maxRecDepth 20000 in
theorem insO_t {v : V} {r : List HP} {s : AS} {l : List Int} (hsm : l.length ≤ 1000000) (h : Hs G (SlH 1 v l.length (l.map iV) :: r) s) :
    Ens (fn155 v (.int .i64 0) (.int .i64 l.length)) s fun u s' => u = .tuple [] ∧ ∃ l' : List Int, l'.Pairwise (· ≤ ·) ∧ l'.Perm l ∧ Hs G (SlH 1 v l.length (l'.map iV) :: r) s' := by
  intro K hK
  unfold fn155 fn155_q
  have w0 : IntKind.i64.wrap (0 + 1) = ((1 : Nat) : Int) := by decide
  simp only [bin_add, optK_some, w0]
  refine loop_rule (fun m tm s1 => ∃ (i : Nat) (P C : List Int), 1 ≤ i ∧ P.length = min i l.length ∧ m + P.length = l.length ∧ P.Pairwise (· ≤ ·) ∧ (P ++ C).Perm l ∧ Hs G (SlH 1 v l.length ((P ++ C).map iV) :: r) s1 ∧
    tm.getD 0 .junk = v ∧ tm.getD 1 .junk = .int .i64 0 ∧ tm.getD 2 .junk = .int .i64 l.length ∧  tm.getD 6 .junk = .int .i64 (i : Nat)) ?_ (m := l.length - min 1 l.length) (by omega) ?_
  · rintro m tm s1 Kn ⟨i, P, C, hi1, hPl, hm, hs, hp, h1, t0, t1, t2,  tI'⟩ hnext
    simp only [t0, t1, t2,  tI']
    unfold fn155_L1
    have hpl := hp.length_eq
    simp only [List.length_append] at hpl
    by_cases hi : i < l.length
    · obtain ⟨x, C', rfl⟩ : ∃ x C', C = x :: C' := by
        cases C with
        | nil => simp at hpl; omega
        | cons x C' => exact ⟨x, C', rfl⟩
      have hPi : P.length = i := by omega
      have d : decide ((i : Int) < (l.length : Int)) = true := by simp; omega
      have w : IntKind.i64.wrap ((i : Int) + 1) = ((i + 1 : Nat) : Int) := by rw [wrap64 (by omega) (by omega)]; omega
      simp only [bin_lss, optK_some, d, condV_true]
      have h1' : Hs G (SlH 1 v l.length ((P ++ x :: [] ++ C').map iV) :: r) s1 := by simpa using h1
      refine insO_L2_t (A := P) (B := []) (C := C') (x := x) (tI := .int .i64 (i : Nat)) (by simp; simp at hpl; omega) hsm (by simpa using hs) (by simp) h1' rfl rfl rfl  rfl (by rw [hPi]; rfl) ?_
      intro tm' s2 P' hs' hp' h2 e0 e1 e2  eI
      simp only [exX_exit, beq_self_eq_true, exB_true, e0, e1, e2,  eI, bin_add, optK_some, w, nx_nrm]
      have hPl' := hp'.length_eq
      simp only [List.length_append, List.length_cons, List.length_nil] at hPl' hpl
      refine hnext (l.length - (i + 1)) _ _ (by omega) ⟨i + 1, P', C', by omega, by omega, by omega, hs', ?_, h2, rfl, rfl, rfl,  rfl⟩
      refine (List.Perm.append_right C' hp').trans ?_
      simpa using hp
    · have d : decide ((i : Int) < (l.length : Int)) = false := by simp; omega
      have hC : C = [] := List.eq_nil_of_length_eq_zero (by omega)
      subst hC
      rw [List.append_nil] at h1 hp
      simp only [bin_lss, optK_some, d, condV_false, nx_exit, exX_exit, beq_self_eq_true, exB_true]
      exact hK _ _ ⟨rfl, P, hs, hp, h1⟩
  · cases l with
    | nil => exact ⟨1, [], [], Nat.le_refl _, by simp, by simp, by simp, List.Perm.refl _, h, rfl, rfl, rfl,  rfl⟩
    | cons z l => exact ⟨1, [z], l, Nat.le_refl _, by simp, by simp, by simp, List.Perm.refl _, h, rfl, rfl, rfl,  rfl⟩

set_option maxRecDepth 20000 in
theorem insF_L2_t {K : KX} {v : V} {r : List HP} {s : AS} {A B C : List Int} {x : Int} {tm : Tm} {n0 : Nat} {tI : V} (hn : n0 = (A ++ x :: B ++ C).length) (hsm : n0 ≤ 1000000) (hs : (A ++ B).Pairwise (· ≤ ·)) (hx : ∀ b ∈ B, x < b)
    (h : Hs G (SlH 1 v n0 ((A ++ x :: B ++ C).map iV) :: r) s) (t0 : tm.getD 0 .junk = v) (t1 : tm.getD 1 .junk = .int .i64 0) (t2 : tm.getD 2 .junk = .int .i64 n0) (t3 : tm.getD 3 .junk = .func (.func 88) [] []) (tI' : tm.getD 8 .junk = tI) (tJ : tm.getD 9 .junk = .int .i64 (A.length : Nat))
    (hK : ∀ tm' s' (P : List Int), P.Pairwise (· ≤ ·) → P.Perm (A ++ x :: B) → Hs G (SlH 1 v n0 ((P ++ C).map iV) :: r) s' → tm'.getD 0 .junk = v → tm'.getD 1 .junk = .int .i64 0 → tm'.getD 2 .junk = .int .i64 n0 → tm'.getD 3 .junk = .func (.func 88) [] [] → tm'.getD 8 .junk = tI → K (.exit 2) tm' s') :
    loopN LOOPS (fun tm s K => fn166_L2 fn88 (tm.getD 0 .junk) (tm.getD 1 .junk) (tm.getD 2 .junk) (tm.getD 3 .junk) (tm.getD 8 .junk) (tm.getD 9 .junk) s K) tm s K := by
  refine loop_rule (fun m tm s1 => ∃ (A' B' : List Int), m = A'.length ∧ (A' ++ B').Pairwise (· ≤ ·) ∧ (∀ b ∈ B', x < b) ∧ (A' ++ x :: B').Perm (A ++ x :: B) ∧ Hs G (SlH 1 v n0 ((A' ++ x :: B' ++ C).map iV) :: r) s1 ∧
    tm.getD 0 .junk = v ∧ tm.getD 1 .junk = .int .i64 0 ∧ tm.getD 2 .junk = .int .i64 n0 ∧ tm.getD 3 .junk = .func (.func 88) [] [] ∧ tm.getD 8 .junk = tI ∧ tm.getD 9 .junk = .int .i64 (A'.length : Nat)) ?_
    (m := A.length) (by simp at hn; omega) ⟨A, B, rfl, hs, hx, List.Perm.refl _, h, t0, t1, t2, t3, tI', tJ⟩
  rintro m tm s1 Kn ⟨A', B', rfl, hs', hx', hp, h1, t0, t1, t2, t3, tI', tJ⟩ hnext
  simp only [t0, t1, t2, t3, tI', tJ]
  unfold fn166_L2
  have hlen : n0 = A'.length + (1 + B'.length) + C.length := by
    have := hp.length_eq
    simp at this hn; omega
  rcases List.eq_nil_or_concat A' with rfl | ⟨A'', y, rfl⟩
  · have d : decide ((([] : List Int).length : Int) > 0) = false := by simp
    simp only [bin_gtr, optK_some, d, grd_false, nx_exit]
    exact hK _ _ (x :: B') (List.pairwise_cons.2 ⟨fun b hb => by have := hx' b hb; omega, by simpa using hs'⟩) hp h1 rfl rfl rfl rfl rfl
  · simp only [List.concat_eq_append] at h1 hs' hp hlen hnext ⊢
    have hl : (A'' ++ [y]).length = A''.length + 1 := by simp
    have d : decide ((((A'' ++ [y]).length : Nat) : Int) > 0) = true := by rw [hl]; simp
    have w : IntKind.i64.wrap ((((A'' ++ [y]).length : Nat) : Int) - 1) = (A''.length : Int) := by rw [hl, wrap64 (by simp at hlen; omega) (by simp at hlen; omega)]; omega
    have gx : ((A'' ++ [y] ++ x :: B' ++ C).map iV)[(A'' ++ [y]).length]? = some (iV x) := by simp
    have gy : ((A'' ++ [y] ++ x :: B' ++ C).map iV)[A''.length]? = some (iV y) := by simp
    obtain ⟨px, ex, lx⟩ := elem1_t h1 gx .i64
    obtain ⟨py, ey, ly⟩ := elem1_t h1 gy .i64
    obtain ⟨p1, e1, st1⟩ := elemSet_t h1 (i := (A'' ++ [y]).length) (by simp at hlen; rw [hl]; omega) .i64
    rw [ex] at e1; cases e1
    simp only [bin_gtr, optK_some, d, grd_true, ex, lx, bin_sub, w, ey, ly, cmpV_t, bin_lss]
    by_cases hlt : x < y
    · have hd : decide (cmpZ x y < 0) = true := by simp [cmpZ, hlt]
      simp only [hd, condV_true]
      refine st1 _ _ rfl fun s2 h2 => ?_
      obtain ⟨p2, e2, st2⟩ := elemSet_t h2 (i := A''.length) (by simp at hlen; omega) .i64
      rw [ey] at e2; cases e2
      refine st2 _ _ rfl fun s3 h3 => ?_
      simp only [nx_nrm]
      have e3 : (((A'' ++ [y] ++ x :: B' ++ C).map iV).set (A'' ++ [y]).length (iV y)).set A''.length (iV x) = (A'' ++ x :: (y :: B') ++ C).map iV := by
        simp [List.set_append]
      rw [e3] at h3
      refine hnext A''.length _ _ (by simp) ⟨A'', y :: B', rfl, by simpa using hs', fun b hb => ?_, ?_, h3, rfl, rfl, rfl, rfl, rfl, rfl⟩
      · rcases List.mem_cons.1 hb with rfl | hb
        · exact hlt
        · exact hx' b hb
      · refine List.Perm.trans ?_ hp
        rw [List.append_assoc]
        exact List.Perm.append_left _ (List.Perm.swap y x B')
    · have hd : decide (cmpZ x y < 0) = false := by unfold cmpZ; rw [if_neg hlt]; split <;> simp
      simp only [hd, condV_false, nx_exit]
      refine hK _ _ (A'' ++ [y] ++ x :: B') ?_ hp h1 rfl rfl rfl rfl rfl
      rw [List.pairwise_append] at hs' ⊢
      refine ⟨hs'.1, List.pairwise_cons.2 ⟨fun b hb => by have := hx' b hb; omega, hs'.2.1⟩, fun a ha b hb => ?_⟩
      rcases List.mem_cons.1 hb with rfl | hb
      · rcases List.mem_append.1 ha with ha | ha
        · have := (List.pairwise_append.1 hs'.1).2.2 a ha y (by simp); omega
        · simp at ha; omega
      · exact hs'.2.2 a ha b hb

set_option maxRecDepth 20000 in
theorem insF_t {v : V} {r : List HP} {s : AS} {l : List Int} (hsm : l.length ≤ 1000000) (h : Hs G (SlH 1 v l.length (l.map iV) :: r) s) :
    Ens (fn166 v (.int .i64 0) (.int .i64 l.length) (.func (.func 88) [] [])) s fun u s' => u = .tuple [] ∧ ∃ l' : List Int, l'.Pairwise (· ≤ ·) ∧ l'.Perm l ∧ Hs G (SlH 1 v l.length (l'.map iV) :: r) s' := by
  intro K hK
  unfold fn166 fn166_q
  have w0 : IntKind.i64.wrap (0 + 1) = ((1 : Nat) : Int) := by decide
  simp only [bin_add, optK_some, w0]
  refine loop_rule (fun m tm s1 => ∃ (i : Nat) (P C : List Int), 1 ≤ i ∧ P.length = min i l.length ∧ m + P.length = l.length ∧ P.Pairwise (· ≤ ·) ∧ (P ++ C).Perm l ∧ Hs G (SlH 1 v l.length ((P ++ C).map iV) :: r) s1 ∧
    tm.getD 0 .junk = v ∧ tm.getD 1 .junk = .int .i64 0 ∧ tm.getD 2 .junk = .int .i64 l.length ∧ tm.getD 3 .junk = .func (.func 88) [] [] ∧ tm.getD 8 .junk = .int .i64 (i : Nat)) ?_ (m := l.length - min 1 l.length) (by omega) ?_
  · rintro m tm s1 Kn ⟨i, P, C, hi1, hPl, hm, hs, hp, h1, t0, t1, t2, t3, tI'⟩ hnext
    simp only [t0, t1, t2, t3, tI']
    unfold fn166_L1
    have hpl := hp.length_eq
    simp only [List.length_append] at hpl
    by_cases hi : i < l.length
    · obtain ⟨x, C', rfl⟩ : ∃ x C', C = x :: C' := by
        cases C with
        | nil => simp at hpl; omega
        | cons x C' => exact ⟨x, C', rfl⟩
      have hPi : P.length = i := by omega
      have d : decide ((i : Int) < (l.length : Int)) = true := by simp; omega
      have w : IntKind.i64.wrap ((i : Int) + 1) = ((i + 1 : Nat) : Int) := by rw [wrap64 (by omega) (by omega)]; omega
      simp only [bin_lss, optK_some, d, condV_true]
      have h1' : Hs G (SlH 1 v l.length ((P ++ x :: [] ++ C').map iV) :: r) s1 := by simpa using h1
      refine insF_L2_t (A := P) (B := []) (C := C') (x := x) (tI := .int .i64 (i : Nat)) (by simp; simp at hpl; omega) hsm (by simpa using hs) (by simp) h1' rfl rfl rfl rfl rfl (by rw [hPi]; rfl) ?_
      intro tm' s2 P' hs' hp' h2 e0 e1 e2 e3 eI
      simp only [exX_exit, beq_self_eq_true, exB_true, e0, e1, e2, e3, eI, bin_add, optK_some, w, nx_nrm]
      have hPl' := hp'.length_eq
      simp only [List.length_append, List.length_cons, List.length_nil] at hPl' hpl
      refine hnext (l.length - (i + 1)) _ _ (by omega) ⟨i + 1, P', C', by omega, by omega, by omega, hs', ?_, h2, rfl, rfl, rfl, rfl, rfl⟩
      refine (List.Perm.append_right C' hp').trans ?_
      simpa using hp
    · have d : decide ((i : Int) < (l.length : Int)) = false := by simp; omega
      have hC : C = [] := List.eq_nil_of_length_eq_zero (by omega)
      subst hC
      rw [List.append_nil] at h1 hp
      simp only [bin_lss, optK_some, d, condV_false, nx_exit, exX_exit, beq_self_eq_true, exB_true]
      exact hK _ _ ⟨rfl, P, hs, hp, h1⟩
  · cases l with
    | nil => exact ⟨1, [], [], Nat.le_refl _, by simp, by simp, by simp, List.Perm.refl _, h, rfl, rfl, rfl, rfl, rfl⟩
    | cons z l => exact ⟨1, [z], l, Nat.le_refl _, by simp, by simp, by simp, List.Perm.refl _, h, rfl, rfl, rfl, rfl, rfl⟩
end Go.Proofs.Vt
end
section
/- Sorting of ints, by the package's functions. -/
namespace Go.Proofs.Vt
open Go Go.Rx Go.Proofs
variable {G : Nat → Option (List V)}

abbrev IntsH (v : V) (l : List Int) : HP := SlH 1 v l.length (l.map iV)
theorem iV_flat (l : List Int) : (l.map iV).all flatV = true := by
  rw [List.all_eq_true]; intro x hx
  obtain ⟨y, _, rfl⟩ := List.mem_map.1 hx
  rfl
theorem iV_ints (l : List Int) : intsV (l.map iV) = true := by
  unfold intsV; rw [List.all_eq_true]; intro x hx
  obtain ⟨y, _, rfl⟩ := List.mem_map.1 hx
  rfl

theorem len_t : ∀ n : Fin 13, ∀ s : AS, Ens (fn143 (.int .u64 (n.1 : Nat))) s fun u s' => s' = s ∧ ∃ z, u = .int .i64 z
  | ⟨0, _⟩, s | ⟨1, _⟩, s | ⟨2, _⟩, s | ⟨3, _⟩, s | ⟨4, _⟩, s | ⟨5, _⟩, s | ⟨6, _⟩, s | ⟨7, _⟩, s | ⟨8, _⟩, s | ⟨9, _⟩, s | ⟨10, _⟩, s | ⟨11, _⟩, s | ⟨12, _⟩, s => fun K hK => hK _ _ ⟨rfl, _, rfl⟩

theorem cvt64 (n : Nat) (hn : n ≤ 12) (s : AS) (K : K0) : cvt (Kd.int .i64) (Kd.int .u64) (.int .i64 (n : Nat)) s K = K (.int .u64 (n : Nat)) s := by
  simp only [cvt, convI, optK_some]
  rw [wrapu64 (by omega) (by omega)]

theorem pdqO_t {v : V} {r : List HP} {s : AS} {l : List Int} {z : V} (hl : l.length ≤ 12) (h : Hs G (IntsH v l :: r) s) :
    Ens (fn142 v (.int .i64 0) (.int .i64 l.length) z) s fun u s' => u = .tuple [] ∧ ∃ l' : List Int, l'.Pairwise (· ≤ ·) ∧ l'.Perm l ∧ Hs G (IntsH v l' :: r) s' := by
  intro K hK
  unfold fn142 fn142_q
  refine loop_rule (fun m tm s1 => s1 = s ∧ tm.getD 0 .junk = v ∧ tm.getD 1 .junk = .int .i64 0 ∧ tm.getD 2 .junk = .int .i64 l.length) ?_ (m := 0) (by omega) ⟨rfl, rfl, rfl, rfl⟩
  rintro m tm s1 Kn ⟨rfl, t0, t1, t2⟩ hnext
  simp only [t0, t1, t2]
  unfold fn142_L1
  have w : IntKind.i64.wrap ((l.length : Int) - 0) = (l.length : Int) := by rw [wrap64 (by omega) (by omega)]; omega
  have d : decide ((l.length : Int) ≤ 12) = true := by simp; omega
  simp only [bin_sub, optK_some, w, bin_leq, d, condV_true]
  refine insO_t (by omega) h _ ?_
  rintro _ s2 ⟨rfl, l', h1, h2, h3⟩
  simp only [nx_ret, exX_ret]
  refine hK _ _ ⟨rfl, l', h1, h2, ?_⟩
  have := h2.length_eq
  rw [← this] at h3; exact h3
theorem pdqF_t {v : V} {r : List HP} {s : AS} {l : List Int} {z : V} (hl : l.length ≤ 12) (h : Hs G (IntsH v l :: r) s) :
    Ens (fn144 v (.int .i64 0) (.int .i64 l.length) z (.func (.func 88) [] [])) s fun u s' => u = .tuple [] ∧ ∃ l' : List Int, l'.Pairwise (· ≤ ·) ∧ l'.Perm l ∧ Hs G (IntsH v l' :: r) s' := by
  intro K hK
  unfold fn144 fn144_q
  refine loop_rule (fun m tm s1 => s1 = s ∧ tm.getD 0 .junk = v ∧ tm.getD 1 .junk = .int .i64 0 ∧ tm.getD 2 .junk = .int .i64 l.length ∧ tm.getD 4 .junk = .func (.func 88) [] []) ?_ (m := 0) (by omega) ⟨rfl, rfl, rfl, rfl, rfl⟩
  rintro m tm s1 Kn ⟨rfl, t0, t1, t2, t4⟩ hnext
  simp only [t0, t1, t2, t4]
  unfold fn144_L1
  have w : IntKind.i64.wrap ((l.length : Int) - 0) = (l.length : Int) := by rw [wrap64 (by omega) (by omega)]; omega
  have d : decide ((l.length : Int) ≤ 12) = true := by simp; omega
  simp only [bin_sub, optK_some, w, bin_leq, d, condV_true]
  refine insF_t (by omega) h _ ?_
  rintro _ s2 ⟨rfl, l', h1, h2, h3⟩
  simp only [nx_ret, exX_ret]
  refine hK _ _ ⟨rfl, l', h1, h2, ?_⟩
  have := h2.length_eq
  rw [← this] at h3; exact h3
theorem Sort_t {v : V} {r : List HP} {s : AS} {l : List Int} (hl : l.length ≤ 12) (h : Hs G (IntsH v l :: r) s) :
    Ens (fn116 v) s fun u s' => u = .tuple [] ∧ ∃ l' : List Int, l'.Pairwise (· ≤ ·) ∧ l'.Perm l ∧ Hs G (IntsH v l' :: r) s' := by
  intro K hK
  obtain ⟨a, c, ex, rfl⟩ := slH_slice h
  unfold fn116 fn116_q
  simp only [lenV_slice, optK_some]
  rw [cvt64 _ hl]
  refine len_t ⟨l.length, by omega⟩ s _ ?_
  rintro _ s1 ⟨rfl, z, rfl⟩
  refine pdqO_t hl h _ ?_
  rintro _ s2 ⟨rfl, h2⟩
  exact hK _ _ ⟨rfl, h2⟩
theorem SortFunc_t {v : V} {r : List HP} {s : AS} {l : List Int} (hl : l.length ≤ 12) (h : Hs G (IntsH v l :: r) s) :
    Ens (fn118 v (.func (.func 88) [] [])) s fun u s' => u = .tuple [] ∧ ∃ l' : List Int, l'.Pairwise (· ≤ ·) ∧ l'.Perm l ∧ Hs G (IntsH v l' :: r) s' := by
  intro K hK
  obtain ⟨a, c, ex, rfl⟩ := slH_slice h
  unfold fn118 fn118_q
  simp only [lenV_slice, optK_some]
  rw [cvt64 _ hl]
  refine len_t ⟨l.length, by omega⟩ s _ ?_
  rintro _ s1 ⟨rfl, z, rfl⟩
  refine pdqF_t hl h _ ?_
  rintro _ s2 ⟨rfl, h2⟩
  exact hK _ _ ⟨rfl, h2⟩

/-! ### Collect -/
theorem seqRes_t {l : List Int} {r : List HP} {s : AS} (h : Hs G r s) {K : K0} (hK : ∀ u s', Hs G (IntsH u l :: r) s' → K u s') : seqRes (l.map iV) s K := by
  cases l with
  | nil => exact hK _ _ (h.slNil 1 true)
  | cons z l =>
    refine hK _ _ ?_
    have := ob_slH (sz := 1) (n := l.length + 1) (c := l.length + 1) (ex := false) (xs := (z :: l).map iV) (h.alloc (.cells ((z :: l).map iV) 1)) (by rw [List.take_of_length_le (by simp)]) (by simp) (iV_flat _) (Nat.le_refl _) (by simp) (.inr ⟨by omega, rfl⟩)
    simp only [List.length_map]
    exact this

theorem Values_t {v : V} (hv : flatV v = true) {r : List HP} {s : AS} (h : Hs G r s) : Ens (fn81 v) s fun u s' => ∃ k, u = .func (.func 117) [] [.ptr (some ⟨.new k, 0⟩)] ∧ Hs G (Ob k (.cells [v] 0) :: r) s' := by
  intro K hK
  unfold fn81 fn81_q
  refine box1_t hv h fun k s1 h1 => hK _ _ ⟨k, rfl, h1⟩
theorem Sorted_t {k : Nat} {v : V} {l : List Int} (hl : l.length ≤ 12) {r : List HP} {s : AS} (h : Hs G (Ob k (.cells [v] 0) :: IntsH v l :: r) s) :
    Ens (fn80 (.func (.func 117) [] [.ptr (some ⟨.new k, 0⟩)])) s fun u s' => ∃ l' : List Int, l'.Pairwise (· ≤ ·) ∧ l'.Perm l ∧ Hs G (IntsH u l' :: IntsH v l :: r) s' := by
  intro K hK
  obtain ⟨a, c, ex, rfl⟩ := slH_slice (h.pull 1)
  unfold fn80 fn80_q slices_CollectI collectM collectX
  have e : ldC s ⟨.new k, 0⟩ = some (.slice a l.length c ex) := by simp [ldC, cellsAt, h.get]
  obtain ⟨e1, e2⟩ := slH_src (h.pull 1)
  simp only [e, if_true, e2]
  refine ⟨⟨iV_ints l, by omega⟩, ?_⟩
  refine seqRes_t h fun u s1 h1 => ?_
  refine Sort_t hl h1 _ ?_
  rintro _ s2 ⟨rfl, l', h2, h3, h4⟩
  exact hK _ _ ⟨l', h2, h3, h4.drop 1⟩

theorem Keys_t {v : V} (hv : flatV v = true) {r : List HP} {s : AS} (h : Hs G r s) : Ens (fn87 v) s fun u s' => ∃ k, u = .func (.func 119) [] [.ptr (some ⟨.new k, 0⟩)] ∧ Hs G (Ob k (.cells [v] 0) :: r) s' := by
  intro K hK
  unfold fn87 fn87_q
  refine box1_t hv h fun k s1 h1 => hK _ _ ⟨k, rfl, h1⟩
def zOf : V → Int | .int _ z => z | _ => 0
theorem perm_ints {ks : List V} {l : List Int} (h : ks.Perm (l.map iV)) : ∃ l' : List Int, ks = l'.map iV ∧ l'.Perm l := by
  refine ⟨ks.map zOf, ?_, ?_⟩
  · rw [List.map_map]
    have : ∀ x ∈ ks, (iV ∘ zOf) x = x := fun x hx => by
      obtain ⟨y, _, rfl⟩ := List.mem_map.1 (h.mem_iff.1 hx)
      rfl
    rw [List.map_congr_left this, List.map_id']
  · have := h.map zOf
    rw [List.map_map] at this
    have e : (zOf ∘ iV) = id := rfl
    rw [e, List.map_id] at this; exact this
theorem SortedFunc_t {k km clock : Nat} {es : List (V × V × Nat)} {l : List Int} (hes : es.map (·.1) = l.map iV) (hko : KeysOk es clock) (hl : l.length ≤ 12) {r : List HP} {s : AS} (h : Hs G (Ob k (.cells [.map (some km)] 0) :: Ob km (.map es clock) :: r) s) :
    Ens (fn86 (.func (.func 119) [] [.ptr (some ⟨.new k, 0⟩)]) (.func (.func 88) [] [])) s fun u s' => ∃ l' : List Int, l'.Pairwise (· ≤ ·) ∧ l'.Perm l ∧ Hs G (IntsH u l' :: Ob km (.map es clock) :: r) s' := by
  intro K hK
  unfold fn86 fn86_q slices_CollectI collectM collectX
  have e : ldC s ⟨.new k, 0⟩ = some (.map (some km)) := by simp [ldC, cellsAt, h.get]
  have e2 := (h.pull 1).get
  simp only [e, e2]
  rw [if_neg (by decide), if_pos trivial]
  refine ⟨hko, fun ks hp => ?_⟩
  rw [hes] at hp
  obtain ⟨l1, rfl, hp1⟩ := perm_ints hp
  refine seqRes_t h fun u s1 h1 => ?_
  refine SortFunc_t (by rw [hp1.length_eq]; exact hl) h1 _ ?_
  rintro _ s2 ⟨rfl, l', h2, h3, h4⟩
  exact hK _ _ ⟨l', h2, h3.trans hp1, h4.drop 1⟩
end Go.Proofs.Vt
end
section
/- Configs: which may be, and their bytes. -/
namespace Go.Proofs.Vt
open Go Go.Rx Go.Proofs
variable {G : Nat → Option (List V)}

/-- A config. -/
structure Cf where
  num : Nat
  full : Nat
  chain : List Nat
structure Cf.ok (c : Cf) : Prop where
  num : c.num ≤ 9007199254740991
  rep : ∀ n ∈ c.chain, 10 ≤ n ∧ n ≤ 13
  nodup : c.chain.Nodup
  len : 1 ≤ c.chain.length ∧ c.chain.length ≤ 4
  full : 1 ≤ c.full ∧ c.full ≤ c.chain.length
abbrev zs (l : List Nat) : List Int := l.map fun n : Nat => (n : Int)
abbrev NatsH (v : V) (l : List Nat) : HP := IntsH v (zs l)
def cfV (c : Cf) (v : V) : V := .agg [.int .i64 c.num, .int .i64 c.full, v]

theorem within_t (n a b : Int) (s : AS) (K : K0) : fn84 (.int .i64 n) (.int .i64 a) (.int .i64 b) s K = K (.bool (decide (a ≤ n ∧ n ≤ b))) s := by
  unfold fn84 fn84_q
  by_cases h1 : a ≤ n
  · simp [h1]
  · simp [h1]
theorem replica_t (n : Int) (s : AS) (K : K0) : fn79 (.int .i64 n) s K = K (.bool (decide (10 ≤ n ∧ n ≤ 13))) s := by
  unfold fn79 fn79_q
  rw [within_t]
theorem CheckConf_1_t (n : Int) (s : AS) (K : K0) : fn78 (.int .i64 n) s K = K (.bool !(decide (10 ≤ n ∧ n ≤ 13))) s := by
  unfold fn78 fn78_q
  rw [replica_t]; simp only [un_not, optK_some]

theorem IndexFunc_t {v : V} {l : List Int} {r : List HP} {s : AS} (h : Hs G (IntsH v l :: r) s) (hl : l.length ≤ 1000000) (hr : ∀ n ∈ l, 10 ≤ n ∧ n ≤ 13) (K : K0) (hK : K (.int .i64 (-1)) s) :
    fn114 v (.func (.func 78) [] []) s K := by
  obtain ⟨a, c, ex, rfl⟩ := slH_slice h
  unfold fn114 fn114_q
  simp only [lenV_slice, optK_some]
  refine loop_rule (fun m tm s1 => ∃ i : Nat, m + i = l.length ∧ s1 = s ∧ tm.getD 0 .junk = .slice a l.length c ex ∧ tm.getD 1 .junk = .func (.func 78) [] [] ∧ tm.getD 7 .junk = .int .i64 l.length ∧ tm.getD 8 .junk = .int .i64 (i : Nat)) ?_ (m := l.length) (by omega) ⟨0, by omega, rfl, rfl, rfl, rfl, rfl⟩
  rintro m tm s1 Kn ⟨i, hm, rfl, t0, t1, t7, t8⟩ hnext
  simp only [t0, t1, t7, t8]
  unfold fn114_L1
  by_cases hi : i < l.length
  · have d : decide ((i : Int) < (l.length : Int)) = true := by simp; omega
    have w : IntKind.i64.wrap ((i : Int) + 1) = ((i + 1 : Nat) : Int) := by rw [wrap64 (by omega) (by omega)]; omega
    have hx : (l.map iV)[i]? = some (iV l[i]) := by simp [hi]
    obtain ⟨p, e1, l1⟩ := elem1_t h hx .i64
    have hc : ∀ s K, callV (E114 fn78) (.func (.func 78) [] []) [iV l[i]] s K = K (.bool false) s := fun s K => by
      have : decide (10 ≤ l[i] ∧ l[i] ≤ 13) = true := by simpa using hr l[i] (List.getElem_mem ..)
      have e := CheckConf_1_t l[i] s K
      rw [this] at e; exact e
    simp only [bin_lss, optK_some, d, condV_true, e1, l1, hc, condV_false, bin_add, w, nx_nrm]
    exact hnext (l.length - (i + 1)) _ _ (by omega) ⟨i + 1, by omega, rfl, rfl, rfl, rfl, rfl⟩
  · have d : decide ((i : Int) < (l.length : Int)) = false := by simp; omega
    simp only [bin_lss, optK_some, d, condV_false, nx_exit, exX_exit, beq_self_eq_true, exB_true]
    exact hK

theorem Compact_t {v : V} {l : List Int} {r : List HP} {s : AS} (h : Hs G (IntsH v l :: r) s) (hl : l.length ≤ 1000000) (hs : l.Pairwise (· < ·)) (K : K0) (hK : K v s) : fn83 v s K := by
  obtain ⟨a, c, ex, rfl⟩ := slH_slice h
  unfold fn83 fn83_q
  simp only [lenV_slice, optK_some, bin_lss]
  by_cases h2 : l.length < 2
  · have d : decide ((l.length : Int) < 2) = true := by simp; omega
    simp only [d, condV_true]; exact hK
  · have d : decide ((l.length : Int) < 2) = false := by simp; omega
    simp only [d, condV_false]
    refine loop_rule (fun m tm s1 => ∃ i : Nat, m + i = l.length ∧ 1 ≤ i ∧ s1 = s ∧ tm.getD 0 .junk = .slice a l.length c ex ∧ tm.getD 3 .junk = .int .i64 (i : Nat)) ?_ (m := l.length - 1) (by omega) ⟨1, by omega, Nat.le_refl _, rfl, rfl, rfl⟩
    rintro m tm s1 Kn ⟨i, hm, hi1, rfl, t0, t3⟩ hnext
    simp only [t0, t3]
    unfold fn83_L1
    by_cases hi : i < l.length
    · have d : decide ((i : Int) < (l.length : Int)) = true := by simp; omega
      have w : IntKind.i64.wrap ((i : Int) + 1) = ((i + 1 : Nat) : Int) := by rw [wrap64 (by omega) (by omega)]; omega
      have w1 : IntKind.i64.wrap ((i : Int) - 1) = ((i - 1 : Nat) : Int) := by rw [wrap64 (by omega) (by omega)]; omega
      have hx : (l.map iV)[i]? = some (iV l[i]) := by simp [hi]
      have hy : (l.map iV)[i - 1]? = some (iV (l[i - 1]'(by omega))) := by simp [show i - 1 < l.length by omega]
      obtain ⟨p, e1, l1⟩ := elem1_t h hx .i64
      obtain ⟨q, e2, l2⟩ := elem1_t h hy .i64
      have hlt : l[i - 1]'(by omega) < l[i] := List.pairwise_iff_getElem.1 hs (i - 1) i (by omega) hi (by omega)
      have hne : (l[i] == l[i - 1]'(by omega)) = false := by simp; omega
      simp only [lenV_slice, optK_some, bin_lss, d, condV_true, e1, l1, bin_sub, w1, e2, l2]
      unfold iV
      simp only [bin_eql, optK_some, hne, condV_false, bin_add, w, nx_nrm]
      exact hnext (l.length - (i + 1)) _ _ (by omega) ⟨i + 1, by omega, by omega, rfl, rfl, rfl⟩
    · have d : decide ((i : Int) < (l.length : Int)) = false := by simp; omega
      simp only [lenV_slice, optK_some, bin_lss, d, condV_false, nx_exit, exX_exit, beq_self_eq_true, exB_true]
      exact hK

theorem strict_of {l : List Int} (h : l.Pairwise (· ≤ ·)) (hn : l.Nodup) : l.Pairwise (· < ·) := by
  have := h.and hn
  exact this.imp fun ⟨h1, h2⟩ => by omega

theorem CheckConf_t {c : Cf} (hc : c.ok) {v : V} {r : List HP} {s : AS} (h : Hs G (NatsH v c.chain :: r) s) : Ens (fn42 (cfV c v)) s fun u s' => u = .int .i64 0 ∧ Hs G (NatsH v c.chain :: r) s' := by
  intro K hK
  obtain ⟨a, cc, ex, rfl⟩ := slH_slice h
  have hlen : (zs c.chain).length = c.chain.length := by simp
  have hl4 := hc.len; have hfu := hc.full; have hnu := hc.num
  unfold fn42 fn42_q cfV
  refine boxA_t h fun k s1 h1 => ?_
  simp only [fp_ptr, optK_some, Nat.zero_add, ld_t h1, List.getElem?_cons_zero, List.getElem?_cons_succ]
  unfold fn77 fn77_q
  refine IndexFunc_t (h1.pull 1) (by omega) (fun n hn => ?_) _ ?_
  · obtain ⟨m, hm, rfl⟩ := List.mem_map.1 hn
    have := hc.rep m hm; omega
  have d1 : decide ((-1 : Int) ≥ 0) = false := by decide
  simp only [bin_geq, optK_some, d1, ld_t h1, List.getElem?_cons_zero, List.getElem?_cons_succ]
  refine Values_t (v := .slice a (zs c.chain).length cc ex) rfl h1 _ ?_
  rintro _ s2 ⟨k2, rfl, h2⟩
  refine Sorted_t (by omega) (h2.ord [0, 2]) _ ?_
  rintro u s3 ⟨l', hs', hp', h3⟩
  have hnd : l'.Nodup := by
    refine hp'.nodup_iff.2 ?_
    refine List.Pairwise.map _ ?_ hc.nodup
    intro a b hab e; exact hab (by omega)
  have hll : l'.length = c.chain.length := by rw [hp'.length_eq, hlen]
  obtain ⟨ua, uc, uex, rfl⟩ := slH_slice h3
  simp only [un_not, Bool.not_false, optK_some, grd_true]
  refine Compact_t h3 (by omega) (strict_of hs' hnd) _ ?_
  have hk3 := h3.pull 2
  simp only [lenV_slice, optK_some, ld_t hk3, List.getElem?_cons_zero, List.getElem?_cons_succ]
  rw [holds_t rfl hk3 (by rfl) (sameV_slice _ _ _ _), chkB_true]
  have d2 : ((l'.length : Int) == ((zs c.chain).length : Int)) = true := by rw [hll, hlen]; simp
  have e1 : decide ((0 : Int) ≤ (c.num : Int) ∧ (c.num : Int) ≤ 9007199254740991) = true := by simp; omega
  have e2 : decide ((1 : Int) ≤ ((zs c.chain).length : Int) ∧ ((zs c.chain).length : Int) ≤ 4) = true := by rw [hlen]; simp; omega
  have e3 : decide ((1 : Int) ≤ (c.full : Int) ∧ (c.full : Int) ≤ ((zs c.chain).length : Int)) = true := by rw [hlen]; simp; omega
  simp only [bin_eql, d2, optK_some, grd_true, ld_t hk3, List.getElem?_cons_zero, List.getElem?_cons_succ, within_t, e1, e2, e3, lenV_slice]
  unfold fn82 fn82_q
  simp only [un_not, Bool.not_true, optK_some, condV_false]
  exact hK _ _ ⟨rfl, h3.drop 0 |>.drop 1⟩

/-- A config's bytes. -/
def confB (c : Cf) : List UInt8 := countB c.num ++ numB 1 c.full ++ numB 1 c.chain.length ++ c.chain.flatMap (numB 1)

theorem flat_len (l : List Nat) : (l.flatMap (numB 1)).length = l.length := by
  induction l with
  | nil => rfl
  | cons x l ih => simp only [List.flatMap_cons, List.length_append, numB_length, ih, List.length_cons]; omega
theorem confB_len {c : Cf} (hc : c.ok) : (confB c).length ≤ 100 := by
  have := countB_len c.num; have := hc.len
  simp only [confB, List.length_append, numB_length, flat_len]; omega

theorem BytesConf_t {c : Cf} (hc : c.ok) {v : V} {r : List HP} {s : AS} (h : Hs G (NatsH v c.chain :: r) s) :
    Ens (fn93 (cfV c v)) s fun t s' => ∃ u, t = .tuple [u, .int .i64 0] ∧ Hs G (BytesH u (confB c) :: NatsH v c.chain :: r) s' := by
  intro K hK
  obtain ⟨a, cc, ex, rfl⟩ := slH_slice h
  have hlen : (zs c.chain).length = c.chain.length := by simp
  have hl4 := hc.len; have hfu := hc.full; have hnu := hc.num
  unfold fn93 fn93_q
  refine boxA_t h fun k s1 h1 => ?_
  rw [ldAll_t (n := 3) h1 rfl]
  refine CheckConf_t hc (h1.pull 1) _ ?_
  rintro _ s2 ⟨rfl, h2⟩
  simp only [bin_neq, optK_some, bne_self_eq_false, condV_false]
  have h2' := h2.pull 1
  refine wNew_t h2' _ ?_
  rintro _ s3 ⟨kw, rfl, h3⟩
  have hk3 := h3.pull 1
  simp only [fp_ptr, optK_some, Nat.zero_add, ld_t hk3, List.getElem?_cons_zero]
  rw [holds_t rfl h2' (by rfl) (by simp [sameV, same0]), chkB_true]
  refine wCount_t h3 hnu (by simp) _ ?_
  rintro _ s4 ⟨rfl, h4⟩
  have hk4 := h4.pull 1
  simp only [fp_ptr, optK_some, Nat.zero_add, ld_t hk4, List.getElem?_cons_zero, List.getElem?_cons_succ]
  rw [holds_t rfl hk3 (by rfl) (by simp [sameV, same0]), chkB_true, holds_t rfl h2' (by rfl) (by simp [sameV, same0]), chkB_true]
  refine wNum_t h4 (w := 1) (n := c.full) (by omega) (by omega) (Nat.div_eq_of_lt (by omega)) (by have := countB_len c.num; simp; omega) _ ?_
  rintro _ s5 ⟨rfl, h5⟩
  have hk5 := h5.pull 1
  simp only [fp_ptr, optK_some, Nat.zero_add, ld_t hk5, List.getElem?_cons_zero, List.getElem?_cons_succ, lenV_slice]
  rw [holds_t rfl hk4 (by rfl) (sameV_slice _ _ _ _), chkB_true, holds_t rfl hk3 (by rfl) (sameV_slice _ _ _ _), chkB_true, holds_t rfl h2' (by rfl) (sameV_slice _ _ _ _), chkB_true]
  simp only [hlen]
  refine wNum_t h5 (w := 1) (n := c.chain.length) (by omega) (by omega) (Nat.div_eq_of_lt (by omega)) (by have := countB_len c.num; simp; omega) _ ?_
  rintro _ s6 ⟨rfl, h6⟩
  have hk6 := h6.pull 1
  simp only [fp_ptr, optK_some, Nat.zero_add, ld_t hk6, List.getElem?_cons_zero, List.getElem?_cons_succ, lenV_slice, List.nil_append] at h6 ⊢
  obtain ⟨pre, hpre⟩ : ∃ pre, pre = countB c.num ++ numB 1 c.full ++ numB 1 c.chain.length := ⟨_, rfl⟩
  have hprel : pre.length ≤ 70 := by have := countB_len c.num; rw [hpre]; simp only [List.length_append, numB_length]; omega
  rw [← hpre] at h6
  refine loop_rule (fun m tm s1 => ∃ i : Nat, m + i = c.chain.length ∧ Hs G (WrH kw (pre ++ (c.chain.take i).flatMap (numB 1)) :: NatsH (.slice a (zs c.chain).length cc ex) c.chain :: r) s1 ∧
    tm.getD 5 .junk = .ptr (some ⟨.new kw, 0⟩) ∧ tm.getD 25 .junk = .slice a (zs c.chain).length cc ex ∧ tm.getD 26 .junk = .int .i64 c.chain.length ∧ tm.getD 27 .junk = .int .i64 (i : Nat)) ?_ (m := c.chain.length) (by omega) ⟨0, by omega, by simpa using h6.drop 1, rfl, rfl, (by show V.int .i64 ((zs c.chain).length : Nat) = _; rw [hlen]), rfl⟩
  rintro m tm s7 Kn ⟨i, hm, h7, t5, t25, t26, t27⟩ hnext
  simp only [t5, t25, t26, t27]
  unfold fn93_L1
  by_cases hi : i < c.chain.length
  · have d : decide ((i : Int) < (c.chain.length : Int)) = true := by simp; omega
    have w : IntKind.i64.wrap ((i : Int) + 1) = ((i + 1 : Nat) : Int) := by rw [wrap64 (by omega) (by omega)]; omega
    have hx : ((zs c.chain).map iV)[i]? = some (iV (c.chain[i] : Nat)) := by simp [hi]
    obtain ⟨p, e1, l1⟩ := elem1_t (h7.pull 1) hx .i64
    have hrep := hc.rep c.chain[i] (List.getElem_mem ..)
    simp only [bin_lss, optK_some, d, condV_true, e1, l1, iV]
    refine wNum_t h7 (w := 1) (n := c.chain[i]) (by omega) (by omega) (Nat.div_eq_of_lt (by omega)) (by simp only [List.length_append, flat_len, List.length_take]; omega) _ ?_
    rintro _ s8 ⟨rfl, h8⟩
    simp only [bin_add, optK_some, w, nx_nrm]
    refine hnext (c.chain.length - (i + 1)) _ _ (by omega) ⟨i + 1, by omega, ?_, rfl, rfl, rfl, rfl⟩
    have e : pre ++ (c.chain.take (i + 1)).flatMap (numB 1) = pre ++ (c.chain.take i).flatMap (numB 1) ++ numB 1 c.chain[i] := by
      rw [List.take_add_one, List.getElem?_eq_getElem hi, List.flatMap_append, List.append_assoc]; simp
    rw [e]; exact h8
  · have d : decide ((i : Int) < (c.chain.length : Int)) = false := by simp; omega
    have : i = c.chain.length := by omega
    subst this
    rw [List.take_length] at h7
    simp only [bin_lss, optK_some, d, condV_false, nx_exit, exX_exit, beq_self_eq_true, exB_true]
    have e : pre ++ c.chain.flatMap (numB 1) = confB c := by rw [hpre]; rfl
    rw [e] at h7
    refine wBytes_t h7 (by have := confB_len hc; omega) _ ?_
    rintro _ s8 ⟨u, rfl, _, h8⟩
    simp only [ext0, List.getElem?_cons_zero, List.getElem?_cons_succ, optK_some]
    exact hK _ _ ⟨u, rfl, h8⟩
end Go.Proofs.Vt
end
