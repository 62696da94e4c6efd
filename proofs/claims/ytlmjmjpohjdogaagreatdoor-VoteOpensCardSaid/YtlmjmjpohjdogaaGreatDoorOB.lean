/- A part of the proof of VoteOpens: contracts of the document's log and configs; what the program reads of any bytes. -/
import Derived.Test.YtlmjmjpohjdogaaGreatDoorOA
import Derived.Test.YtlmjmjpohjdogaaGreatDoorCC
import Derived.Test.YtlmjmjpohjdogaaGreatDoorCF
set_option linter.unusedVariables false
set_option linter.unusedSimpArgs false
section
/- The document's disk and log (packages sealchainref13, sealchainref14): writing. -/
namespace Go.Proofs.Vt
open Go Go.Rx Go.Proofs
variable {G : Nat → Option (List V)}

/-- The document's disk, alive and not armed. -/
def RDH (kd : Nat) (bs : List UInt8) (n : Nat) (T : List (List UInt8)) : HP := HP.ex fun vb : V => HP.ex fun vt : V => HP.all [Ob kd (.cells [vb, .int .i64 n, .bool false, .int .i64 (-1), vt] 0), BytesH vb bs, RowsH vt T]
theorem RDH.iff {kd n : Nat} {bs : List UInt8} {T : List (List UInt8)} {r : List HP} {s : AS} : Hs G (RDH kd bs n T :: r) s ↔ ∃ vb vt, Hs G (Ob kd (.cells [vb, .int .i64 n, .bool false, .int .i64 (-1), vt] 0) :: BytesH vb bs :: RowsH vt T :: r) s := by
  unfold RDH
  simp only [Hs.ex_iff, Hs.all_iff, List.cons_append, List.nil_append]

theorem qdNew_t {r : List HP} {s : AS} (h : Hs G r s) : Ens fn20 s fun u s' => ∃ kd, u = .ptr (some ⟨.new kd, 0⟩) ∧ Hs G (RDH kd [] 0 [] :: r) s' := by
  intro K hK
  unfold fn20 fn20_q
  have hag : aggO (fillV (placeS [(0, 59), (1, 3), (2, 4), (3, 3), (4, 52)] ty) [(V.slice none 0 0 true), (V.int .i64 0), (V.bool false), (V.int .i64 0), (V.slice none 0 0 true)] [(3, (V.int .i64 (-1)))]) = some (.agg [.slice none 0 0 true, .int .i64 (0 : Nat), .bool false, .int .i64 (-1), .slice none 0 0 true]) := by
    simp [fillV, placeS, cellsV, spl, aggO]
  rw [hag, optK_some]
  refine boxA_t h fun kd s1 h1 => hK _ _ ⟨kd, rfl, RDH.iff.2 ⟨.slice none 0 0 true, .slice none 0 0 true, ?_⟩⟩
  exact ((RowsH.nil h1 true).slNil 1 true).ord [2, 0]

theorem qdWrite_t {kd n : Nat} {bs ys : List UInt8} {T : List (List UInt8)} {v : V} {r : List HP} {s : AS} (hl : bs.length + ys.length ≤ 1048576) (hT : T.length ≤ 1000000) (hr : Reads G r v ys) (h : Hs G (RDH kd bs n T :: r) s) :
    Ens (fn23 (.ptr (some ⟨.new kd, 0⟩)) v) s fun u s' => u = .int .i64 0 ∧ Hs G (RDH kd (bs ++ ys) n (T ++ [ys]) :: r) s' := by
  intro K hK
  obtain ⟨vb, vt, h1⟩ := RDH.iff.1 h
  obtain ⟨ba, bc, bex, hvb⟩ := slH_slice (h1.pull 1)
  obtain ⟨va, vc, vex, hve⟩ := rd_slice hr h.tail
  have hlb : lenV (some (Kd.slice 5)) vb = some (.int .i64 bs.length) := by rw [hvb]; rfl
  have hlv : lenV (some (Kd.slice 5)) v = some (.int .i64 ys.length) := by rw [hve]; rfl
  have w1 : IntKind.i64.wrap ((bs.length : Int) + (ys.length : Int)) = ((bs.length + ys.length : Nat) : Int) := by rw [wrap64 (by omega) (by omega)]; omega
  have d1 : decide (((bs.length + ys.length : Nat) : Int) > 1048576) = false := decide_eq_false (by omega)
  unfold fn23 fn23_q
  rw [nilV_ptr, optK_some, fp_ptr, optK_some, ld_t h1, Nat.zero_add, List.getElem?_cons_succ, List.getElem?_cons_succ, List.getElem?_cons_zero, optK_some, condV_false, optK_some, fp_ptr, optK_some, ld_t h1, Nat.zero_add, List.getElem?_cons_zero, optK_some, hlb, optK_some, hlv, optK_some, bin_add, optK_some, w1, bin_gtr, optK_some, d1, condV_false]
  rw [optK_some, fp_ptr, optK_some, ld_t h1, Nat.zero_add, List.getElem?_cons_zero, optK_some]
  refine qCopy_t reads_bytes (h1.pull 1) (by omega) _ ?_
  intro u s2 h2
  have hrd := (hr.cons.cons.cons s2 (h2.tail)).1
  refine app_t (by omega) h2 hrd.len hrd.src (by simp) (byteV_flat ys) (by omega) (by omega) fun v3 s3 h3 => ?_
  rw [← List.map_append, ← List.length_append] at h3
  obtain ⟨a3, c3, ex3, hv3⟩ := slH_slice h3
  have hf3 : flatV v3 = true := by rw [hv3]; rfl
  rw [optK_some, fp_ptr, optK_some, Nat.zero_add]
  refine st_t (h3.pull 2) (by simp) hf3 fun s4 h4 => ?_
  rw [List.set_cons_zero] at h4
  have h5 := h4.ord [0, 1, 3] |>.drop 3
  obtain ⟨ta, tc, tex, hvt⟩ := RowsH.slice (h5.pull 2)
  rw [optK_some, fp_ptr, optK_some, Nat.zero_add, ld_t h5, List.getElem?_cons_succ, List.getElem?_cons_succ, List.getElem?_cons_succ, List.getElem?_cons_succ, List.getElem?_cons_zero, optK_some]
  refine qCopy_t hr.cons.cons.cons h5 (by omega) _ ?_
  intro u6 s6 h6
  obtain ⟨a6, c6, ex6, rfl⟩ := slH_slice h6
  have hh6 := holds_t (ti := ti52) rfl (h6.pull 1) (o := 4) (v := vt) rfl (by rw [hvt]; exact sameV_slice _ _ _ _)
  rw [hh6, chkB_true]
  refine bsl1_t rfl rfl h6 fun x s7 hx hxl h7 => ?_
  have hh7 := holds_t (ti := ti52) rfl (h7.pull 2) (o := 4) (v := vt) rfl (by rw [hvt]; exact sameV_slice _ _ _ _)
  rw [hh7, chkB_true]
  refine rows_push (h7.ord [4, 1, 0]) hx hxl (by omega) fun v8 s8 h8 => ?_
  obtain ⟨a8, c8, ex8, hv8⟩ := RowsH.slice h8
  have hf8 : flatV v8 = true := by rw [hv8]; rfl
  rw [optK_some, fp_ptr, optK_some, Nat.zero_add]
  refine st_t (h8.pull 1) (by simp) hf8 fun s9 h9 => ?_
  refine hK _ _ ⟨rfl, RDH.iff.2 ⟨v3, v8, ?_⟩⟩
  exact h9.ord [0, 2, 1]

theorem qdSync_t {kd n : Nat} {bs : List UInt8} {T : List (List UInt8)} {r : List HP} {s : AS} (h : Hs G (RDH kd bs n T :: r) s) :
    Ens (fn25 (.ptr (some ⟨.new kd, 0⟩))) s fun u s' => u = .int .i64 0 ∧ Hs G (RDH kd bs bs.length T :: r) s' := by
  intro K hK
  obtain ⟨vb, vt, h1⟩ := RDH.iff.1 h
  obtain ⟨ba, bc, bex, hvb⟩ := slH_slice (h1.pull 1)
  have hlb : lenV (some (Kd.slice 5)) vb = some (.int .i64 bs.length) := by rw [hvb]; rfl
  have d1 : decide ((-1 : Int) < 0) = true := by decide
  unfold fn25 fn25_q
  rw [nilV_ptr, optK_some, fp_ptr, optK_some, ld_t h1, Nat.zero_add, List.getElem?_cons_succ, List.getElem?_cons_succ, List.getElem?_cons_zero, optK_some, grd_false]
  unfold fn55 fn55_q
  rw [nilV_ptr, optK_some, fp_ptr, optK_some, ld_t h1, Nat.zero_add, List.getElem?_cons_succ, List.getElem?_cons_succ, List.getElem?_cons_succ, List.getElem?_cons_zero, optK_some, bin_lss, optK_some, d1, condV_true]
  show condV (.bool false) _ _
  rw [condV_false]
  rw [optK_some, fp_ptr, optK_some, ld_t h1, Nat.zero_add, List.getElem?_cons_zero, optK_some, hlb, optK_some, optK_some, fp_ptr, optK_some, Nat.zero_add]
  refine st_t h1 (by simp) rfl fun s2 h2 => ?_
  exact hK _ _ ⟨rfl, RDH.iff.2 ⟨vb, vt, h2⟩⟩
theorem qdRevive_t {kd n : Nat} {bs : List UInt8} {T : List (List UInt8)} {r : List HP} {s : AS} (h : Hs G (RDH kd bs n T :: r) s) :
    Ens (fn56 (.ptr (some ⟨.new kd, 0⟩))) s fun u s' => u = .int .i64 0 ∧ Hs G (RDH kd bs n T :: r) s' := by
  intro K hK
  obtain ⟨vb, vt, h1⟩ := RDH.iff.1 h
  unfold fn56 fn56_q
  rw [nilV_ptr, optK_some, fp_ptr, optK_some, Nat.zero_add]
  refine st_t h1 (by simp) rfl fun s2 h2 => ?_
  rw [optK_some, fp_ptr, optK_some, Nat.zero_add]
  refine st_t h2 (by simp) rfl fun s3 h3 => ?_
  exact hK _ _ ⟨rfl, RDH.iff.2 ⟨vb, vt, h3⟩⟩
theorem qdCut_t {kd n m : Nat} {bs : List UInt8} {T : List (List UInt8)} {r : List HP} {s : AS} (hm : m ≤ bs.length) (hl : bs.length ≤ 1048576) (h : Hs G (RDH kd bs n T :: r) s) :
    Ens (fn130 (.ptr (some ⟨.new kd, 0⟩)) (.int .i64 m)) s fun u s' => u = .int .i64 0 ∧ Hs G (RDH kd (bs.take m) m T :: r) s' := by
  intro K hK
  obtain ⟨vb, vt, h1⟩ := RDH.iff.1 h
  obtain ⟨ba, bc, bex, hvb⟩ := slH_slice (h1.pull 1)
  have hlb : lenV (some (Kd.slice 5)) vb = some (.int .i64 bs.length) := by rw [hvb]; rfl
  have d1 : decide ((m : Int) < 0) = false := decide_eq_false (by omega)
  have d2 : decide ((m : Int) > (bs.length : Int)) = false := decide_eq_false (by omega)
  unfold fn130 fn130_q
  rw [nilV_ptr, optK_some, fp_ptr, optK_some, ld_t h1, Nat.zero_add, List.getElem?_cons_succ, List.getElem?_cons_succ, List.getElem?_cons_zero, optK_some, condV_false, bin_lss, optK_some, d1, grd_false, optK_some, fp_ptr, optK_some, ld_t h1, Nat.zero_add, List.getElem?_cons_zero, optK_some, hlb, optK_some, bin_gtr, optK_some, d2, condV_false]
  rw [optK_some, fp_ptr, optK_some, ld_t h1, Nat.zero_add, List.getElem?_cons_zero, optK_some]
  obtain ⟨v1, e1, hr1⟩ := (reads_bytes (G := G) (v := vb) (ys := bs)).cut (h1.pull 1) (lo := none) (hi := some (.int .i64 m)) (l := 0) (n := m) hm (by omega) (.inl ⟨rfl, rfl⟩) (.inr ⟨.i64, rfl⟩)
  rw [e1, optK_some]
  refine qCopy_t hr1 (h1.pull 1) (by simp; omega) _ ?_
  intro u s2 h2
  obtain ⟨a2, c2, ex2, hu2⟩ := slH_slice h2
  have hf2 : flatV u = true := by rw [hu2]; rfl
  rw [optK_some, fp_ptr, optK_some, Nat.zero_add]
  refine st_t (h2.pull 2) (by simp) hf2 fun s3 h3 => ?_
  rw [List.set_cons_zero] at h3
  rw [optK_some, fp_ptr, optK_some, Nat.zero_add]
  refine st_t h3 (by simp) rfl fun s4 h4 => ?_
  rw [List.drop_zero] at h4
  exact hK _ _ ⟨rfl, RDH.iff.2 ⟨u, vt, h4.ord [0, 1, 3] |>.drop 3⟩⟩

/-! ### records -/
theorem bslB4_ok (a b c d : UInt8) (s : AS) (K : K0) : bsl 1 [.int .u8 0] 4 [(0, byteV a), (1, byteV b), (2, byteV c), (3, byteV d)] s K = K (.slice (some ⟨.new s.next, 0⟩) 4 4 true) (s.alloc (.cells [byteV a, byteV b, byteV c, byteV d] 0)) := by
  unfold bsl
  simp [fillV, zeros, cellsV, spl, byteV, newS, flatV]
theorem bslB4_t {a b c d : UInt8} {r : List HP} {s : AS} (h : Hs G r s) {K : K0} (hK : ∀ u s', Hs G (BytesH u [a, b, c, d] :: r) s' → K u s') : bsl 1 [.int .u8 0] 4 [(0, byteV a), (1, byteV b), (2, byteV c), (3, byteV d)] s K := by
  rw [bslB4_ok]
  refine hK _ _ ?_
  exact ob_slH (sz := 1) (n := 4) (c := 4) (ex := true) (xs := [a, b, c, d].map byteV) (h.alloc _) rfl rfl rfl (Nat.le_refl _) (by simp) (.inl rfl)
/-- Bytes that can be put behind others: ones that can be read, or none, wherever they point. -/
def RdX (G : Nat → Option (List V)) (r : List HP) (v : V) (ys : List UInt8) : Prop := Reads G r v ys ∨ (v = .slice none 0 1 true ∧ ys = [])
theorem RdX.cons {r : List HP} {v : V} {ys : List UInt8} (h : RdX G r v ys) {A : HP} : RdX G (A :: r) v ys := h.imp (fun h => h.cons) id
theorem RdX.len {r : List HP} {v : V} {ys : List UInt8} (hr : RdX G r v ys) {s : AS} (h : Hs G r s) (e : TypeId) : lenV (some (Kd.slice e)) v = some (.int .i64 ys.length) := by
  rcases hr with hr | ⟨rfl, rfl⟩
  · obtain ⟨a, c, ex, rfl⟩ := rd_slice hr h; rfl
  · rfl
theorem appX_t {v x : V} {xs ys : List UInt8} {r : List HP} {s : AS} (h : Hs G (BytesH v xs :: r) s) (hr : RdX G r x ys) (hl : xs.length + ys.length ≤ 1099511627776) {K : K0} (hK : ∀ u s', Hs G (BytesH u (xs ++ ys) :: r) s' → K u s') : app 1 1 v x s K := by
  rcases hr with hr | ⟨rfl, rfl⟩
  · have hrd := (hr.cons s h).1
    refine app_t (by omega) h hrd.len hrd.src (by simp) (byteV_flat ys) (by omega) (by omega) fun u s' h' => hK u s' ?_
    rw [← List.map_append, ← List.length_append] at h'
    exact h'
  · rw [List.append_nil] at hK
    rcases slH_ob h with ⟨h0, ex, hv⟩ | ⟨k, c, ex, cs, u, hv, ht, hn, hc, he, h'⟩
    · subst hv
      simp only [app, srcLen, srcX, if_true]
      exact hK _ _ h
    · subst hv
      simp only [app, srcLen, srcX, if_true]
      rw [if_pos hn]
      exact hK _ _ h

theorem u8v_mod (n : Nat) : u8v ((n % 256 : Nat) : Int) = u8v (n : Int) := by unfold u8v; congr 2; omega
theorem qbyte_q {n : Nat} (h : n ≤ 65535) (k c) : binV .quo k c (.int .i64 (n : Nat)) (.int .i64 256) = some (.int .i64 ((n / 256 : Nat) : Int)) := by
  rw [bin_quo, if_neg (by decide), Int.tdiv_eq_ediv_of_nonneg (by omega), wrap64 (by omega) (by omega)]; rfl
theorem qbyte_r (n : Nat) (k c) : binV .rem k c (.int .i64 (n : Nat)) (.int .i64 256) = some (.int .i64 ((n % 256 : Nat) : Int)) := by
  rw [bin_rem, if_neg (by decide), Int.tmod_eq_emod_of_nonneg (by omega)]; rfl
theorem cvt_u8 (z : Int) (s : AS) (K : K0) : cvt (Kd.int .i64) (Kd.int .u8) (.int .i64 z) s K = K (byteV (u8v z)) s := by rw [cvt_i, u8v_byte]

theorem dig_cell (b : List UInt8) {j : Nat} (hj : j < 32) : ((shaF b).map byteV)[j]? = some (byteV ((shaF b).getD j 0)) := by
  rw [List.getElem?_map, List.getD_eq_getElem?_getD, List.getElem?_eq_getElem (by simp; exact hj)]; rfl
theorem take4 {l : List UInt8} (h : l.length = 32) : l.take 4 = [l.getD 0 0, l.getD 1 0, l.getD 2 0, l.getD 3 0] := by
  match l, h with
  | a :: b :: c :: d :: l, _ => rfl

set_option maxRecDepth 20000 in
theorem qRecord_t {v : V} {row : List UInt8} {r : List HP} {s : AS} (hr : RdX G r v row) (h : Hs G r s) (hl : row.length ≤ 40000) :
    Ens (fn21 v) s fun t s' => ∃ u, t = .tuple [u, .int .i64 0] ∧ Hs G (BytesH u (recB row) :: r) s' := by
  intro K hK
  have d : decide ((row.length : Int) > 40000) = false := decide_eq_false (by omega)
  have w : IntKind.i64.wrap (65535 - (row.length : Int)) = ((65535 - row.length : Nat) : Int) := by rw [wrap64 (by omega) (by omega)]; omega
  unfold fn21 fn21_q
  rw [hr.len h, optK_some, bin_gtr, optK_some, d, condV_false, qbyte_q (by omega), optK_some, cvt_u8, qbyte_r, optK_some, cvt_u8, bin_sub, optK_some, w, qbyte_q (by omega), optK_some, cvt_u8, optK_some, qbyte_r, optK_some, cvt_u8, u8v_mod, u8v_mod]
  refine bslB4_t h fun u1 s1 h1 => ?_
  refine appX_t h1 hr (by simp; omega) fun u2 s2 h2 => ?_
  have eh : [u8v ((row.length / 256 : Nat) : Int), u8v (row.length : Int), u8v (((65535 - row.length) / 256 : Nat) : Int), u8v ((65535 - row.length : Nat) : Int)] = numB 2 row.length ++ numB 2 (65535 - row.length) := by rw [numB2, numB2]; rfl
  rw [eh] at h2
  obtain ⟨b, hb⟩ : ∃ b, b = numB 2 row.length ++ numB 2 (65535 - row.length) ++ row := ⟨_, rfl⟩
  have hbl : b.length ≤ 40004 := by rw [hb]; simp; omega
  rw [← hb] at h2
  refine qSum_t reads_bytes h2 (by omega) _ ?_
  rintro _ s3 ⟨rfl, h3⟩
  refine newC_t h3 fun k6 s4 h4 => ?_
  refine stAll_t h4 rfl (by simp) (byteV_flat _) fun s5 h5 => ?_
  have c0 : elemPtr (some 32) 1 (.ptr (some ⟨.new k6, 0⟩)) (.int .i64 0) = some (.ptr (some ⟨.new k6, 0⟩)) := rfl
  have c1 : elemPtr (some 32) 1 (.ptr (some ⟨.new k6, 0⟩)) (.int .i64 1) = some (.ptr (some ⟨.new k6, 1⟩)) := rfl
  have c2 : elemPtr (some 32) 1 (.ptr (some ⟨.new k6, 0⟩)) (.int .i64 2) = some (.ptr (some ⟨.new k6, 2⟩)) := rfl
  have c3 : elemPtr (some 32) 1 (.ptr (some ⟨.new k6, 0⟩)) (.int .i64 3) = some (.ptr (some ⟨.new k6, 3⟩)) := rfl
  rw [c0, optK_some, ld_t h5, dig_cell b (by omega), optK_some, c1, optK_some, ld_t h5, dig_cell b (by omega), optK_some, c2, optK_some, ld_t h5, dig_cell b (by omega), optK_some, c3, optK_some, ld_t h5, dig_cell b (by omega), optK_some]
  refine bslB4_t h5 fun u6 s6 h6 => ?_
  rw [← take4 (shaF_length b)] at h6
  have h7 := h6.ord [2, 0]
  refine appX_t h7 (.inl reads_bytes) (by simp; omega) fun u8 s8 h8 => ?_
  refine hK _ _ ⟨u8, rfl, ?_⟩
  have e : b ++ (shaF b).take 4 = recB row := by rw [hb]; rfl
  rw [e] at h8
  exact h8.drop 1 |>.drop 1
end Go.Proofs.Vt
end
section
/- The document's log (package sealchainref14): records are read. -/
namespace Go.Proofs.Vt
open Go Go.Rx Go.Proofs
variable {G : Nat → Option (List V)}

theorem recB_head (row : List UInt8) : (recB row)[0]? = some (u8v ((row.length / 256 : Nat) : Int)) ∧ (recB row)[1]? = some (u8v (row.length : Int)) ∧ (recB row)[2]? = some (u8v (((65535 - row.length) / 256 : Nat) : Int)) ∧ (recB row)[3]? = some (u8v ((65535 - row.length : Nat) : Int)) := by
  unfold recB
  rw [numB2, numB2]
  exact ⟨rfl, rfl, rfl, rfl⟩
theorem recB_row (row : List UInt8) : ((recB row).take (4 + row.length)).drop 4 = row := by
  unfold recB
  rw [List.take_append_of_le_length (by simp; omega), List.take_of_length_le (by simp; omega), List.drop_append_of_le_length (by simp)]
  have : (numB 2 row.length ++ numB 2 (65535 - row.length)).drop 4 = [] := List.drop_of_length_le (by simp)
  rw [this, List.nil_append]
theorem cut_mid {A B C : List UInt8} {l n : Nat} (hl : n ≤ B.length) : ((A ++ B ++ C).take (A.length + n)).drop (A.length + l) = (B.take n).drop l := by
  rw [List.append_assoc, List.take_append, List.take_of_length_le (by omega), Nat.add_sub_cancel_left, List.take_append_of_le_length hl, List.drop_append, List.drop_of_length_le (by omega), List.nil_append, Nat.add_sub_cancel_left]
theorem get_mid {A B C : List UInt8} {j : Nat} {y : UInt8} (h : B[j]? = some y) : (A ++ B ++ C)[A.length + j]? = some y := by
  have hj := (List.getElem?_eq_some_iff.1 h).1
  rw [List.append_assoc, List.getElem?_append_right (by omega), Nat.add_sub_cancel_left, List.getElem?_append_left hj]
  exact h

theorem qScan_t {v : V} {rows : List (List UInt8)} {r : List HP} {s : AS} (hrl : ∀ row ∈ rows, row.length ≤ 40000) (hbl : (rows.flatMap recB).length ≤ 1048576) (hr : Reads G r v (rows.flatMap recB)) (h : Hs G r s) :
    Ens (fn129 v) s fun u s' => ∃ w, u = .tuple [w, .int .i64 (rows.flatMap recB).length, .int .i64 0] ∧ Hs G (RowsH w rows :: r) s' := by
  intro K hK
  obtain ⟨bs, hbs⟩ : ∃ bs, bs = rows.flatMap recB := ⟨_, rfl⟩
  rw [← hbs] at hr hbl hK
  obtain ⟨va, vc, vex, hve⟩ := rd_slice hr h
  have hlv : lenV (some (Kd.slice 5)) v = some (.int .i64 bs.length) := by rw [hve]; rfl
  have hrn : rows.length ≤ bs.length := by
    rw [hbs]
    have : ∀ l : List (List UInt8), l.length ≤ (l.flatMap recB).length := fun l => by
      induction l with
      | nil => simp
      | cons x l ih => simp only [List.flatMap_cons, List.length_append, recB_length, List.length_cons]; omega
    exact this rows
  unfold fn129 fn129_q
  refine loop_rule (fun m tm s1 => ∃ (i : Nat) (w : V), i + m = rows.length ∧ Hs G (RowsH w (rows.take i) :: r) s1 ∧ tm.getD 0 .junk = v ∧ tm.getD 5 .junk = w ∧ tm.getD 6 .junk = .int .i64 ((rows.take i).flatMap recB).length) ?_ (m := rows.length) (by omega)
    ⟨0, .slice none 0 0 true, by omega, RowsH.nil h true, rfl, rfl, rfl⟩
  rintro m tm s1 Kn ⟨i, w, him, h1, t0, t5, t6⟩ hnext
  simp only [t0, t5, t6]
  unfold fn129_L1
  obtain ⟨A, hA⟩ : ∃ A, A = (rows.take i).flatMap recB := ⟨_, rfl⟩
  rw [← hA]
  cases m with
  | zero =>
    have hi : i = rows.length := by omega
    have eA : A.length = bs.length := by rw [hA, hi, List.take_length, ← hbs]
    have w0 : IntKind.i64.wrap ((bs.length : Int) - (A.length : Int)) = 0 := by rw [wrap64 (by omega) (by omega)]; omega
    have d0 : decide ((0 : Int) ≥ 4) = false := by decide
    rw [hlv, optK_some, bin_sub, optK_some, w0, bin_geq, optK_some, d0, condV_false, nx_exit, exX_exit]
    show exB true _ _
    rw [exB_true]
    rw [hi, List.take_length] at h1
    refine hK _ _ ⟨w, ?_, h1⟩
    show V.tuple [w, .int .i64 (A.length : Nat), .int .i64 0] = _
    rw [eA]
  | succ m =>
    have hi : i < rows.length := by omega
    obtain ⟨row, hrow⟩ : ∃ row, rows[i]? = some row := ⟨rows[i], by simp [hi]⟩
    have hl := hrl row (List.mem_of_getElem? hrow)
    obtain ⟨C, hC⟩ : ∃ C, C = (rows.drop (i + 1)).flatMap recB := ⟨_, rfl⟩
    have eB : bs = A ++ recB row ++ C := by
      rw [hbs, hA, hC]
      have : rows = rows.take i ++ row :: rows.drop (i + 1) := by
        have e1 : row :: rows.drop (i + 1) = rows.drop i := by
          rw [List.drop_eq_getElem_cons hi]
          rw [List.getElem?_eq_getElem hi] at hrow
          rw [Option.some.inj hrow]
        rw [e1, List.take_append_drop]
      conv => lhs; rw [this]
      rw [List.flatMap_append, List.flatMap_cons, List.append_assoc]
    have hbl2 : bs.length = A.length + (row.length + 8) + C.length := by rw [eB, List.length_append, List.length_append, recB_length]
    obtain ⟨g0, g1, g2, g3⟩ := recB_head row
    have b0 := get_mid (A := A) (C := C) g0
    have b1 := get_mid (A := A) (C := C) g1
    have b2 := get_mid (A := A) (C := C) g2
    have b3 := get_mid (A := A) (C := C) g3
    rw [← eB] at b0 b1 b2 b3
    have hrd : Rd s1 v bs := (hr s1 h1.tail).1.toRd
    obtain ⟨p0, e0, l0⟩ := rd_elem hrd b0 .i64
    obtain ⟨p1, e1, l1⟩ := rd_elem hrd b1 .i64
    obtain ⟨p2, e2, l2⟩ := rd_elem hrd b2 .i64
    obtain ⟨p3, e3, l3⟩ := rd_elem hrd b3 .i64
    rw [Nat.add_zero] at e0
    have n0 := u8v_toNat ((row.length / 256 : Nat) : Int) (by omega)
    have n1 := u8v_toNat (row.length : Int) (by omega)
    have n2 := u8v_toNat (((65535 - row.length) / 256 : Nat) : Int) (by omega)
    have n3 := u8v_toNat ((65535 - row.length : Nat) : Int) (by omega)
    obtain ⟨y0, hy0⟩ : ∃ y0, y0 = u8v ((row.length / 256 : Nat) : Int) := ⟨_, rfl⟩
    obtain ⟨y1, hy1⟩ : ∃ y1, y1 = u8v (row.length : Int) := ⟨_, rfl⟩
    obtain ⟨y2, hy2⟩ : ∃ y2, y2 = u8v (((65535 - row.length) / 256 : Nat) : Int) := ⟨_, rfl⟩
    obtain ⟨y3, hy3⟩ : ∃ y3, y3 = u8v ((65535 - row.length : Nat) : Int) := ⟨_, rfl⟩
    rw [← hy0] at n0 l0
    rw [← hy1] at n1 l1
    rw [← hy2] at n2 l2
    rw [← hy3] at n3 l3
    have wsub : IntKind.i64.wrap ((bs.length : Int) - (A.length : Int)) = ((row.length + 8 + C.length : Nat) : Int) := by rw [wrap64 (by omega) (by omega)]; omega
    have d4 : decide (((row.length + 8 + C.length : Nat) : Int) ≥ 4) = true := decide_eq_true (by omega)
    have a1 : IntKind.i64.wrap ((A.length : Int) + 1) = ((A.length + 1 : Nat) : Int) := by rw [wrap64 (by omega) (by omega)]; omega
    have a2 : IntKind.i64.wrap ((A.length : Int) + 2) = ((A.length + 2 : Nat) : Int) := by rw [wrap64 (by omega) (by omega)]; omega
    have a3 : IntKind.i64.wrap ((A.length : Int) + 3) = ((A.length + 3 : Nat) : Int) := by rw [wrap64 (by omega) (by omega)]; omega
    have a4 : IntKind.i64.wrap ((A.length : Int) + 4) = ((A.length + 4 : Nat) : Int) := by rw [wrap64 (by omega) (by omega)]; omega
    have m0 : IntKind.i64.wrap (256 * (y0.toNat : Int)) = ((256 * y0.toNat : Nat) : Int) := by have := byte_lt y0; rw [wrap64 (by omega) (by omega)]; omega
    have m2 : IntKind.i64.wrap (256 * (y2.toNat : Int)) = ((256 * y2.toNat : Nat) : Int) := by have := byte_lt y2; rw [wrap64 (by omega) (by omega)]; omega
    have s01 : IntKind.i64.wrap (((256 * y0.toNat : Nat) : Int) + (y1.toNat : Int)) = (row.length : Int) := by have := byte_lt y0; have := byte_lt y1; rw [wrap64 (by omega) (by omega)]; omega
    have s23 : IntKind.i64.wrap (((256 * y2.toNat : Nat) : Int) + (y3.toNat : Int)) = ((65535 - row.length : Nat) : Int) := by have := byte_lt y2; have := byte_lt y3; rw [wrap64 (by omega) (by omega)]; omega
    have w65 : IntKind.i64.wrap (65535 - (row.length : Int)) = ((65535 - row.length : Nat) : Int) := by rw [wrap64 (by omega) (by omega)]; omega
    have w8 : IntKind.i64.wrap ((row.length : Int) + 8) = ((row.length + 8 : Nat) : Int) := by rw [wrap64 (by omega) (by omega)]; omega
    have dlt : decide (((row.length + 8 + C.length : Nat) : Int) < ((row.length + 8 : Nat) : Int)) = false := decide_eq_false (by omega)
    have w4n : IntKind.i64.wrap (((A.length + 4 : Nat) : Int) + (row.length : Int)) = ((A.length + (4 + row.length) : Nat) : Int) := by rw [wrap64 (by omega) (by omega)]; omega
    have wn : IntKind.i64.wrap ((A.length : Int) + (row.length : Int)) = ((A.length + row.length : Nat) : Int) := by rw [wrap64 (by omega) (by omega)]; omega
    have wn8 : IntKind.i64.wrap (((A.length + row.length : Nat) : Int) + 8) = ((A.length + (row.length + 8) : Nat) : Int) := by rw [wrap64 (by omega) (by omega)]; omega
    have cb : ∀ (y : UInt8) s K, cvt (Kd.int .u8) (Kd.int .i64) (byteV y) s K = K (.int .i64 y.toNat) s := fun y s K => by have := byte_lt y; exact cvt_byteI .i64 y (wrap64 (by omega) (by omega)) s K
    rw [hlv, optK_some, bin_sub, optK_some, wsub, bin_geq, optK_some, d4, condV_true, e0, optK_some, l0, cb, bin_mul, optK_some, m0, bin_add, optK_some, a1, e1, optK_some, l1, cb, bin_add, optK_some, s01]
    rw [bin_add, optK_some, a2, e2, optK_some, l2, cb, bin_mul, optK_some, m2, bin_add, optK_some, a3, e3, optK_some, l3, cb, bin_add, optK_some, s23, bin_sub, optK_some, w65, bin_neq, optK_some, bne_self_eq_false, condV_false]
    rw [optK_some, bin_sub, optK_some, wsub, bin_add, optK_some, w8, bin_lss, optK_some, dlt, condV_false, bin_add, optK_some, a4, optK_some, bin_add, optK_some, w4n]
    obtain ⟨v1, ev1, hr1⟩ := (hr.cons (A := RowsH w (rows.take i))).cut h1 (lo := some (.int .i64 ((A.length + 4 : Nat) : Int))) (hi := some (.int .i64 ((A.length + (4 + row.length) : Nat) : Int))) (l := A.length + 4) (n := A.length + (4 + row.length)) (by omega) (by omega) (.inr ⟨.i64, rfl⟩) (.inr ⟨.i64, rfl⟩)
    have ec1 : (bs.take (A.length + (4 + row.length))).drop (A.length + 4) = row := by rw [eB, cut_mid (by rw [recB_length]; omega), recB_row]
    rw [ec1] at hr1
    rw [ev1, optK_some]
    refine qCopy_t hr1 h1 (by omega) _ ?_
    intro u2 s2 h2
    refine qRecord_t (.inl reads_bytes) h2 hl _ ?_
    rintro _ s3 ⟨u3, rfl, h3⟩
    have d0 : ((0 : Int) != 0) = false := by decide
    rw [ext0, List.getElem?_cons_zero, optK_some, ext0, List.getElem?_cons_succ, List.getElem?_cons_zero, optK_some, bin_neq, optK_some, d0, grd_false, bin_add, optK_some, wn, bin_add, optK_some, wn8]
    obtain ⟨v4, ev4, hr4⟩ := (hr.cons (A := RowsH w (rows.take i))).cons.cons.cut h3 (lo := some (.int .i64 (A.length : Nat))) (hi := some (.int .i64 ((A.length + (row.length + 8) : Nat) : Int))) (l := A.length) (n := A.length + (row.length + 8)) (by omega) (by omega) (.inr ⟨.i64, rfl⟩) (.inr ⟨.i64, rfl⟩)
    have ec4 : (bs.take (A.length + (row.length + 8))).drop A.length = recB row := by
      have := cut_mid (A := A) (B := recB row) (C := C) (l := 0) (n := row.length + 8) (by rw [recB_length]; omega)
      rw [Nat.add_zero] at this
      rw [eB, this, List.drop_zero, List.take_of_length_le (by rw [recB_length]; omega)]
    rw [ec4] at hr4
    rw [ev4, optK_some, qEq_t reads_bytes hr4 h3, un_not, optK_some]
    have dt : (!decide (recB row = recB row)) = false := by simp
    rw [dt, condV_false]
    obtain ⟨a2', c2, ex2, rfl⟩ := slH_slice (h3.pull 1)
    refine bsl1_t rfl rfl (h3.drop 0) fun x s5 hx hxl h5 => ?_
    refine rows_push (h5.ord [2, 1, 0]) hx hxl (by rw [List.length_take]; omega) fun v6 s6 h6 => ?_
    rw [optK_some, bin_add, optK_some, wn8, nx_nrm]
    have et : rows.take (i + 1) = rows.take i ++ [row] := by rw [List.take_add_one, hrow]; rfl
    refine hnext m _ _ (by omega) ⟨i + 1, v6, by omega, by rw [et]; exact h6, rfl, rfl, ?_⟩
    show V.int .i64 ((A.length + (row.length + 8) : Nat) : Int) = _
    rw [et, List.flatMap_append, List.flatMap_singleton, List.length_append, recB_length, ← hA]
end Go.Proofs.Vt
end
section
/- slices.Compact of any ints that are sorted. -/
namespace Go.Proofs.Vt
open Go Go.Rx Go.Proofs
variable {G : Nat → Option (List V)}

theorem slFrom {k o n c l : Nat} {ex : Bool} (hl : l ≤ n) (hnc : n ≤ c) (hlc : l < c) :
    sliceSl 1 (.slice (some ⟨.new k, o⟩) n c ex) (some (.int .i64 (l : Nat))) none none = some (.slice (some ⟨.new k, o + l⟩) (n - l) (c - l) ex) := by
  have hb : bounds3 c n (some (.int .i64 (l : Nat))) none none = some (l, n, c) := by
    have e2 : boundV (some (.int .i64 (l : Nat))) n 0 = some l := by simp only [boundV]; rw [if_pos (by omega)]; simp
    have e1 : boundV none c n = some n := rfl
    have e3 : boundV none c c = some c := rfl
    simp only [bounds3, Option.isSome_none, Bool.false_and, e3, Option.bind_some, e1, e2]
  have h1 : ¬ c = l := by omega
  have h2 : ¬ (1 = 0 ∨ c = 0) := by omega
  simp only [sliceSl, hb]
  cases ex with
  | true => rw [if_pos rfl, if_neg h1, Nat.mul_one]; rfl
  | false => rw [if_neg (by simp), if_neg h2, if_pos hnc, if_neg h1, Nat.mul_one]; rfl
theorem slTo {k o n c h : Nat} {ex : Bool} (hh : h ≤ n) (hnc : n ≤ c) (hc : c ≠ 0) :
    sliceSl 1 (.slice (some ⟨.new k, o⟩) n c ex) none (some (.int .i64 (h : Nat))) none = some (.slice (some ⟨.new k, o⟩) h c ex) := by
  have hb : bounds3 c n none (some (.int .i64 (h : Nat))) none = some (0, h, c) := by
    have e1 : boundV (some (.int .i64 (h : Nat))) c n = some h := by simp only [boundV]; rw [if_pos (by omega)]; simp
    have e2 : boundV none h 0 = some 0 := rfl
    have e3 : boundV none c c = some c := rfl
    simp only [bounds3, Option.isSome_none, Bool.false_and, e3, Option.bind_some, e1, e2]
  have h2 : ¬ (1 = 0 ∨ c = 0) := by omega
  have ea : (if c = 0 then (⟨.new k, o⟩ : Ad) else add ⟨.new k, o⟩ (0 * 1)) = ⟨.new k, o⟩ := by rw [if_neg hc]; simp [add]
  simp only [sliceSl, hb, Nat.sub_zero]
  cases ex with
  | true => rw [if_pos rfl, ea]
  | false => rw [if_neg (by simp), if_neg h2, if_pos hnc, ea]

/-- The first cells are ints. -/
def Ints (cs : List V) (n : Nat) : Prop := ∀ i, i < n → ∃ z, cs[i]? = some (.int .i64 z)
theorem Ints.set {cs : List V} {n j : Nat} (h : Ints cs n) (hn : n ≤ cs.length) (z : Int) : Ints (cs.set j (.int .i64 z)) n := fun i hi => by
  rw [List.getElem?_set]
  split
  · rw [if_pos (by omega)]; exact ⟨z, rfl⟩
  · exact h i hi
theorem ints_list {cs : List V} {n : Nat} (h : Ints cs n) (hn : n ≤ cs.length) : ∃ l : List Int, l.length = n ∧ cs.take n = l.map iV := by
  refine ⟨(cs.take n).map zOf, by simp; omega, ?_⟩
  refine List.ext_getElem? fun i => ?_
  rw [List.getElem?_map, List.getElem?_map]
  by_cases hi : i < n
  · obtain ⟨z, hz⟩ := h i hi
    rw [List.getElem?_take_of_lt hi, hz]; rfl
  · rw [List.getElem?_eq_none (by rw [List.length_take]; omega)]; rfl

theorem compact_loop2 {K : KX} {k n c u i : Nat} {ex : Bool} {cs : List V} {tm : Tm} {r : List HP} {s : AS} (hn : n ≤ 1000000) (hnc : n ≤ c) (hc : c ≤ cs.length) (he : ex = true ∨ c ≠ 0) (hi : i < n) (hi1 : 1 ≤ i) (hin : Ints cs n) (h : Hs G (Ob k (.cells cs u) :: r) s)
    (t0 : tm.getD 0 .junk = .slice (some ⟨.new k, 0⟩) n c ex) (t3 : tm.getD 3 .junk = .int .i64 (i : Nat)) (t4 : tm.getD 4 .junk = .slice (some ⟨.new k, 0 + i⟩) (n - i) (c - i) ex) (t5 : tm.getD 5 .junk = .int .i64 1)
    (hK : ∀ tm' s' i' cs', i' < n → cs'.length = cs.length → Ints cs' n → Hs G (Ob k (.cells cs' u) :: r) s' → tm'.getD 0 .junk = .slice (some ⟨.new k, 0⟩) n c ex → tm'.getD 3 .junk = .int .i64 (i' : Nat) → K (.exit 2) tm' s') :
    loopN LOOPS (fun tm s K => fn83_L2 (tm.getD 0 .junk) (tm.getD 3 .junk) (tm.getD 4 .junk) (tm.getD 5 .junk) s K) tm s K := by
  refine loop_rule (fun m tm s1 => ∃ (q i' : Nat) (cs' : List V), m + q = n - i ∧ 1 ≤ q ∧ i' < i + q ∧ i' < n ∧ cs'.length = cs.length ∧ Ints cs' n ∧ Hs G (Ob k (.cells cs' u) :: r) s1 ∧
    tm.getD 0 .junk = .slice (some ⟨.new k, 0⟩) n c ex ∧ tm.getD 3 .junk = .int .i64 (i' : Nat) ∧ tm.getD 4 .junk = .slice (some ⟨.new k, 0 + i⟩) (n - i) (c - i) ex ∧ tm.getD 5 .junk = .int .i64 (q : Nat)) ?_ (m := n - i - 1) (by omega)
    ⟨1, i, cs, by omega, Nat.le_refl _, by omega, hi, rfl, hin, h, t0, t3, t4, t5⟩
  rintro m tm s1 Kn ⟨q, i', cs', hmq, hq, hiq, hin', hcl, hI, h1, t0, t3, t4, t5⟩ hnext
  simp only [t0, t3, t4, t5]
  unfold fn83_L2
  have he' : ex = true ∨ c - i ≠ 0 := by omega
  rw [lenV_slice, optK_some, bin_lss, optK_some]
  by_cases hq2 : q < n - i
  · have d : decide ((q : Int) < ((n - i : Nat) : Int)) = true := decide_eq_true (by omega)
    have w1 : IntKind.i64.wrap ((q : Int) - 1) = ((q - 1 : Nat) : Int) := by rw [wrap64 (by omega) (by omega)]; omega
    have w2 : IntKind.i64.wrap ((q : Int) + 1) = ((q + 1 : Nat) : Int) := by rw [wrap64 (by omega) (by omega)]; omega
    have w3 : IntKind.i64.wrap ((i' : Int) + 1) = ((i' + 1 : Nat) : Int) := by rw [wrap64 (by omega) (by omega)]; omega
    obtain ⟨z1, hz1⟩ := hI (0 + i + q * 1) (by omega)
    obtain ⟨z2, hz2⟩ := hI (0 + i + (q - 1) * 1) (by omega)
    rw [d, condV_true, elem_ok hq2 he', optK_some, ld_t h1, hz1, optK_some, bin_sub, optK_some, w1, elem_ok (by omega) he', optK_some, ld_t h1, hz2, optK_some, bin_neq, optK_some]
    cases hne : (z1 != z2) with
    | true =>
      rw [condV_true, optK_some, ld_t h1, hz1, optK_some, elem_ok hin' he, optK_some]
      refine st_t h1 (by omega) rfl fun s2 h2 => ?_
      rw [bin_add, optK_some, w3, bin_add, optK_some, w2, nx_nrm]
      exact hnext (m - 1) _ _ (by omega) ⟨q + 1, i' + 1, _, by omega, by omega, by omega, by omega, by rw [List.length_set]; exact hcl, hI.set (by omega) z1, h2, rfl, rfl, rfl, rfl⟩
    | false =>
      rw [condV_false, bin_add, optK_some, w2, nx_nrm]
      exact hnext (m - 1) _ _ (by omega) ⟨q + 1, i', cs', by omega, by omega, by omega, hin', hcl, hI, h1, rfl, rfl, rfl, rfl⟩
  · have d : decide ((q : Int) < ((n - i : Nat) : Int)) = false := decide_eq_false (by omega)
    rw [d, condV_false, nx_exit]
    exact hK _ _ i' cs' hin' hcl hI h1 rfl rfl

theorem compactG_t {v : V} {l : List Int} {r : List HP} {s : AS} (h : Hs G (IntsH v l :: r) s) (hl : l.length ≤ 1000000) (hs : l.Pairwise (· ≤ ·)) :
    Ens (fn83 v) s fun u s' => ∃ a n c ex l', u = .slice a n c ex ∧ l'.length = l.length ∧ (n = l.length ↔ l.Pairwise (· < ·)) ∧ Hs G (IntsH v l' :: r) s' := by
  intro K hK
  obtain ⟨a, c, ex, hv⟩ := slH_slice h
  unfold fn83 fn83_q
  have hlv : lenV (some (Kd.slice 3)) v = some (.int .i64 l.length) := by rw [hv]; rfl
  rw [hlv, optK_some, bin_lss, optK_some]
  by_cases h2 : l.length < 2
  · have d : decide ((l.length : Int) < 2) = true := decide_eq_true (by omega)
    rw [d, condV_true]
    refine hK _ _ ⟨a, l.length, c, ex, l, hv, rfl, ⟨fun _ => ?_, fun _ => rfl⟩, h⟩
    match l, h2 with
    | [], _ => exact List.Pairwise.nil
    | [x], _ => simp
  · have d : decide ((l.length : Int) < 2) = false := decide_eq_false (by omega)
    rw [d, condV_false]
    have hfacts := slH_facts h
    rcases slH_ob h with ⟨h0, _⟩ | ⟨k, c', ex', cs, u, hv2, ht, hnc, hcl, he, h'⟩
    · omega
    rw [Nat.mul_one] at hcl ht
    have he2 : ex' = true ∨ c' ≠ 0 := by omega
    have hcell : ∀ i, i < l.length → cs[i]? = some (.int .i64 (l.getD i 0)) := fun i hi => by
      have e : (cs.take l.length)[i]? = cs[i]? := List.getElem?_take_of_lt hi
      rw [← e, ht, List.getElem?_map, List.getD_eq_getElem?_getD, List.getElem?_eq_getElem hi]; rfl
    have hI : Ints cs l.length := fun i hi => ⟨_, hcell i hi⟩
    have back : ∀ (cs' : List V) s', cs'.length = cs.length → Ints cs' l.length → Hs G (Ob k (.cells cs' u) :: r) s' → ∃ l' : List Int, l'.length = l.length ∧ Hs G (IntsH v l' :: r) s' := fun cs' s' hc2 hI2 h3 => by
      obtain ⟨l', hl', ht'⟩ := ints_list hI2 (by omega)
      refine ⟨l', hl', ?_⟩
      rw [hv2, ← hl']
      exact ob_slH h3 (by rw [Nat.mul_one, hl', ht']) (by simp) (iV_flat _) (by omega) (by omega) (he.imp id fun hh => ⟨hh.1, hh.2⟩)
    refine loop_rule (fun m tm s1 => ∃ i : Nat, m + i = l.length ∧ 1 ≤ i ∧ s1 = s ∧ (∀ j, 1 ≤ j → j < i → l.getD (j - 1) 0 < l.getD j 0) ∧ tm.getD 0 .junk = v ∧ tm.getD 3 .junk = .int .i64 (i : Nat)) ?_ (m := l.length - 1) (by omega) ⟨1, by omega, Nat.le_refl _, rfl, fun j h1 h2 => by omega, rfl, rfl⟩
    rintro m tm s1 Kn ⟨i, hm, hi1, rfl, hup, t0, t3⟩ hnext
    simp only [t0, t3]
    unfold fn83_L1
    rw [hlv, optK_some, bin_lss, optK_some]
    by_cases hi : i < l.length
    · have d : decide ((i : Int) < (l.length : Int)) = true := decide_eq_true (by omega)
      have w : IntKind.i64.wrap ((i : Int) + 1) = ((i + 1 : Nat) : Int) := by rw [wrap64 (by omega) (by omega)]; omega
      have w1 : IntKind.i64.wrap ((i : Int) - 1) = ((i - 1 : Nat) : Int) := by rw [wrap64 (by omega) (by omega)]; omega
      rw [d, condV_true]
      have ep : elemPtr none 1 v (.int .i64 (i : Nat)) = some (.ptr (some ⟨.new k, 0 + i * 1⟩)) := by rw [hv2]; exact elem_ok hi he2
      have ep1 : elemPtr none 1 v (.int .i64 ((i - 1 : Nat) : Int)) = some (.ptr (some ⟨.new k, 0 + (i - 1) * 1⟩)) := by rw [hv2]; exact elem_ok (by omega) he2
      have c1 := hcell i hi
      have c2 := hcell (i - 1) (by omega)
      have e0 : 0 + i * 1 = i := by omega
      have e1 : 0 + (i - 1) * 1 = i - 1 := by omega
      rw [ep, optK_some, ld_t h', e0, c1, optK_some, bin_sub, optK_some, w1, ep1, optK_some, ld_t h', e1, c2, optK_some, bin_eql, optK_some]
      have hle : l.getD (i - 1) 0 ≤ l.getD i 0 := by
        have := List.pairwise_iff_getElem.1 hs (i - 1) i (by omega) hi (by omega)
        rw [List.getD_eq_getElem?_getD, List.getD_eq_getElem?_getD, List.getElem?_eq_getElem hi, List.getElem?_eq_getElem (show i - 1 < l.length by omega)]
        exact this
      cases heq : (l.getD i 0 == l.getD (i - 1) 0) with
      | false =>
        have hne : l.getD i 0 ≠ l.getD (i - 1) 0 := by simpa using heq
        rw [condV_false, bin_add, optK_some, w, nx_nrm]
        refine hnext (m - 1) _ _ (by omega) ⟨i + 1, by omega, by omega, rfl, fun j h1 h2 => ?_, rfl, rfl⟩
        by_cases hj : j < i
        · exact hup j h1 hj
        · have : j = i := by omega
          subst this; omega
      | true =>
        have hdup : l.getD i 0 = l.getD (i - 1) 0 := by simpa using heq
        have hnot : ¬ l.Pairwise (· < ·) := fun hp => by
          have := List.pairwise_iff_getElem.1 hp (i - 1) i (by omega) hi (by omega)
          rw [List.getD_eq_getElem?_getD, List.getD_eq_getElem?_getD, List.getElem?_eq_getElem hi, List.getElem?_eq_getElem (show i - 1 < l.length by omega)] at hdup
          simp only [Option.getD_some] at hdup
          omega
        have ef : sliceSl 1 v (some (.int .i64 (i : Nat))) none none = some (.slice (some ⟨.new k, 0 + i⟩) (l.length - i) (c' - i) ex') := by rw [hv2]; exact slFrom (by omega) hnc (by omega)
        rw [condV_true, ef, optK_some]
        refine compact_loop2 (n := l.length) (c := c') (ex := ex') (i := i) hl hnc hcl he2 hi hi1 hI h' hv2 rfl rfl rfl ?_
        intro tm2 s2 i' cs' hi' hcl' hI' h3 u0 u3
        have ef2 : sliceSl 1 (.slice (some ⟨.new k, 0⟩) l.length c' ex') (some (.int .i64 (i' : Nat))) none none = some (.slice (some ⟨.new k, 0 + i'⟩) (l.length - i') (c' - i') ex') := slFrom (by omega) hnc (by omega)
        have ef3 : sliceSl 1 (.slice (some ⟨.new k, 0⟩) l.length c' ex') none (some (.int .i64 (i' : Nat))) none = some (.slice (some ⟨.new k, 0⟩) i' c' ex') := slTo (by omega) hnc (by omega)
        rw [exX_exit]
        show exB true _ _
        rw [exB_true, u0, u3, ef2, optK_some]
        have hz : zeros [V.int .i64 0] (l.length - i') = List.replicate (l.length - i') (V.int .i64 0) := by
          unfold zeros
          induction (l.length - i') with
          | zero => rfl
          | succ n ih => simp_all [List.replicate_succ]
        have hset : setN s2 ⟨.new k, 0 + i'⟩ (zeros [V.int .i64 0] (l.length - i')) = some (s2.put k (some (.cells (spl cs' (0 + i') (zeros [V.int .i64 0] (l.length - i'))) u))) := by
          simp only [setN, h3.get]
          rw [if_pos]
          rw [hz]
          refine ⟨by rw [List.length_replicate]; omega, ?_⟩
          rw [List.all_eq_true]; intro x hx
          rw [List.eq_of_mem_replicate hx]; rfl
        have hclr : ∀ K : K0, clr 1 [V.int .i64 0] (.slice (some ⟨.new k, 0 + i'⟩) (l.length - i') (c' - i') ex') s2 K = K undefV (s2.put k (some (.cells (spl cs' (0 + i') (zeros [V.int .i64 0] (l.length - i'))) u))) := fun K => by
          simp only [clr]
          rw [if_neg (by omega), if_pos ⟨by omega, rfl, rfl⟩, hset]
        rw [hclr]
        have h4 := h3.put (.cells (spl cs' (0 + i') (zeros [V.int .i64 0] (l.length - i'))) u)
        have hI4 : Ints (spl cs' (0 + i') (zeros [V.int .i64 0] (l.length - i'))) l.length := fun j hj => by
          unfold spl
          by_cases hj2 : j < i'
          · rw [List.getElem?_append_left (by rw [List.length_take]; omega), List.getElem?_take_of_lt (by omega)]
            exact hI' j hj
          · rw [List.getElem?_append_right (by rw [List.length_take]; omega), hz, List.length_take, List.getElem?_append_left (by rw [List.length_replicate]; omega), List.getElem?_replicate, if_pos (by omega)]
            exact ⟨0, rfl⟩
        have hl4 : (spl cs' (0 + i') (zeros [V.int .i64 0] (l.length - i'))).length = cs.length := by
          unfold spl
          rw [hz, List.length_append, List.length_append, List.length_take, List.length_replicate, List.length_drop]; omega
        obtain ⟨l', hl', h5⟩ := back _ _ hl4 hI4 h4
        rw [ef3, optK_some, nx_ret, exX_ret]
        exact hK _ _ ⟨_, i', c', ex', l', rfl, hl', ⟨fun e => by omega, fun hp => absurd hp hnot⟩, h5⟩
    · have d : decide ((i : Int) < (l.length : Int)) = false := decide_eq_false (by omega)
      rw [d, condV_false, nx_exit, exX_exit]
      show exB true _ _
      rw [exB_true]
      refine hK _ _ ⟨a, l.length, c, ex, l, hv, rfl, ⟨fun _ => ?_, fun _ => rfl⟩, h⟩
      -- each is less than the next
      have key : ∀ (d j : Nat), j + d + 1 < l.length → l.getD j 0 < l.getD (j + d + 1) 0 := by
        intro d
        induction d with
        | zero =>
          intro j hj
          have := hup (j + 1) (by omega) (by omega)
          simpa using this
        | succ d ih =>
          intro j hj
          have h1 := ih j (by omega)
          have h2 := hup (j + d + 1 + 1) (by omega) (by omega)
          have e : j + (d + 1) + 1 = j + d + 1 + 1 := by omega
          have e2 : j + d + 1 + 1 - 1 = j + d + 1 := by omega
          rw [e2] at h2
          rw [e]
          omega
      rw [List.pairwise_iff_getElem]
      intro p q hp hq hpq
      have := key (q - p - 1) p (by omega)
      have e : p + (q - p - 1) + 1 = q := by omega
      rw [e, List.getD_eq_getElem?_getD, List.getD_eq_getElem?_getD, List.getElem?_eq_getElem hp, List.getElem?_eq_getElem hq] at this
      exact this
end Go.Proofs.Vt
end
section
/- Configs of any kind: which may be; what is read of bytes. By the program. -/
namespace Go.Proofs.Vt
open Go Go.Rx Go.Proofs
variable {G : Nat → Option (List V)}

def repB (n : Nat) : Bool := decide (10 ≤ n ∧ n ≤ 13)
def Cf.okB (c : Cf) : Bool := decide (c.num ≤ 9007199254740991) && decide (1 ≤ c.chain.length ∧ c.chain.length ≤ 4) && decide (1 ≤ c.full ∧ c.full ≤ c.chain.length) && c.chain.all repB && decide c.chain.Nodup
theorem okB_iff {c : Cf} : c.okB = true ↔ c.ok := by
  unfold Cf.okB
  simp only [Bool.and_eq_true, decide_eq_true_eq, List.all_eq_true, repB]
  exact ⟨fun ⟨⟨⟨⟨h1, h2⟩, h3⟩, h4⟩, h5⟩ => ⟨h1, h4, h5, h2, h3⟩, fun h => ⟨⟨⟨⟨h.num, h.len⟩, h.full⟩, h.rep⟩, h.nodup⟩⟩

theorem containsG_t {v : V} {l : List Nat} {r : List HP} {s : AS} (h : Hs G (NatsH v l :: r) s) (hl : l.length ≤ 1000000) (K : K0) (hK : K (.bool !(l.all repB)) s) :
    fn77 v (.func (.func 78) [] []) s K := by
  obtain ⟨a, c, ex, rfl⟩ := slH_slice h
  have hzl : (zs l).length = l.length := by simp
  rw [hzl]
  unfold fn77 fn77_q fn114 fn114_q
  rw [lenV_slice, optK_some]
  refine loop_rule (fun m tm s1 => ∃ i : Nat, m + i = l.length ∧ s1 = s ∧ (∀ x ∈ l.take i, repB x = true) ∧ tm.getD 0 .junk = .slice a l.length c ex ∧ tm.getD 1 .junk = .func (.func 78) [] [] ∧ tm.getD 7 .junk = .int .i64 l.length ∧ tm.getD 8 .junk = .int .i64 (i : Nat)) ?_ (m := l.length) (by omega) ⟨0, by omega, rfl, by simp, rfl, rfl, rfl, rfl⟩
  rintro m tm s1 Kn ⟨i, hm, rfl, hall, t0, t1, t7, t8⟩ hnext
  simp only [t0, t1, t7, t8]
  unfold fn114_L1
  rw [bin_lss, optK_some]
  by_cases hi : i < l.length
  · have d : decide ((i : Int) < (l.length : Int)) = true := decide_eq_true (by omega)
    have w : IntKind.i64.wrap ((i : Int) + 1) = ((i + 1 : Nat) : Int) := by rw [wrap64 (by omega) (by omega)]; omega
    have hx : ((zs l).map iV)[i]? = some (iV (l[i] : Nat)) := by simp [hi]
    obtain ⟨p, e1, l1⟩ := elem1_t h hx .i64
    have e1' : elemPtr none 1 (V.slice a l.length c ex) (.int .i64 (i : Nat)) = some (.ptr (some p)) := by rw [← hzl]; exact e1
    have hc : ∀ s K, callV (E114 fn78) (.func (.func 78) [] []) [iV (l[i] : Nat)] s K = K (.bool !(repB l[i])) s := fun s K => by
      have e := CheckConf_1_t (l[i] : Nat) s K
      have e2 : decide (10 ≤ ((l[i] : Nat) : Int) ∧ ((l[i] : Nat) : Int) ≤ 13) = repB l[i] := by
        unfold repB
        by_cases hh : 10 ≤ l[i] ∧ l[i] ≤ 13
        · rw [decide_eq_true hh, decide_eq_true (by omega)]
        · rw [decide_eq_false hh, decide_eq_false (by omega)]
      rw [e2] at e; exact e
    rw [d, condV_true, e1', optK_some, l1, hc]
    cases hb : repB l[i] with
    | false =>
      show condV (.bool true) _ _
      rw [condV_true, nx_ret, exX_ret]
      have : l.all repB = false := by
        rw [List.all_eq_false]
        exact ⟨l[i], List.getElem_mem .., by rw [hb]; simp⟩
      rw [this] at hK
      have dge : decide ((i : Int) ≥ 0) = true := decide_eq_true (by omega)
      show optK (binV .geq _ _ (.int .i64 (i : Nat)) (.int .i64 0)) s1 _
      rw [bin_geq, optK_some, dge]
      exact hK
    | true =>
      show condV (.bool false) _ _
      rw [condV_false, bin_add, optK_some, w, nx_nrm]
      refine hnext (l.length - (i + 1)) _ _ (by omega) ⟨i + 1, by omega, rfl, fun x hx => ?_, rfl, rfl, rfl, rfl⟩
      rw [List.take_add_one, List.getElem?_eq_getElem hi] at hx
      rcases List.mem_append.1 hx with hx | hx
      · exact hall x hx
      · simp at hx; rw [hx]; exact hb
  · have d : decide ((i : Int) < (l.length : Int)) = false := decide_eq_false (by omega)
    rw [d, condV_false, nx_exit, exX_exit]
    show exB true _ _
    rw [exB_true]
    have : l.all repB = true := by
      rw [List.all_eq_true]
      rw [List.take_of_length_le (by omega)] at hall
      exact hall
    rw [this] at hK
    have dge : decide ((-1 : Int) ≥ 0) = false := by decide
    rw [bin_geq, optK_some, dge]
    exact hK

theorem arg_t (b : Bool) (s : AS) (K : K0) : fn82 (.bool b) s K = K (.int .i64 (if b = true then 0 else 2)) s := by
  unfold fn82 fn82_q
  rw [un_not, optK_some]
  cases b
  · show condV (.bool true) _ _ = _
    rw [condV_true]; rfl
  · show condV (.bool false) _ _ = _
    rw [condV_false]; rfl
theorem nodup_sorted {l : List Nat} {l' : List Int} (hs : l'.Pairwise (· ≤ ·)) (hp : l'.Perm (zs l)) : l'.Pairwise (· < ·) ↔ l.Nodup := by
  have e : l'.Nodup ↔ l.Nodup := by
    rw [hp.nodup_iff]
    constructor
    · intro h
      unfold zs List.Nodup at h
      rw [List.pairwise_map] at h
      exact h.imp fun hab e => hab (by rw [e])
    · intro h
      unfold zs List.Nodup
      rw [List.pairwise_map]
      exact List.Pairwise.imp (fun hab e => hab (by omega)) h
  rw [← e]
  exact ⟨fun h => h.imp fun h => by omega, fun h => strict_of hs h⟩

theorem CheckConfG_t {c : Cf} (hcl : c.chain.length ≤ 12) {v : V} {r : List HP} {s : AS} (h : Hs G (NatsH v c.chain :: r) s) : Ens (fn42 (cfV c v)) s fun u s' => u = .int .i64 (if c.okB = true then 0 else 2) ∧ Hs G (NatsH v c.chain :: r) s' := by
  intro K hK
  obtain ⟨a, cc, ex, hv⟩ := slH_slice h
  have hlen : (zs c.chain).length = c.chain.length := by simp
  rw [hlen] at hv
  have hfl : flatV v = true := nats_flat h
  have hlv : lenV (some (Kd.slice 3)) v = some (.int .i64 c.chain.length) := by rw [hv]; rfl
  unfold fn42 fn42_q cfV
  refine boxA_t h fun k s1 h1 => ?_
  have lo : ∀ K, ld1 (.ptr (some ⟨.new k, 0 + 2⟩)) s1 K = K v s1 := fun K => (ld_t h1 K).trans (by rw [Nat.zero_add, List.getElem?_cons_succ, List.getElem?_cons_succ, List.getElem?_cons_zero, optK_some])
  rw [fp_ptr, optK_some, lo]
  refine containsG_t (h1.pull 1) (by omega) _ ?_
  rw [optK_some, lo]
  refine Values_t hfl h1 _ ?_
  rintro _ s2 ⟨k2, rfl, h2⟩
  refine Sorted_t (by rw [hlen]; omega) (h2.ord [0, 2]) _ ?_
  rintro u s3 ⟨l', hs', hp', h3⟩
  have hll : l'.length = c.chain.length := by rw [hp'.length_eq, hlen]
  rw [un_not, optK_some, Bool.not_not]
  have hnd := nodup_sorted hs' hp'
  cases hall : c.chain.all repB with
  | false =>
    have : c.okB = false := by unfold Cf.okB; rw [hall]; simp
    rw [grd_false, arg_t]
    rw [this] at hK
    exact hK _ _ ⟨rfl, h3.drop 0 |>.drop 1⟩
  | true =>
    rw [grd_true]
    refine compactG_t h3 (by omega) hs' _ ?_
    rintro _ s4 ⟨a4, n4, c4, ex4, l4, rfl, hl4, hn4, h4⟩
    have hk4 := h4.pull 2
    have lo2 : ∀ K, ld1 (.ptr (some ⟨.new k, 0 + 2⟩)) s4 K = K v s4 := fun K => (ld_t hk4 K).trans (by rw [Nat.zero_add, List.getElem?_cons_succ, List.getElem?_cons_succ, List.getElem?_cons_zero, optK_some])
    have lo0 : ∀ K, ld1 (.ptr (some ⟨.new k, 0 + 0⟩)) s4 K = K (.int .i64 c.num) s4 := fun K => (ld_t hk4 K).trans (by rw [List.getElem?_cons_zero, optK_some])
    have lo1 : ∀ K, ld1 (.ptr (some ⟨.new k, 0 + 1⟩)) s4 K = K (.int .i64 c.full) s4 := fun K => (ld_t hk4 K).trans (by rw [Nat.zero_add, List.getElem?_cons_succ, List.getElem?_cons_zero, optK_some])
    have hh : Rx.holds ti35 (.ptr (some ⟨.new k, 0 + 2⟩)) s3 v = true := holds_t rfl (h3.pull 2) (v := v) (by rfl) (by rw [hv]; exact sameV_slice _ _ _ _)
    have done : ∀ s', Hs G (IntsH u l4 :: Ob k2 (.cells [v] 0) :: Ob k (.cells [.int .i64 c.num, .int .i64 c.full, v] 0) :: NatsH v c.chain :: r) s' → Hs G (NatsH v c.chain :: r) s' := fun s' h => h.tail.tail.tail
    rw [lenV_slice, optK_some, optK_some, lo2, hh, chkB_true, hlv, optK_some, bin_eql, optK_some]
    by_cases hnn : n4 = l'.length
    · have d1 : ((n4 : Int) == (c.chain.length : Int)) = true := by rw [hnn, hll]; simp
      have hnodup := hnd.1 (hn4.1 hnn)
      rw [d1, grd_true, fp_ptr, optK_some, lo0, within_t]
      by_cases hnum : c.num ≤ 9007199254740991
      · rw [decide_eq_true (by omega : (0 : Int) ≤ (c.num : Int) ∧ (c.num : Int) ≤ 9007199254740991), grd_true, optK_some, lo2, hlv, optK_some, within_t]
        by_cases hle : 1 ≤ c.chain.length ∧ c.chain.length ≤ 4
        · rw [decide_eq_true (by omega : (1 : Int) ≤ (c.chain.length : Int) ∧ (c.chain.length : Int) ≤ 4), grd_true, fp_ptr, optK_some, lo1, optK_some, lo2, hlv, optK_some, within_t, arg_t]
          have eok : c.okB = decide ((1 : Int) ≤ (c.full : Int) ∧ (c.full : Int) ≤ (c.chain.length : Int)) := by
            unfold Cf.okB
            rw [hall, decide_eq_true hnum, decide_eq_true hle, decide_eq_true hnodup]
            by_cases hf : 1 ≤ c.full ∧ c.full ≤ c.chain.length
            · rw [decide_eq_true hf, decide_eq_true (by omega)]; rfl
            · rw [decide_eq_false hf, decide_eq_false (by omega)]; rfl
          rw [← eok]
          exact hK _ _ ⟨rfl, h4.drop 0 |>.drop 1⟩
        · have : c.okB = false := by unfold Cf.okB; rw [decide_eq_false hle]; simp
          rw [decide_eq_false (by omega : ¬ ((1 : Int) ≤ (c.chain.length : Int) ∧ (c.chain.length : Int) ≤ 4)), grd_false, arg_t]
          rw [this] at hK
          exact hK _ _ ⟨rfl, h4.drop 0 |>.drop 1⟩
      · have : c.okB = false := by unfold Cf.okB; rw [decide_eq_false hnum]; simp
        rw [decide_eq_false (by omega : ¬ ((0 : Int) ≤ (c.num : Int) ∧ (c.num : Int) ≤ 9007199254740991)), grd_false, arg_t]
        rw [this] at hK
        exact hK _ _ ⟨rfl, h4.drop 0 |>.drop 1⟩
    · have d1 : ((n4 : Int) == (c.chain.length : Int)) = false := by simp; omega
      have hno : ¬ c.chain.Nodup := fun hh => hnn (hn4.2 (hnd.2 hh))
      have : c.okB = false := by unfold Cf.okB; rw [decide_eq_false hno]; simp
      rw [d1, grd_false, arg_t]
      rw [this] at hK
      exact hK _ _ ⟨rfl, h4.drop 0 |>.drop 1⟩

/-! ### what is read of bytes -/
/-- So many numbers of one byte. -/
def RS.nums (R : RS) : Nat → List Nat × RS
  | 0 => ([], R)
  | k + 1 => ((R.nums k).1 ++ [((R.nums k).2.num 1).1], ((R.nums k).2.num 1).2)
theorem nums_len (R : RS) : ∀ k, (R.nums k).2.bs.length ≤ R.bs.length ∧ (R.nums k).1.length = k
  | 0 => ⟨Nat.le_refl _, rfl⟩
  | k + 1 => by
    have h1 := nums_len R k
    have h2 := num_len (R.nums k).2 1
    refine ⟨by show ((R.nums k).2.num 1).2.bs.length ≤ _; omega, ?_⟩
    show ((R.nums k).1 ++ [_]).length = k + 1
    rw [List.length_append, List.length_singleton, h1.2]
def cpN (ys : List UInt8) : Nat × RS := RS.count ⟨ys, 0⟩ 9007199254740991
def cpF (ys : List UInt8) : Nat × RS := (cpN ys).2.num 1
def cpK (ys : List UInt8) : Nat × RS := (cpF ys).2.num 1
def cpL (ys : List UInt8) : List Nat × RS := (cpK ys).2.nums (min (cpK ys).1 5)
def confC (ys : List UInt8) : Cf := ⟨(cpN ys).1, (cpF ys).1, (cpL ys).1⟩
def confE (ys : List UInt8) : Nat := if (cpL ys).2.e ≠ 0 then (cpL ys).2.e else if (cpL ys).2.fin ≠ 0 ∨ (confC ys).okB = false then 4 else 0
theorem cpN_e (ys : List UInt8) : RS.count ⟨ys, 0⟩ 9007199254740991 = cpN ys := by unfold cpN; rfl
theorem cpF_e (ys : List UInt8) : (cpN ys).2.num 1 = cpF ys := by unfold cpF; rfl
theorem cpK_e (ys : List UInt8) : (cpF ys).2.num 1 = cpK ys := by unfold cpK; rfl
theorem cpL_e (ys : List UInt8) : (cpK ys).2.nums (min (cpK ys).1 5) = cpL ys := by unfold cpL; rfl
theorem confC_n (ys : List UInt8) : (confC ys).num = (cpN ys).1 := by unfold confC; rfl
theorem confC_f (ys : List UInt8) : (confC ys).full = (cpF ys).1 := by unfold confC; rfl
theorem confC_c (ys : List UInt8) : (confC ys).chain = (cpL ys).1 := by unfold confC; rfl
theorem confP_len (ys : List UInt8) : (cpN ys).2.bs.length ≤ ys.length ∧ (cpF ys).2.bs.length ≤ ys.length ∧ (cpK ys).2.bs.length ≤ ys.length ∧ (cpL ys).2.bs.length ≤ ys.length ∧ (confC ys).chain.length ≤ 5 := by
  have h1 := count_len ⟨ys, 0⟩ 9007199254740991
  rw [cpN_e] at h1
  have h2 := num_len (cpN ys).2 1
  rw [cpF_e] at h2
  have h3 := num_len (cpF ys).2 1
  rw [cpK_e] at h3
  have h4 := nums_len (cpK ys).2 (min (cpK ys).1 5)
  rw [cpL_e] at h4
  rw [confC_c]
  have h5 : (cpN ys).2.bs.length ≤ ys.length := h1
  omega

def cf0 : V := .agg [.int .i64 0, .int .i64 0, .slice none 0 0 true]
theorem peek_cf {k : Nat} {a b : V} {v : V} {r : List HP} {s : AS} (h : Hs G (Ob k (.cells [a, b, v] 0) :: r) s) : peek ti37 (.ptr (some ⟨.new k, 0⟩)) s = some (.agg [a, b, v]) := peekA_t rfl h rfl

theorem wholeG_t {c : Cf} (hcl : c.chain.length ≤ 12) {kr : Nat} {R : RS} {v : V} {r : List HP} {s : AS} (h : Hs G (RrH kr R :: NatsH v c.chain :: r) s) :
    Ens (fn112 (.ptr (some ⟨.new kr, 0⟩)) (cfV c v) (.func (.func 42) [] [])) s fun u s' =>
      (R.e ≠ 0 ∧ u = .tuple [cf0, .int .i64 R.e] ∧ Hs G r s') ∨ (R.e = 0 ∧ (R.fin ≠ 0 ∨ c.okB = false) ∧ u = .tuple [cf0, .int .i64 (4 : Nat)] ∧ Hs G r s') ∨ (R.e = 0 ∧ R.fin = 0 ∧ c.okB = true ∧ u = .tuple [cfV c v, .int .i64 (0 : Nat)] ∧ Hs G (NatsH v c.chain :: r) s') := by
  intro K hK
  have hvf : flatV v = true := nats_flat h.tail
  unfold fn112 fn112_q cfV
  refine boxA_t h fun k4 s1 h1 => ?_
  refine newC_t h1 fun k6 s2 h2 => ?_
  refine newC_t h2 fun k8 s3 h3 => ?_
  rw [rErr_t (h3.pull 3), bin_neq, optK_some]
  by_cases he : R.e = 0
  · have d0 : ((R.e : Int) != 0) = false := by rw [he]; rfl
    rw [d0, condV_false, rEnd_t (h3.pull 3), bin_neq, optK_some]
    by_cases hf : R.fin = 0
    · have d1 : ((R.fin : Int) != 0) = false := by rw [hf]; rfl
      rw [d1, condV_false, ldAll_t (n := 3) (h3.pull 2) rfl]
      have hcall : ∀ s K, callV (E112 fn108 fn76 fn42) (.func (.func 42) [] []) [.agg [.int .i64 c.num, .int .i64 c.full, v]] s K = fn42 (cfV c v) s K := fun s K => rfl
      rw [hcall]
      refine CheckConfG_t hcl (h3.pull 4) _ ?_
      rintro _ s4 ⟨rfl, h4⟩
      rw [bin_neq, optK_some]
      cases hok : c.okB with
      | true =>
        show condV (.bool false) _ _
        rw [condV_false, ldAll_t (n := 3) (h4.pull 3) rfl]
        refine stAll_t (h4.pull 2) rfl rfl (flat3 hvf) fun s5 h5 => ?_
        rw [peek_cf h5]
        exact hK _ _ (.inr (.inr ⟨he, hf, hok, rfl, (h5.pull 1).drop 1 |>.drop 1 |>.drop 1 |>.drop 1⟩))
      | false =>
        show condV (.bool true) _ _
        rw [condV_true, ldAll_t (n := 3) (h4.pull 1) rfl]
        refine stAll_t (h4.pull 2) rfl rfl rfl fun s5 h5 => ?_
        rw [peek_cf h5]
        exact hK _ _ (.inr (.inl ⟨he, .inr hok, rfl, h5.tail.tail.tail.tail.tail⟩))
    · have d1 : ((R.fin : Int) != 0) = true := by simp [hf]
      rw [d1, condV_true, condV_true, ldAll_t (n := 3) h3 rfl]
      refine stAll_t (h3.pull 1) rfl rfl rfl fun s5 h5 => ?_
      rw [peek_cf h5]
      exact hK _ _ (.inr (.inl ⟨he, .inl hf, rfl, h5.tail.tail.tail.tail.tail⟩))
  · have d0 : ((R.e : Int) != 0) = true := by simp [he]
    rw [d0, condV_true, ldAll_t (n := 3) h3 rfl, rErr_t (h3.pull 3)]
    have hh : Rx.holds ti37 (.ptr (some ⟨.new k8, 0⟩)) s3 (.agg [.int .i64 0, .int .i64 0, .slice none 0 0 true]) = true := holds_of (peek_cf h3) (by simp [sameV, all2, same0])
    rw [hh, chkB_true]
    refine stAll_t (h3.pull 1) rfl rfl rfl fun s5 h5 => ?_
    rw [peek_cf h5]
    exact hK _ _ (.inl ⟨he, rfl, h5.tail.tail.tail.tail.tail⟩)

theorem zs_snoc (l : List Nat) (n : Nat) : zs (l ++ [n]) = zs l ++ [(n : Int)] := List.map_append
theorem nats_snoc (v : V) (l : List Nat) (n : Nat) : NatsH v (l ++ [n]) = SlH 1 v ((zs l).length + 1) ((zs l).map iV ++ [V.int .i64 ((n : Nat) : Int)]) := by
  show SlH 1 v (zs (l ++ [n])).length ((zs (l ++ [n])).map iV) = _
  rw [zs_snoc, List.length_append, List.map_append]; rfl

theorem min5 (k : Nat) : foldV min2V (.int .i64 (k : Nat)) [.int .i64 5] = some (.int .i64 ((min k 5 : Nat) : Int)) := by
  simp only [foldV, min2V]
  congr 2
  split <;> omega
theorem ParseConfG_t {ys : List UInt8} (hyl : ys.length ≤ 1099511627776) {v : V} {r : List HP} {s : AS} (hr : Reads G r v ys) (h : Hs G r s) :
    Ens (fn74 v) s fun u s' => (confE ys = 0 ∧ (confC ys).ok ∧ ∃ w, u = .tuple [cfV (confC ys) w, .int .i64 (0 : Nat)] ∧ Hs G (NatsH w (confC ys).chain :: r) s') ∨ (confE ys ≠ 0 ∧ u = .tuple [cf0, .int .i64 (confE ys)] ∧ Hs G r s') := by
  intro K hK
  obtain ⟨hl1, hl2, hl3, hl4, hl5⟩ := confP_len ys
  unfold fn74 fn74_q
  refine newC_t h fun k2 s1 h1 => ?_
  refine rRead_t hr.cons h1 hyl _ ?_
  rintro _ s2 ⟨kr, rfl, h2⟩
  refine rCount_t hyl (most := 9007199254740991) (by omega) h2 _ ?_
  rintro _ s3 ⟨rfl, h3⟩
  rw [cpN_e] at h3 ⊢
  refine rNum_t (w := 1) (by omega) (by omega) h3 _ ?_
  rintro _ s4 ⟨rfl, h4⟩
  rw [cpF_e] at h4 ⊢
  have hag : aggO (fillV (placeS [(0, 3), (1, 3), (2, 35)] ty) [V.int .i64 0, .int .i64 0, .slice none 0 0 true] [(0, .int .i64 (cpN ys).1), (1, .int .i64 (cpF ys).1)]) = some (.agg [.int .i64 (cpN ys).1, .int .i64 (cpF ys).1, .slice none 0 0 true]) := by
    simp [fillV, placeS, cellsV, spl, aggO]
  rw [hag, optK_some]
  refine newC_t h4 fun k5 s5 h5 => ?_
  refine stAll_t h5 rfl rfl rfl fun s6 h6 => ?_
  refine rNum_t (w := 1) (by omega) (by omega) (h6.pull 1) _ ?_
  rintro _ s7 ⟨rfl, h7⟩
  rw [cpK_e] at h7 ⊢
  obtain ⟨N, hN⟩ : ∃ N, N = min (cpK ys).1 5 := ⟨_, rfl⟩
  have emin : foldV min2V (.int .i64 ((cpK ys).1 : Nat)) [.int .i64 5] = some (.int .i64 (N : Nat)) := by rw [hN]; exact min5 _
  have el : (cpK ys).2.nums N = (cpL ys) := by rw [hN, cpL_e]
  rw [emin, optK_some]
  refine loop_rule (fun m tm s1 => ∃ (i : Nat) (w : V), m + i = N ∧ Hs G (RrH kr ((cpK ys).2.nums i).2 :: Ob k5 (.cells [.int .i64 (cpN ys).1, .int .i64 (cpF ys).1, w] 0) :: NatsH w ((cpK ys).2.nums i).1 :: Ob k2 (.cells [.int .i64 0, .int .i64 0, .slice none 0 0 true] 0) :: r) s1 ∧
    tm.getD 2 .junk = .ptr (some ⟨.new k2, 0⟩) ∧ tm.getD 4 .junk = .ptr (some ⟨.new kr, 0⟩) ∧ tm.getD 5 .junk = .ptr (some ⟨.new k5, 0⟩) ∧ tm.getD 15 .junk = .int .i64 (N : Nat) ∧ tm.getD 16 .junk = .int .i64 (i : Nat)) ?_ (m := N) (by omega)
    ⟨0, .slice none 0 0 true, by omega, (h7.slNil 1 true).ord [1, 2, 0], rfl, rfl, rfl, rfl, rfl⟩
  rintro m tm s8 Kn ⟨i, w, hm, h8, t2, t4, t5, t15, t16⟩ hnext
  simp only [t2, t4, t5, t15, t16]
  unfold fn74_L1
  obtain ⟨hnl1, hnl2⟩ := nums_len (cpK ys).2 i
  obtain ⟨R1, hR1⟩ : ∃ R1, R1 = ((cpK ys).2.nums i).2 := ⟨_, rfl⟩
  obtain ⟨l1, hl1'⟩ : ∃ l1, l1 = ((cpK ys).2.nums i).1 := ⟨_, rfl⟩
  rw [← hR1] at hnl1 h8
  rw [← hl1'] at hnl2 h8
  have ek := h8.pull 1
  rw [bin_lss, optK_some]
  by_cases hi : i < N
  · have d : decide ((i : Int) < (N : Int)) = true := decide_eq_true (by omega)
    have w1 : IntKind.i64.wrap ((i : Int) + 1) = ((i + 1 : Nat) : Int) := by rw [wrap64 (by omega) (by omega)]; omega
    obtain ⟨wa, wc, wex, hw⟩ := slH_slice (h8.pull 2)
    have hsv : sameV w w = true := by rw [hw]; exact sameV_slice _ _ _ _
    rw [d, condV_true, fp_ptr, optK_some, Nat.zero_add, ld_t ek, List.getElem?_cons_succ, List.getElem?_cons_succ, List.getElem?_cons_zero, optK_some]
    refine rNum_t (w := 1) (by omega) (by omega) h8 _ ?_
    rintro _ s9 ⟨rfl, h9⟩
    have hh := holds_t (ti := ti35) rfl (h9.pull 1) (o := 2) (v := w) rfl hsv
    rw [hh, chkB_true]
    refine bsl1_t rfl rfl h9 fun x s10 hx hxl h10 => ?_
    have hh2 := holds_t (ti := ti35) rfl (h10.pull 2) (o := 2) (v := w) rfl hsv
    rw [hh2, chkB_true]
    refine push_t (h10.ord [3, 0]) hx hxl rfl (by simp; omega) (by omega) fun v11 s11 h11 => ?_
    rw [optK_some]
    rw [← nats_snoc] at h11
    have hvf : flatV v11 = true := nats_flat h11
    refine st_t (h11.pull 2) (by simp) hvf fun s12 h12 => ?_
    have es : ([V.int .i64 (cpN ys).1, .int .i64 (cpF ys).1, w].set 2 v11) = [V.int .i64 (cpN ys).1, .int .i64 (cpF ys).1, v11] := rfl
    rw [es] at h12
    rw [bin_add, optK_some, w1, nx_nrm]
    refine hnext (N - (i + 1)) _ _ (by omega) ⟨i + 1, v11, by omega, ?_, rfl, rfl, rfl, rfl, rfl⟩
    have e1 : ((cpK ys).2.nums (i + 1)).2 = (R1.num 1).2 := by rw [hR1, RS.nums]
    have e2 : ((cpK ys).2.nums (i + 1)).1 = l1 ++ [(R1.num 1).1] := by rw [hR1, hl1', RS.nums]
    rw [e1, e2]
    exact h12.ord [2, 0, 1]
  · have d : decide ((i : Int) < (N : Int)) = false := decide_eq_false (by omega)
    have : i = N := by omega
    subst this
    rw [el] at hR1 hl1'
    rw [hR1] at h8
    rw [d, condV_false, nx_exit, exX_exit]
    show exB true _ _
    rw [exB_true]
    show ldA 3 (.ptr (some ⟨.new k5, 0⟩)) s8 _
    rw [ldAll_t (n := 3) ek rfl]
    have ecl : l1 = (confC ys).chain := by rw [confC_c]; exact hl1'
    rw [ecl] at h8
    have ecf : V.agg [.int .i64 (cpN ys).1, .int .i64 (cpF ys).1, w] = cfV (confC ys) w := by unfold cfV; rw [confC_n, confC_f]
    rw [ecf]
    refine wholeG_t (c := confC ys) (by omega) (h8.ord [0, 2]) _ ?_
    intro u s9 hu
    have stz : ∀ (K2 : K0) (a b c : V) s', Hs G (Ob k5 (.cells [.int .i64 (cpN ys).1, .int .i64 (cpF ys).1, w] 0) :: Ob k2 (.cells [.int .i64 0, .int .i64 0, .slice none 0 0 true] 0) :: r) s' → [a, b, c].all flatV = true → (∀ s'', Hs G (Ob k2 (.cells [a, b, c] 0) :: Ob k5 (.cells [.int .i64 (cpN ys).1, .int .i64 (cpF ys).1, w] 0) :: r) s'' → K2 undefV s'') → st 3 (.ptr (some ⟨.new k2, 0⟩)) (.agg [a, b, c]) s' K2 := fun K2 a b c s' hh hf hk => stAll_t (hh.pull 1) rfl rfl hf hk
    rcases hu with ⟨he, rfl, h9⟩ | ⟨he, hf, rfl, h9⟩ | ⟨he, hf, hok, rfl, h9⟩
    · have eE : confE ys = (cpL ys).2.e := by unfold confE; rw [if_pos he]
      rw [ext0, List.getElem?_cons_zero, optK_some, ext0, List.getElem?_cons_succ, List.getElem?_cons_zero, optK_some]
      show st 3 (.ptr (some ⟨.new k2, 0⟩)) cf0 s9 _
      unfold cf0
      refine stz _ _ _ _ _ h9 rfl fun s10 h10 => ?_
      show rfin (rcons (peek ti37 (.ptr (some ⟨.new k2, 0⟩)) s10) _) s10 K
      rw [peek_cf h10, ← eE]
      exact hK _ _ (.inr ⟨by rw [eE]; exact he, rfl, h10.tail.tail⟩)
    · have eE : confE ys = 4 := by unfold confE; rw [if_neg (by omega), if_pos hf]
      rw [ext0, List.getElem?_cons_zero, optK_some, ext0, List.getElem?_cons_succ, List.getElem?_cons_zero, optK_some]
      show st 3 (.ptr (some ⟨.new k2, 0⟩)) cf0 s9 _
      unfold cf0
      refine stz _ _ _ _ _ h9 rfl fun s10 h10 => ?_
      show rfin (rcons (peek ti37 (.ptr (some ⟨.new k2, 0⟩)) s10) _) s10 K
      rw [peek_cf h10, ← eE]
      exact hK _ _ (.inr ⟨by omega, rfl, h10.tail.tail⟩)
    · have eE : confE ys = 0 := by unfold confE; rw [if_neg (by omega), if_neg (by rw [hok]; simp; exact hf)]
      have hwf : flatV w = true := nats_flat h9
      rw [ext0, List.getElem?_cons_zero, optK_some, ext0, List.getElem?_cons_succ, List.getElem?_cons_zero, optK_some]
      show st 3 (.ptr (some ⟨.new k2, 0⟩)) (.agg [.int .i64 (confC ys).num, .int .i64 (confC ys).full, w]) s9 _
      refine stAll_t (h9.pull 2) rfl rfl (flat3 hwf) fun s10 h10 => ?_
      show rfin (rcons (peek ti37 (.ptr (some ⟨.new k2, 0⟩)) s10) _) s10 K
      rw [peek_cf h10]
      exact hK _ _ (.inl ⟨eE, okB_iff.1 hok, w, rfl, (h10.pull 1).drop 1 |>.drop 1⟩)
end Go.Proofs.Vt
end
section
/- The document's configs: which may be; what is read of bytes. -/
namespace Go.Proofs.Vt
open Go Go.Rx Go.Proofs
variable {G : Nat → Option (List V)}

theorem qwithin_t (n a b : Int) (s : AS) (K : K0) : fn175 (.int .i64 n) (.int .i64 a) (.int .i64 b) s K = K (.bool (decide (a ≤ n ∧ n ≤ b))) s := by
  unfold fn175 fn175_q
  rw [bin_geq, optK_some]
  by_cases h1 : a ≤ n
  · rw [decide_eq_true (by omega : n ≥ a), grd_true, bin_leq, optK_some]
    congr 2
    by_cases h2 : n ≤ b
    · rw [decide_eq_true h2, decide_eq_true (by omega)]
    · rw [decide_eq_false h2, decide_eq_false (by omega)]
  · rw [decide_eq_false (by omega : ¬ n ≥ a), grd_false, decide_eq_false (by omega)]
theorem qnumber_t (n : Int) (s : AS) (K : K0) : fn174 (.int .i64 n) s K = K (.bool (decide (0 ≤ n ∧ n ≤ 9007199254740991))) s := by
  unfold fn174 fn174_q
  rw [qwithin_t]
theorem qarg_t (b : Bool) (s : AS) (K : K0) : fn177 (.bool b) s K = K (.int .i64 (if b = true then 0 else 2)) s := by
  cases b <;> rfl
theorem qrep_t (n : Nat) (s : AS) (K : K0) : fn176 (iV n) s K = K (.bool (repB n)) s := by
  unfold fn176 fn176_q iV
  rw [qwithin_t]
  unfold repB
  congr 2
  by_cases h : 10 ≤ n ∧ n ≤ 13
  · rw [decide_eq_true h, decide_eq_true (by omega)]
  · rw [decide_eq_false h, decide_eq_false (by omega)]
/-- What is found up to one. -/
def upTo (l : List Nat) (i : Nat) : Bool := (l.take i).all repB && decide (l.take i).Nodup
theorem upTo_succ {l : List Nat} {i x : Nat} (h : l[i]? = some x) : upTo l (i + 1) = (upTo l i && repB x && decide (x ∉ l.take i)) := by
  unfold upTo
  rw [List.take_add_one, h]
  show ((l.take i ++ [x]).all repB && decide (l.take i ++ [x]).Nodup) = _
  have e : (l.take i ++ [x]).Nodup ↔ (l.take i).Nodup ∧ x ∉ l.take i := by
    rw [List.nodup_append]
    constructor
    · rintro ⟨h1, _, h3⟩; exact ⟨h1, fun hm => h3 x hm x (by simp) rfl⟩
    · rintro ⟨h1, h2⟩; exact ⟨h1, by simp, fun a ha b hb e => h2 (by rw [List.mem_singleton] at hb; rw [← hb, ← e]; exact ha)⟩
  rw [List.all_append]
  by_cases h1 : (l.take i).Nodup <;> by_cases h2 : x ∈ l.take i <;> cases (l.take i).all repB <;> cases hr : repB x <;> simp [e, h1, h2, hr]
theorem qConf2_t {K : KX} {k1 i x : Nat} {b : Bool} {c : Cf} {v : V} {r : List HP} {s : AS} {tm : Tm} (hcl : c.chain.length ≤ 12) (hx : c.chain[i]? = some x) (h : Hs G (Ob k1 (.cells [.int .i64 c.num, .int .i64 c.full, v] 0) :: NatsH v c.chain :: r) s)
    (t1 : tm.getD 1 .junk = .ptr (some ⟨.new k1, 0⟩)) (t3 : tm.getD 3 .junk = .bool b) (t4 : tm.getD 4 .junk = .int .i64 (i : Nat)) (t5 : tm.getD 5 .junk = .int .i64 0)
    (hK : ∀ tm', tm'.getD 1 .junk = .ptr (some ⟨.new k1, 0⟩) → tm'.getD 3 .junk = .bool (b && decide (x ∉ c.chain.take i)) → tm'.getD 4 .junk = .int .i64 (i : Nat) → K (.exit 2) tm' s) :
    loopN LOOPS (fun tm s K => fn149_L2 fn174 fn175 fn176 fn177 (tm.getD 1 .junk) (tm.getD 3 .junk) (tm.getD 4 .junk) (tm.getD 5 .junk) s K) tm s K := by
  have hil := (List.getElem?_eq_some_iff.1 hx).1
  refine loop_rule (fun m tm s1 => ∃ k : Nat, m + k = i ∧ s1 = s ∧ tm.getD 1 .junk = .ptr (some ⟨.new k1, 0⟩) ∧ tm.getD 3 .junk = .bool (b && decide (x ∉ c.chain.take k)) ∧ tm.getD 4 .junk = .int .i64 (i : Nat) ∧ tm.getD 5 .junk = .int .i64 (k : Nat)) ?_ (m := i) (by omega)
    ⟨0, by omega, rfl, t1, by rw [t3]; simp, t4, t5⟩
  rintro m tm s1 Kn ⟨k, hm, rfl, t1, t3, t4, t5⟩ hnext
  simp only [t1, t3, t4, t5]
  unfold fn149_L2
  have lo2 : ∀ K, ld1 (.ptr (some ⟨.new k1, 0 + 2⟩)) s1 K = K v s1 := fun K => (ld_t h K).trans rfl
  rw [bin_lss, optK_some]
  by_cases hk : k < i
  · have d : decide ((k : Int) < (i : Int)) = true := decide_eq_true (by omega)
    have w : IntKind.i64.wrap ((k : Int) + 1) = ((k + 1 : Nat) : Int) := by rw [wrap64 (by omega) (by omega)]; omega
    obtain ⟨y, hy⟩ : ∃ y, c.chain[k]? = some y := ⟨_, List.getElem?_eq_getElem (by omega)⟩
    have hx' : ((zs c.chain).map iV)[i]? = some (iV x) := by simp [hx]
    have hy' : ((zs c.chain).map iV)[k]? = some (iV y) := by simp [hy]
    obtain ⟨p, e1, l1⟩ := elem1_t (h.pull 1) hx' .i64
    obtain ⟨q, e2, l2⟩ := elem1_t (h.pull 1) hy' .i64
    have et : c.chain.take (k + 1) = c.chain.take k ++ [y] := by rw [List.take_add_one, hy]; rfl
    have exy : ((y : Int) != (x : Int)) = decide (¬ x = y) := by
      by_cases h3 : x = y
      · rw [h3]; simp
      · rw [decide_eq_true h3]; simp; omega
    have enx : (b && decide (x ∉ c.chain.take (k + 1))) = ((b && decide (x ∉ c.chain.take k)) && ((y : Int) != (x : Int))) := by
      rw [et, exy]
      by_cases h2 : x ∈ c.chain.take k <;> by_cases h3 : x = y <;> cases b <;> simp [h2, h3]
    rw [d, condV_true]
    cases hb : (b && decide (x ∉ c.chain.take k)) with
    | true =>
      rw [grd_true, fp_ptr, optK_some, lo2, e2, optK_some, l2, optK_some, lo2, e1, optK_some, l1]
      show optK (binV .neq _ _ (.int .i64 (y : Nat)) (.int .i64 (x : Nat))) _ _
      rw [bin_neq, optK_some, bin_add, optK_some, w, nx_nrm]
      refine hnext (m - 1) _ _ (by omega) ⟨k + 1, by omega, rfl, rfl, ?_, rfl, rfl⟩
      rw [enx, hb]; rfl
    | false =>
      rw [grd_false, bin_add, optK_some, w, nx_nrm]
      refine hnext (m - 1) _ _ (by omega) ⟨k + 1, by omega, rfl, rfl, ?_, rfl, rfl⟩
      rw [enx, hb]; rfl
  · have d : decide ((k : Int) < (i : Int)) = false := decide_eq_false (by omega)
    have : k = i := by omega
    subst this
    rw [d, condV_false, nx_exit]
    exact hK _ rfl rfl rfl
theorem qConf1_t {K : KX} {k1 : Nat} {b : Bool} {c : Cf} {v : V} {r : List HP} {s : AS} {tm : Tm} (hcl : c.chain.length ≤ 12) (h : Hs G (Ob k1 (.cells [.int .i64 c.num, .int .i64 c.full, v] 0) :: NatsH v c.chain :: r) s)
    (t1 : tm.getD 1 .junk = .ptr (some ⟨.new k1, 0⟩)) (t3 : tm.getD 3 .junk = .bool b) (t4 : tm.getD 4 .junk = .int .i64 0)
    (hK : ∀ tm', tm'.getD 3 .junk = .bool (b && (c.chain.all repB && decide c.chain.Nodup)) → K (.exit 0) tm' s) :
    loopN LOOPS (fun tm s K => fn149_L1 fn174 fn175 fn176 fn177 (tm.getD 1 .junk) (tm.getD 3 .junk) (tm.getD 4 .junk) s K) tm s K := by
  refine loop_rule (fun m tm s1 => ∃ i : Nat, m + i = c.chain.length ∧ s1 = s ∧ tm.getD 1 .junk = .ptr (some ⟨.new k1, 0⟩) ∧ tm.getD 3 .junk = .bool (b && upTo c.chain i) ∧ tm.getD 4 .junk = .int .i64 (i : Nat)) ?_ (m := c.chain.length) (by omega)
    ⟨0, by omega, rfl, t1, by rw [t3]; simp [upTo], t4⟩
  rintro m tm s1 Kn ⟨i, hm, rfl, t1, t3, t4⟩ hnext
  simp only [t1, t3, t4]
  unfold fn149_L1
  have lo2 : ∀ K, ld1 (.ptr (some ⟨.new k1, 0 + 2⟩)) s1 K = K v s1 := fun K => (ld_t h K).trans rfl
  obtain ⟨va, vc, vex, hv⟩ := slH_slice (h.pull 1)
  have hlv : lenV (some (Kd.slice 3)) v = some (.int .i64 c.chain.length) := by rw [hv]; show some (V.int .i64 ((zs c.chain).length : Nat)) = _; simp
  rw [fp_ptr, optK_some, lo2, hlv, optK_some, bin_lss, optK_some]
  by_cases hi : i < c.chain.length
  · have d : decide ((i : Int) < (c.chain.length : Int)) = true := decide_eq_true (by omega)
    have w : IntKind.i64.wrap ((i : Int) + 1) = ((i + 1 : Nat) : Int) := by rw [wrap64 (by omega) (by omega)]; omega
    obtain ⟨x, hx⟩ : ∃ x, c.chain[i]? = some x := ⟨_, List.getElem?_eq_getElem hi⟩
    have hx' : ((zs c.chain).map iV)[i]? = some (iV x) := by simp [hx]
    obtain ⟨p, e1, l1⟩ := elem1_t (h.pull 1) hx' .i64
    rw [d, condV_true]
    cases hb : (b && upTo c.chain i) with
    | true =>
      rw [grd_true, optK_some, lo2, e1, optK_some, l1, qrep_t]
      refine qConf2_t hcl hx h rfl rfl rfl rfl fun tm' q1 q3 q4 => ?_
      rw [exX_exit]
      show exB true _ _
      rw [exB_true, q4, bin_add, optK_some, w, nx_nrm]
      refine hnext (m - 1) _ _ (by omega) ⟨i + 1, by omega, rfl, q1, ?_, rfl⟩
      show tm'.getD 3 .junk = _
      rw [q3, upTo_succ hx, ← Bool.and_assoc, ← Bool.and_assoc, hb]; rfl
    | false =>
      rw [grd_false]
      refine qConf2_t hcl hx h rfl rfl rfl rfl fun tm' q1 q3 q4 => ?_
      rw [exX_exit]
      show exB true _ _
      rw [exB_true, q4, bin_add, optK_some, w, nx_nrm]
      refine hnext (m - 1) _ _ (by omega) ⟨i + 1, by omega, rfl, q1, ?_, rfl⟩
      show tm'.getD 3 .junk = _
      rw [q3, upTo_succ hx, ← Bool.and_assoc, ← Bool.and_assoc, hb]; rfl
  · have d : decide ((i : Int) < (c.chain.length : Int)) = false := decide_eq_false (by omega)
    rw [d, condV_false, nx_exit]
    refine hK _ ?_
    show V.bool (b && upTo c.chain i) = _
    unfold upTo
    rw [List.take_of_length_le (by omega)]
theorem qCheckConf_t {c : Cf} (hcl : c.chain.length ≤ 12) {v : V} {r : List HP} {s : AS} (h : Hs G (NatsH v c.chain :: r) s) :
    Ens (fn149 (cfV c v)) s fun u s' => u = .int .i64 (if c.okB = true then 0 else 2) ∧ Hs G (NatsH v c.chain :: r) s' := by
  intro K hK
  unfold fn149 fn149_q cfV
  have hvf : flatV v = true := nats_flat h
  refine boxA_t h fun k1 s1 h1 => ?_
  have lo0 : ∀ K, ld1 (.ptr (some ⟨.new k1, 0 + 0⟩)) s1 K = K (.int .i64 c.num) s1 := fun K => (ld_t h1 K).trans rfl
  have lo1 : ∀ K, ld1 (.ptr (some ⟨.new k1, 0 + 1⟩)) s1 K = K (.int .i64 c.full) s1 := fun K => (ld_t h1 K).trans rfl
  have lo2 : ∀ K, ld1 (.ptr (some ⟨.new k1, 0 + 2⟩)) s1 K = K v s1 := fun K => (ld_t h1 K).trans rfl
  obtain ⟨va, vc, vex, hv⟩ := slH_slice (h1.pull 1)
  have hlv : lenV (some (Kd.slice 3)) v = some (.int .i64 c.chain.length) := by rw [hv]; show some (V.int .i64 ((zs c.chain).length : Nat)) = _; simp
  have fin : ∀ (b : Bool), (b && (c.chain.all repB && decide c.chain.Nodup)) = c.okB →
      (loopN LOOPS (fun tm s K => fn149_L1 fn174 fn175 fn176 fn177 (tm.getD 1 .junk) (tm.getD 3 .junk) (tm.getD 4 .junk) s K) (V.junk :: ((V.ptr (some ⟨.new k1, 0⟩)) :: (V.junk :: ((V.bool b) :: ((V.int .i64 0) :: (jk 55 [])))))) s1 (fun e tm s => exX e (fun j1 => (exB (j1 == 0)
 ((fn177 (tm.getD 3 .junk)) s fun t59 s =>
 (K t59 s))
 False)) (K V.junk s))) := by
    intro b hb
    refine qConf1_t hcl h1 rfl rfl rfl fun tm' q3 => ?_
    rw [exX_exit]
    show exB true _ _
    rw [exB_true, q3, qarg_t, hb]
    exact hK _ _ ⟨rfl, h1.tail⟩
  rw [fp_ptr, optK_some, lo0, qnumber_t]
  by_cases hnum : c.num ≤ 9007199254740991
  · rw [decide_eq_true (by omega : (0 : Int) ≤ (c.num : Int) ∧ (c.num : Int) ≤ 9007199254740991), grd_true, fp_ptr, optK_some, lo2, hlv, optK_some, qwithin_t]
    by_cases hle : 1 ≤ c.chain.length ∧ c.chain.length ≤ 4
    · rw [decide_eq_true (by omega : (1 : Int) ≤ (c.chain.length : Int) ∧ (c.chain.length : Int) ≤ 4), grd_true, fp_ptr, optK_some, lo1, optK_some, lo2, hlv, optK_some, qwithin_t]
      refine fin _ ?_
      unfold Cf.okB
      rw [decide_eq_true hnum, decide_eq_true hle]
      by_cases hf : 1 ≤ c.full ∧ c.full ≤ c.chain.length
      · rw [decide_eq_true hf, decide_eq_true (by omega)]; simp
      · rw [decide_eq_false hf, decide_eq_false (by omega)]; simp
    · rw [decide_eq_false (by omega : ¬ ((1 : Int) ≤ (c.chain.length : Int) ∧ (c.chain.length : Int) ≤ 4)), grd_false]
      refine fin _ ?_
      unfold Cf.okB
      rw [decide_eq_false hle]; simp
  · rw [decide_eq_false (by omega : ¬ ((0 : Int) ≤ (c.num : Int) ∧ (c.num : Int) ≤ 9007199254740991)), grd_false]
    refine fin _ ?_
    unfold Cf.okB
    rw [decide_eq_false hnum]; simp

theorem qPcEnd_t {c : Cf} (hcl : c.chain.length ≤ 12) {kr k5 k2 : Nat} {R : RS} {w : V} {r : List HP} {s : AS} {K : K0}
    (h8 : Hs G (RrH kr R :: Ob k5 (.cells [.int .i64 c.num, .int .i64 c.full, w] 0) :: NatsH w c.chain :: Ob k2 (.cells [.int .i64 0, .int .i64 0, .slice none 0 0 true] 0) :: r) s)
    (hK : ∀ u s', ((R.e ≠ 0 ∧ u = .tuple [cf0, .int .i64 R.e] ∧ Hs G r s') ∨ (R.e = 0 ∧ (R.fin ≠ 0 ∨ c.okB = false) ∧ u = .tuple [cf0, .int .i64 (4 : Nat)] ∧ Hs G r s') ∨ (R.e = 0 ∧ R.fin = 0 ∧ c.okB = true ∧ u = .tuple [cfV c w, .int .i64 (0 : Nat)] ∧ Hs G (NatsH w c.chain :: r) s')) → K u s') :
 ((fn148 (.ptr (some ⟨.new kr, 0⟩))) s fun t34 s =>
 (optK (binV .neq (some (Kd.int .i64)) true t34 (V.int .i64 0)) s fun t35 s => (condV t35
 (optK (aggO (fillV (placeS [(0, 3), (1, 3), (2, 35)] ty) [(V.int .i64 0), (V.int .i64 0), (V.slice none 0 0 true)] [])) s fun t36 s => ((fn148 (.ptr (some ⟨.new kr, 0⟩))) s fun t38 s =>
 ((st 3 (.ptr (some ⟨.new k2, 0⟩)) t36) s fun _ s =>
 (rfin (rcons (peek ti37 (.ptr (some ⟨.new k2, 0⟩)) s) (rcons (some t38) (some []))) s K))))
 ((fn136 (.ptr (some ⟨.new kr, 0⟩))) s fun t40 s =>
 (optK (binV .neq (some (Kd.int .i64)) true t40 (V.int .i64 0)) s fun t41 s => (grd t41
 (optK (aggO (fillV (placeS [(0, 3), (1, 3), (2, 35)] ty) [(V.int .i64 0), (V.int .i64 0), (V.slice none 0 0 true)] [])) s fun t47 s => ((st 3 (.ptr (some ⟨.new k2, 0⟩)) t47) s fun _ s =>
 (rfin (rcons (peek ti37 (.ptr (some ⟨.new k2, 0⟩)) s) (rcons (some (V.int .i64 4)) (some []))) s K)))
 ((ldA 3 (.ptr (some ⟨.new k5, 0⟩))) s fun t43 s =>
 ((fn149 t43) s fun t44 s =>
 (optK (binV .neq (some (Kd.int .i64)) true t44 (V.int .i64 0)) s fun t45 s => (condV t45
 (optK (aggO (fillV (placeS [(0, 3), (1, 3), (2, 35)] ty) [(V.int .i64 0), (V.int .i64 0), (V.slice none 0 0 true)] [])) s fun t47 s => ((st 3 (.ptr (some ⟨.new k2, 0⟩)) t47) s fun _ s =>
 (rfin (rcons (peek ti37 (.ptr (some ⟨.new k2, 0⟩)) s) (rcons (some (V.int .i64 4)) (some []))) s K)))
 ((ldA 3 (.ptr (some ⟨.new k5, 0⟩))) s fun t48 s =>
 ((st 3 (.ptr (some ⟨.new k2, 0⟩)) t48) s fun _ s =>
 (rfin (rcons (peek ti37 (.ptr (some ⟨.new k2, 0⟩)) s) (rcons (some (V.int .i64 0)) (some []))) s K)))))))
 False)))))) := by
  have hag0 : aggO (fillV (placeS [(0, 3), (1, 3), (2, 35)] ty) [V.int .i64 0, .int .i64 0, .slice none 0 0 true] []) = some (.agg [.int .i64 0, .int .i64 0, .slice none 0 0 true]) := by
    simp [fillV, placeS, cellsV, spl, aggO]
  have hwf : flatV w = true := nats_flat (h8.pull 2)
  have bad : ∀ (e : Nat) s9 r', Hs G (Ob k2 (.cells [.int .i64 0, .int .i64 0, .slice none 0 0 true] 0) :: r') s9 → (∀ s', Hs G (Ob k2 (.cells [.int .i64 0, .int .i64 0, .slice none 0 0 true] 0) :: r') s' → K (.tuple [cf0, .int .i64 (e : Nat)]) s') →
      st 3 (.ptr (some ⟨.new k2, 0⟩)) (.agg [.int .i64 0, .int .i64 0, .slice none 0 0 true]) s9 (fun _ s => rfin (rcons (peek ti37 (.ptr (some ⟨.new k2, 0⟩)) s) (rcons (some (.int .i64 (e : Nat))) (some []))) s K) := by
    intro e s9 r' h9 hk
    refine stAll_t h9 rfl rfl rfl fun s10 h10 => ?_
    rw [peek_cf h10]
    exact hk _ h10
  rw [qErr_t h8, bin_neq, optK_some]
  by_cases he : R.e = 0
  · have d0 : ((R.e : Int) != 0) = false := by rw [he]; rfl
    rw [d0, condV_false, qEnd_t h8, bin_neq, optK_some]
    by_cases hf : R.fin = 0
    · have d1 : ((R.fin : Int) != 0) = false := by rw [hf]; rfl
      rw [d1, grd_false, ldAll_t (n := 3) (h8.pull 1) rfl]
      refine qCheckConf_t (c := c) (v := w) hcl (h8.pull 2) _ ?_
      rintro _ s9 ⟨rfl, h9⟩
      rw [bin_neq, optK_some]
      cases hok : c.okB with
      | true =>
        show condV (.bool false) _ _
        rw [condV_false, ldAll_t (n := 3) (h9.pull 2) rfl]
        refine stAll_t (h9.pull 3) rfl rfl (flat3 hwf) fun s10 h10 => ?_
        rw [peek_cf h10]
        exact hK _ _ (.inr (.inr ⟨he, hf, hok, rfl, ((h10.pull 1).drop 1).drop 1 |>.drop 1⟩))
      | false =>
        show condV (.bool true) _ _
        rw [condV_true, hag0, optK_some]
        exact bad 4 s9 _ (h9.pull 3) (fun s h => hK _ _ (.inr (.inl ⟨he, .inr hok, rfl, h.tail.tail.tail.tail⟩)))
    · have d1 : ((R.fin : Int) != 0) = true := by simp [hf]
      rw [d1, grd_true, hag0, optK_some]
      exact bad 4 s _ (h8.pull 3) (fun s h => hK _ _ (.inr (.inl ⟨he, .inl hf, rfl, h.tail.tail.tail.tail⟩)))
  · have d0 : ((R.e : Int) != 0) = true := by simp [he]
    rw [d0, condV_true, hag0, optK_some, qErr_t h8]
    exact bad R.e s _ (h8.pull 3) (fun s h => hK _ _ (.inl ⟨he, rfl, h.tail.tail.tail.tail⟩))

set_option maxHeartbeats 1000000 in
theorem qParseConf_t {ys : List UInt8} (hyl : ys.length ≤ 1099511627776) {v : V} {r : List HP} {s : AS} (hr : Reads G r v ys) (h : Hs G r s) :
    Ens (fn135 v) s fun u s' => (confE ys = 0 ∧ (confC ys).ok ∧ ∃ w, u = .tuple [cfV (confC ys) w, .int .i64 (0 : Nat)] ∧ Hs G (NatsH w (confC ys).chain :: r) s') ∨ (confE ys ≠ 0 ∧ u = .tuple [cf0, .int .i64 (confE ys)] ∧ Hs G r s') := by
  intro K hK
  obtain ⟨hl1, hl2, hl3, hl4, hl5⟩ := confP_len ys
  unfold fn135 fn135_q
  refine newC_t h fun k2 s1 h1 => ?_
  refine qRead_t hr.cons h1 hyl _ ?_
  rintro _ s2 ⟨kr, rfl, h2⟩
  refine qCount_t (most := 9007199254740991) hyl h2 _ ?_
  rintro _ s3 ⟨rfl, h3⟩
  rw [cpN_e] at h3 ⊢
  refine qNum_t (w := 1) (by omega) (by omega) h3 _ ?_
  rintro _ s4 ⟨rfl, h4⟩
  rw [cpF_e] at h4 ⊢
  have hag : aggO (fillV (placeS [(0, 3), (1, 3), (2, 35)] ty) [V.int .i64 0, .int .i64 0, .slice none 0 0 true] [(0, .int .i64 (cpN ys).1), (1, .int .i64 (cpF ys).1)]) = some (.agg [.int .i64 (cpN ys).1, .int .i64 (cpF ys).1, .slice none 0 0 true]) := by
    simp [fillV, placeS, cellsV, spl, aggO]
  rw [hag, optK_some]
  refine newC_t h4 fun k5 s5 h5 => ?_
  refine stAll_t h5 rfl rfl rfl fun s6 h6 => ?_
  refine qNum_t (w := 1) (by omega) (by omega) (h6.pull 1) _ ?_
  rintro _ s7 ⟨rfl, h7⟩
  rw [cpK_e] at h7 ⊢
  obtain ⟨N, hN⟩ : ∃ N, N = min (cpK ys).1 5 := ⟨_, rfl⟩
  have el : (cpK ys).2.nums N = (cpL ys) := by rw [hN, cpL_e]
  refine loop_rule (fun m tm s1 => ∃ (i : Nat) (w : V), m + i = N ∧ Hs G (RrH kr ((cpK ys).2.nums i).2 :: Ob k5 (.cells [.int .i64 (cpN ys).1, .int .i64 (cpF ys).1, w] 0) :: NatsH w ((cpK ys).2.nums i).1 :: Ob k2 (.cells [.int .i64 0, .int .i64 0, .slice none 0 0 true] 0) :: r) s1 ∧
    tm.getD 2 .junk = .ptr (some ⟨.new k2, 0⟩) ∧ tm.getD 4 .junk = .ptr (some ⟨.new kr, 0⟩) ∧ tm.getD 5 .junk = .ptr (some ⟨.new k5, 0⟩) ∧ tm.getD 6 .junk = .int .i64 ((cpK ys).1 : Nat) ∧ tm.getD 7 .junk = .int .i64 (i : Nat)) ?_ (m := N) (by omega)
    ⟨0, .slice none 0 0 true, by omega, (h7.slNil 1 true).ord [1, 2, 0], rfl, rfl, rfl, rfl, rfl⟩
  rintro m tm s8 Kn ⟨i, w, hm, h8, t2, t4, t5, t6, t7⟩ hnext
  simp only [t2, t4, t5, t6, t7]
  unfold fn135_L1
  obtain ⟨hnl1, hnl2⟩ := nums_len (cpK ys).2 i
  obtain ⟨R1, hR1⟩ : ∃ R1, R1 = ((cpK ys).2.nums i).2 := ⟨_, rfl⟩
  obtain ⟨l1, hl1'⟩ : ∃ l1, l1 = ((cpK ys).2.nums i).1 := ⟨_, rfl⟩
  rw [← hR1] at hnl1 h8
  rw [← hl1'] at hnl2 h8
  have ek := h8.pull 1
  -- when the loop ends
  have fin : i = N → nx Kn (fun e tm s => exX e (fun j1 => (exB (j1 == 0)
 ((fn148 (tm.getD 4 .junk)) s fun t34 s =>
 (optK (binV .neq (some (Kd.int .i64)) true t34 (V.int .i64 0)) s fun t35 s => (condV t35
 (optK (aggO (fillV (placeS [(0, 3), (1, 3), (2, 35)] ty) [(V.int .i64 0), (V.int .i64 0), (V.slice none 0 0 true)] [])) s fun t36 s => ((fn148 (tm.getD 4 .junk)) s fun t38 s =>
 ((st 3 (tm.getD 2 .junk) t36) s fun _ s =>
 (rfin (rcons (peek ti37 (tm.getD 2 .junk) s) (rcons (some t38) (some []))) s K))))
 ((fn136 (tm.getD 4 .junk)) s fun t40 s =>
 (optK (binV .neq (some (Kd.int .i64)) true t40 (V.int .i64 0)) s fun t41 s => (grd t41
 (optK (aggO (fillV (placeS [(0, 3), (1, 3), (2, 35)] ty) [(V.int .i64 0), (V.int .i64 0), (V.slice none 0 0 true)] [])) s fun t47 s => ((st 3 (tm.getD 2 .junk) t47) s fun _ s =>
 (rfin (rcons (peek ti37 (tm.getD 2 .junk) s) (rcons (some (V.int .i64 4)) (some []))) s K)))
 ((ldA 3 (tm.getD 5 .junk)) s fun t43 s =>
 ((fn149 t43) s fun t44 s =>
 (optK (binV .neq (some (Kd.int .i64)) true t44 (V.int .i64 0)) s fun t45 s => (condV t45
 (optK (aggO (fillV (placeS [(0, 3), (1, 3), (2, 35)] ty) [(V.int .i64 0), (V.int .i64 0), (V.slice none 0 0 true)] [])) s fun t47 s => ((st 3 (tm.getD 2 .junk) t47) s fun _ s =>
 (rfin (rcons (peek ti37 (tm.getD 2 .junk) s) (rcons (some (V.int .i64 4)) (some []))) s K)))
 ((ldA 3 (tm.getD 5 .junk)) s fun t48 s =>
 ((st 3 (tm.getD 2 .junk) t48) s fun _ s =>
 (rfin (rcons (peek ti37 (tm.getD 2 .junk) s) (rcons (some (V.int .i64 0)) (some []))) s K)))))))
 False))))))
 False)) (rfin (rcons (peek ti37 (tm.getD 2 .junk) s) (rcons (some V.junk) (some []))) s K)) (.exit 0) (V.junk :: (V.junk :: ((V.ptr (some ⟨.new k2, 0⟩)) :: (V.junk :: ((V.ptr (some ⟨.new kr, 0⟩)) :: ((V.ptr (some ⟨.new k5, 0⟩)) :: (jk 43 []))))))) s8 := by
    intro hi
    rw [hi, el] at hR1 hl1'
    rw [hR1] at h8
    have ecl : l1 = (confC ys).chain := by rw [confC_c]; exact hl1'
    rw [ecl] at h8
    have hnc : (cpN ys).1 = (confC ys).num := (confC_n ys).symm
    have hfc : (cpF ys).1 = (confC ys).full := (confC_f ys).symm
    rw [hnc, hfc] at h8
    have hE : confE ys = if (cpL ys).2.e ≠ 0 then (cpL ys).2.e else if (cpL ys).2.fin ≠ 0 ∨ (confC ys).okB = false then 4 else 0 := rfl
    obtain ⟨R2, hR2⟩ : ∃ R2, R2 = (cpL ys).2 := ⟨_, rfl⟩
    obtain ⟨c2, hc2⟩ : ∃ c2, c2 = confC ys := ⟨_, rfl⟩
    obtain ⟨e2, he2⟩ : ∃ e2, e2 = confE ys := ⟨_, rfl⟩
    rw [← hR2] at h8 hE
    rw [← hc2] at h8 hE hK hl5
    rw [← he2] at hE hK
    rw [nx_exit, exX_exit]
    show exB true _ _
    rw [exB_true]
    refine qPcEnd_t (c := c2) (by omega) h8 ?_
    rintro u s9 (⟨he, rfl, h9⟩ | ⟨he, hf, rfl, h9⟩ | ⟨he, hf, hok, rfl, h9⟩)
    · rw [if_pos he] at hE
      exact hK _ _ (.inr ⟨by omega, by rw [hE], h9⟩)
    · rw [if_neg (by omega), if_pos hf] at hE
      exact hK _ _ (.inr ⟨by omega, by rw [hE], h9⟩)
    · rw [if_neg (by omega), if_neg (by rw [hok]; simp; exact hf)] at hE
      exact hK _ _ (.inl ⟨hE, okB_iff.1 hok, w, rfl, h9⟩)
  rw [bin_lss, optK_some]
  by_cases hk : i < (cpK ys).1
  · have dk : decide ((i : Int) < ((cpK ys).1 : Int)) = true := decide_eq_true (by omega)
    rw [dk, grd_true, bin_lss, optK_some]
    by_cases h5' : i < 5
    · have d : decide ((i : Int) < (5 : Int)) = true := decide_eq_true (by omega)
      have hi : i < N := by omega
      have w1 : IntKind.i64.wrap ((i : Int) + 1) = ((i + 1 : Nat) : Int) := by rw [wrap64 (by omega) (by omega)]; omega
      obtain ⟨wa, wc, wex, hw⟩ := slH_slice (h8.pull 2)
      have hsv : sameV w w = true := by rw [hw]; exact sameV_slice _ _ _ _
      rw [d, condV_true, fp_ptr, optK_some, Nat.zero_add, ld_t ek, List.getElem?_cons_succ, List.getElem?_cons_succ, List.getElem?_cons_zero, optK_some]
      refine qNum_t (w := 1) (by omega) (by omega) h8 _ ?_
      rintro _ s9 ⟨rfl, h9⟩
      have hh := holds_t (ti := ti35) rfl (h9.pull 1) (o := 2) (v := w) rfl hsv
      rw [hh, chkB_true]
      refine bsl1_t rfl rfl h9 fun x s10 hx hxl h10 => ?_
      have hh2 := holds_t (ti := ti35) rfl (h10.pull 2) (o := 2) (v := w) rfl hsv
      rw [hh2, chkB_true]
      refine push_t (h10.ord [3, 0]) hx hxl rfl (by simp; omega) (by omega) fun v11 s11 h11 => ?_
      rw [optK_some]
      rw [← nats_snoc] at h11
      have hvf : flatV v11 = true := nats_flat h11
      refine st_t (h11.pull 2) (by simp) hvf fun s12 h12 => ?_
      have es : ([V.int .i64 (cpN ys).1, .int .i64 (cpF ys).1, w].set 2 v11) = [V.int .i64 (cpN ys).1, .int .i64 (cpF ys).1, v11] := rfl
      rw [es] at h12
      rw [bin_add, optK_some, w1, nx_nrm]
      refine hnext (N - (i + 1)) _ _ (by omega) ⟨i + 1, v11, by omega, ?_, rfl, rfl, rfl, rfl, rfl⟩
      have e1 : ((cpK ys).2.nums (i + 1)).2 = (R1.num 1).2 := by rw [hR1, RS.nums]
      have e2 : ((cpK ys).2.nums (i + 1)).1 = l1 ++ [(R1.num 1).1] := by rw [hR1, hl1', RS.nums]
      rw [e1, e2]
      exact h12.ord [2, 0, 1]
    · have d : decide ((i : Int) < (5 : Int)) = false := decide_eq_false (by omega)
      rw [d, condV_false]
      exact fin (by omega)
  · have dk : decide ((i : Int) < ((cpK ys).1 : Int)) = false := decide_eq_false (by omega)
    rw [dk, grd_false]
    exact fin (by omega)
end Go.Proofs.Vt
end
section
/- Rows of any kind are read; a voter is opened of them. By the program. -/
namespace Go.Proofs.Vt
open Go Go.Rx Go.Proofs
variable {G : Nat → Option (List V)}

theorem countL_le (most : Nat) : ∀ (k n : Nat) (R : RS), (R.countL most k n).1 ≤ most
  | 0, _, _ => Nat.zero_le _
  | k + 1, n, R => by
    unfold RS.countL
    split
    · exact Nat.zero_le _
    · split
      · exact Nat.zero_le _
      · split
        · exact countL_le most k _ _
        · split
          · exact Nat.zero_le _
          · split
            · exact Nat.zero_le _
            · rename_i h; exact Nat.le_of_not_lt h
theorem count_le (R : RS) (most : Nat) : (R.count most).1 ≤ most := countL_le most 8 0 R
def rdK (row : List UInt8) : Nat × RS := RS.num ⟨row, 0⟩ 1
def rdN (row : List UInt8) : Nat × RS := (rdK row).2.count 9007199254740991
def rdT (row : List UInt8) : List UInt8 × RS := (rdN row).2.text 2048
theorem rdK_e (row : List UInt8) : RS.num ⟨row, 0⟩ 1 = rdK row := by unfold rdK; rfl
theorem rdN_e (row : List UInt8) : (rdK row).2.count 9007199254740991 = rdN row := by unfold rdN; rfl
theorem rdT_e (row : List UInt8) : (rdN row).2.text 2048 = rdT row := by unfold rdT; rfl
theorem rd_len (row : List UInt8) : (rdK row).2.bs.length ≤ row.length ∧ (rdN row).2.bs.length ≤ row.length ∧ (rdT row).1.length ≤ 9007199254740991 := by
  have h1 := num_len ⟨row, 0⟩ 1
  rw [rdK_e] at h1
  have h2 := count_len (rdK row).2 9007199254740991
  rw [rdN_e] at h2
  have h1' : (rdK row).2.bs.length ≤ row.length := h1
  refine ⟨h1', by omega, ?_⟩
  rw [← rdT_e]
  unfold RS.text
  split
  · have h3 := (raw_len ((rdN row).2.count 2048).2 (((rdN row).2.count 2048).1 : Nat)).2
    have h4 : ((rdN row).2.count 2048).1 ≤ 2048 := count_le _ _
    rw [Int.toNat_natCast] at h3
    omega
  · simp
/-- What a row tells, if it tells anything. -/
def rowD (row : List UInt8) : Option Deed :=
  if (rdK row).1 = 2 then (if confE (rdT row).1 ≠ 0 ∨ (rdT row).2.fin ≠ 0 ∨ (rdN row).1 < 1 then none else some (.V ⟨(rdN row).1, confC (rdT row).1⟩))
  else if (rdN row).2.fin ≠ 0 ∨ (rdN row).1 < 1 then none
  else if (rdK row).1 = 1 then some (.P (rdN row).1) else if (rdK row).1 = 3 then some (.F (rdN row).1) else none
theorem confE_ok {ys : List UInt8} (h : confE ys = 0) : (confC ys).ok := by
  unfold confE at h
  split at h
  · rename_i he; exact absurd h he
  · split at h
    · cases h
    · rename_i hno
      have : ¬ (confC ys).okB = false := fun e => hno (.inr e)
      exact okB_iff.1 (by simpa using this)
theorem rowD_ok {row : List UInt8} {D : Deed} (h : rowD row = some D) : D.ok := by
  have hn : (rdN row).1 ≤ 9007199254740991 := by rw [← rdN_e]; exact count_le _ _
  unfold rowD at h
  split at h
  · split at h
    · cases h
    · rename_i hno
      cases h
      refine ⟨⟨?_, hn⟩, confE_ok ?_⟩
      · have := fun e => hno (.inr (.inr e)); show 1 ≤ (rdN row).1; omega
      · have := fun e => hno (.inl e); show confE _ = 0; omega
  · split at h
    · cases h
    · rename_i hno
      have h1 : 1 ≤ (rdN row).1 := by have := fun e => hno (.inr e); omega
      split at h
      · cases h; exact ⟨h1, hn⟩
      · split at h
        · cases h; exact ⟨h1, hn⟩
        · cases h

/-- What a row tells, in memory. -/
def DeedV (D : Deed) (w u : V) : Prop := match D with | .P n => u = .iface 93 (.int .i64 n) | .F n => u = .iface 96 (.int .i64 n) | .V x => u = .iface 92 (voV x w)
def DeedH (D : Deed) (w : V) : HP := match D with | .V x => NatsH w x.c.chain | _ => HP.pure True

theorem readG_t {row : List UInt8} (hrl : row.length ≤ 1099511627776) {v : V} {r : List HP} {s : AS} (hr : Reads G r v row) (h : Hs G r s) :
    Ens (fn37 v) s fun u s' => (rowD row = none ∧ u = .nilIface ∧ Hs G r s') ∨ (∃ D w, rowD row = some D ∧ DeedV D w u ∧ Hs G (DeedH D w :: r) s') := by
  intro K hK
  obtain ⟨hl1, hl2, hl3⟩ := rd_len row
  unfold fn37 fn37_q
  refine rRead_t hr h hrl _ ?_
  rintro _ s1 ⟨kr, rfl, h1⟩
  refine rNum_t (w := 1) (by omega) hrl h1 _ ?_
  rintro _ s2 ⟨rfl, h2⟩
  rw [rdK_e] at h2 ⊢
  refine rCount_t (by omega) (most := 9007199254740991) (by omega) h2 _ ?_
  rintro _ s3 ⟨rfl, h3⟩
  rw [rdN_e] at h3 ⊢
  have eqN : ∀ (k q : Nat), ((k : Int) == (q : Int)) = decide (k = q) := fun k q => by
    by_cases h : k = q
    · rw [h]; simp
    · rw [decide_eq_false h]; simp; omega
  -- the ends that rows without votes come to
  have fin : ∀ (R : RS) (n : Nat) (x : V) (c : Option V) (good : Prop) (s' : AS) (r' : List HP), (c = some x) → Hs G (RrH kr R :: r') s' →
      ((R.fin ≠ 0 ∨ n < 1) → K .nilIface s') → (R.fin = 0 → 1 ≤ n → K x s') →
      (fn76 (.ptr (some ⟨.new kr, 0⟩)) s' fun t39 s => optK (binV .neq (some (Kd.int .i64)) true t39 (.int .i64 0)) s fun t40 s => grd t40 (K V.nilIface s) (optK (binV .lss (some (Kd.int .i64)) true (.int .i64 (n : Nat)) (.int .i64 1)) s fun t43 s => condV t43 (K V.nilIface s) (K x s)) False) := by
    intro R n x c good s' r' _ h' hbad hgood
    rw [rEnd_t h', bin_neq, optK_some]
    by_cases hf : R.fin = 0
    · have d : ((R.fin : Int) != 0) = false := by rw [hf]; rfl
      rw [d, grd_false, bin_lss, optK_some]
      by_cases hn : n < 1
      · rw [decide_eq_true (by omega : (n : Int) < 1), condV_true]; exact hbad (.inr hn)
      · rw [decide_eq_false (by omega : ¬ (n : Int) < 1), condV_false]; exact hgood hf (by omega)
    · have d : ((R.fin : Int) != 0) = true := by simp [hf]
      rw [d, grd_true]; exact hbad (.inl hf)
  have e1 : (((rdK row).1 : Int) == 1) = decide ((rdK row).1 = 1) := eqN _ 1
  have e2 : (((rdK row).1 : Int) == 2) = decide ((rdK row).1 = 2) := eqN _ 2
  have e3 : (((rdK row).1 : Int) == 3) = decide ((rdK row).1 = 3) := eqN _ 3
  rw [bin_eql, optK_some, e1]
  by_cases k1 : (rdK row).1 = 1
  · rw [decide_eq_true k1, condV_true]
    have hD : rowD row = if (rdN row).2.fin ≠ 0 ∨ (rdN row).1 < 1 then none else some (.P (rdN row).1) := by
      unfold rowD; rw [if_neg (by omega), if_pos k1]
    refine fin (rdN row).2 _ _ (some _) True s3 r rfl h3 (fun hb => hK _ _ (.inl ⟨by rw [hD, if_pos hb], rfl, h3.tail⟩)) (fun hf hn => hK _ _ (.inr ⟨.P (rdN row).1, .junk, by rw [hD, if_neg (by omega)], rfl, Hs.pure_iff.2 ⟨trivial, h3.tail⟩⟩))
  · rw [decide_eq_false k1, condV_false, bin_eql, optK_some, e3]
    by_cases k3 : (rdK row).1 = 3
    · rw [decide_eq_true k3, condV_true]
      have hD : rowD row = if (rdN row).2.fin ≠ 0 ∨ (rdN row).1 < 1 then none else some (.F (rdN row).1) := by
        unfold rowD; rw [if_neg (by omega), if_neg k1, if_pos k3]
      refine fin (rdN row).2 _ _ (some _) True s3 r rfl h3 (fun hb => hK _ _ (.inl ⟨by rw [hD, if_pos hb], rfl, h3.tail⟩)) (fun hf hn => hK _ _ (.inr ⟨.F (rdN row).1, .junk, by rw [hD, if_neg (by omega)], rfl, Hs.pure_iff.2 ⟨trivial, h3.tail⟩⟩))
    · rw [decide_eq_false k3, condV_false, bin_eql, optK_some, e2]
      by_cases k2 : (rdK row).1 = 2
      · rw [decide_eq_true k2, condV_true]
        have hD : rowD row = if confE (rdT row).1 ≠ 0 ∨ (rdT row).2.fin ≠ 0 ∨ (rdN row).1 < 1 then none else some (.V ⟨(rdN row).1, confC (rdT row).1⟩) := by
          unfold rowD; rw [if_pos k2]
        refine rText_t (by omega) (most := 2048) (by omega) h3 _ ?_
        intro u4 s4 h4
        rw [rdT_e] at h4
        have htl : (rdT row).1.length ≤ 1099511627776 := by
          rw [← rdT_e]
          unfold RS.text
          split
          · have h3 := (raw_len ((rdN row).2.count 2048).2 (((rdN row).2.count 2048).1 : Nat)).2
            have h4 : ((rdN row).2.count 2048).1 ≤ 2048 := count_le _ _
            rw [Int.toNat_natCast] at h3
            omega
          · simp
        refine ParseConfG_t htl reads_bytes h4 _ ?_
        intro u5 s5 h5
        rcases h5 with ⟨he, hok, w, rfl, h5⟩ | ⟨he, rfl, h5⟩
        · have hwf : flatV w = true := nats_flat h5
          have d0 : (((0 : Nat) : Int) != 0) = false := by decide
          rw [ext0, List.getElem?_cons_zero, optK_some, ext0, List.getElem?_cons_succ, List.getElem?_cons_zero, optK_some]
          refine newC_t h5 fun k7 s6 h6 => ?_
          show st 3 (.ptr (some ⟨.new k7, 0⟩)) (.agg [.int .i64 (confC (rdT row).1).num, .int .i64 (confC (rdT row).1).full, w]) s6 _
          refine stAll_t h6 rfl rfl (flat3 hwf) fun s7 h7 => ?_
          rw [bin_neq, optK_some, d0, condV_false, ldAll_t (n := 3) h7 rfl]
          obtain ⟨c, hc⟩ : ∃ c, c = confC (rdT row).1 := ⟨_, rfl⟩
          rw [← hc] at hD h7 hok ⊢
          have hag : aggO (fillV (placeS [(0, 3), (1, 37)] ty) [V.int .i64 0, .int .i64 0, .int .i64 0, .slice none 0 0 true] [(0, .int .i64 (rdN row).1), (1, .agg [.int .i64 c.num, .int .i64 c.full, w])]) = some (voV ⟨(rdN row).1, c⟩ w) := by
            simp [fillV, placeS, cellsV, spl, aggO, voV]
          rw [hag, optK_some]
          have h8 : Hs G (RrH kr (rdT row).2 :: NatsH w c.chain :: r) s7 := (h7.ord [3, 1]).drop 2 |>.drop 2
          exact fin (rdT row).2 _ _ (some _) True s7 (NatsH w c.chain :: r) rfl h8 (fun hb => hK _ _ (.inl ⟨by rw [hD, if_pos (by omega)], rfl, h8.tail.tail⟩)) (fun hf hn => hK _ _ (.inr ⟨.V ⟨(rdN row).1, c⟩, w, by rw [hD, if_neg (by omega)], rfl, h8.tail⟩))
        · have d0 : ((confE (rdT row).1 : Int) != 0) = true := by simp [he]
          rw [ext0, List.getElem?_cons_zero, optK_some, ext0, List.getElem?_cons_succ, List.getElem?_cons_zero, optK_some]
          refine newC_t h5 fun k7 s6 h6 => ?_
          unfold cf0
          refine stAll_t h6 rfl rfl rfl fun s7 h7 => ?_
          rw [bin_neq, optK_some, d0, condV_true]
          exact hK _ _ (.inl ⟨by rw [hD, if_pos (.inl he)], rfl, h7.tail.tail.tail⟩)
      · rw [decide_eq_false k2, condV_false]
        have hD : rowD row = none := by unfold rowD; rw [if_neg k2]; split <;> (try rw [if_neg k1, if_neg k3]) <;> rfl
        exact fin (rdN row).2 _ _ (some _) True s3 r rfl h3 (fun hb => hK _ _ (.inl ⟨hD, rfl, h3.tail⟩)) (fun hf hn => hK _ _ (.inl ⟨hD, rfl, h3.tail⟩))

/-! ### what can't be done -/
theorem doesNil_t {kv kd : Nat} {S : VS} {r : List HP} {s : AS} (h : Hs G (VoterH kv kd S :: r) s) :
    Ens (fn36 (.ptr (some ⟨.new kv, 0⟩)) .nilIface) s fun u s' => u = .bool false ∧ Hs G r s' := by
  intro K hK
  unfold fn36 fn36_q
  refine box1_t rfl h fun kb s2 h2 => ?_
  simp only [assertV, if_true, optK_some, ext0, List.getElem?_cons_zero, List.getElem?_cons_succ, condV_false]
  exact hK _ _ ⟨rfl, h2.tail.tail⟩
theorem doesNo_t {kv kd : Nat} {S : VS} {x : Vo} (hno : ¬ (S.f ≤ numOf x ∧ roomF S.votes (numOf x) = true)) {v : V} {r : List HP} {s : AS} (h : Hs G (VoterH kv kd S :: NatsH v x.c.chain :: r) s) :
    Ens (fn36 (.ptr (some ⟨.new kv, 0⟩)) (.iface 92 (voV x v))) s fun u s' => u = .bool false ∧ Hs G r s' := by
  intro K hK
  obtain ⟨kl, km, hok, h1⟩ := VoterH.iff.1 h
  have hfl : flatV v = true := nats_flat (h.pull 1)
  unfold fn36 fn36_q
  refine box1_t rfl h1 fun kb s2 h2 => ?_
  have hne : ¬ (92 = 93) := by decide
  have hne2 : ¬ (92 = 96) := by decide
  simp only [assertV, if_true, if_neg hne, if_neg hne2, optK_some, ext0, List.getElem?_cons_zero, List.getElem?_cons_succ, condV_true, condV_false]
  refine newC_t h2 fun k7 s3 h3 => ?_
  unfold voV
  refine stAll_t h3 rfl rfl (vo_flat hfl) fun s4 h4 => ?_
  simp only [fp_ptr, optK_some, Nat.zero_add, ld_t h4, List.getElem?_cons_zero, List.getElem?_cons_succ, ld_t (h4.pull 1), nilV_ptr, ld_t (h4.pull 2), bin_lss]
  by_cases hf : S.f ≤ numOf x
  · have hd : decide ((x.c.num : Int) < (S.f : Int)) = false := by unfold numOf at hf; simp; omega
    have hroom : roomF S.votes (numOf x) = false := by
      cases hr : roomF S.votes (numOf x) with
      | false => rfl
      | true => exact absurd ⟨hf, hr⟩ hno
    rw [hd, grd_false]
    refine room_t (n := numOf x) (h4.ord [2, 3]) _ ?_
    rintro _ s5 ⟨rfl, h5⟩
    rw [hroom, un_not, optK_some]
    show condV (.bool true) _ _
    rw [condV_true]
    exact hK _ _ ⟨rfl, h5.tail.tail.tail.tail.tail.tail⟩
  · have hd : decide ((x.c.num : Int) < (S.f : Int)) = true := by unfold numOf at hf; simp; omega
    rw [hd, grd_true]
    exact hK _ _ ⟨rfl, h4.tail.tail.tail.tail.tail.tail⟩

/-- What rows make. -/
def runR (t : Vst) : List (List UInt8) → Option Vst
  | [] => some t
  | row :: rows => match rowD row with | none => none | some D => match t.step D with | none => none | some t' => runR t' rows

theorem readDoG_t {row : List UInt8} (hrl : row.length ≤ 1099511627776) {t : Vst} {kv kd : Nat} {rows : List (List UInt8)} {v : V} {r : List HP} {s : AS} (hr : Reads G r v row) (h : Hs G (VoterH kv kd (t.with rows) :: r) s) :
    Ens (fun s K => fn37 v s fun t30 s => fn36 (.ptr (some ⟨.new kv, 0⟩)) t30 s K) s fun u s' =>
      (u = .bool false ∧ (rowD row).bind t.step = none ∧ Hs G r s') ∨ (∃ t', (rowD row).bind t.step = some t' ∧ u = .bool true ∧ Hs G (VoterH kv kd (t'.with rows) :: r) s') := by
  intro K hK
  refine readG_t hrl hr.cons h _ ?_
  intro u s1 hu
  rcases hu with ⟨hD, rfl, h1⟩ | ⟨D, w, hD, hV, h1⟩
  · refine doesNil_t h1 _ ?_
    rintro _ s2 ⟨rfl, h2⟩
    exact hK _ _ (.inl ⟨rfl, by rw [hD]; rfl, h2⟩)
  · have hok := rowD_ok hD
    cases D with
    | P n =>
      obtain rfl : u = .iface 93 (.int .i64 n) := hV
      refine doesP_t hok.2 (Hs.pure_iff.1 h1).2 _ ?_
      rintro _ s2 ⟨rfl, h2⟩
      exact hK _ _ (.inr ⟨⟨max t.p n, t.f, t.v⟩, by rw [hD]; rfl, rfl, h2⟩)
    | F n =>
      obtain rfl : u = .iface 96 (.int .i64 n) := hV
      refine doesF_t hok.2 (Hs.pure_iff.1 h1).2 _ ?_
      rintro _ s2 ⟨rfl, h2⟩
      exact hK _ _ (.inr ⟨⟨t.p, max t.f n, t.v.filter fun x => decide (max t.f n ≤ numOf x)⟩, by rw [hD]; rfl, rfl, h2⟩)
    | V x =>
      obtain rfl : u = .iface 92 (voV x w) := hV
      have h1' : Hs G (NatsH w x.c.chain :: VoterH kv kd (t.with rows) :: r) s1 := h1
      have estep : t.step (.V x) = if t.f ≤ numOf x ∧ roomF t.v (numOf x) = true then some (⟨max t.p x.b, t.f, putVo t.v x⟩ : Vst) else none := rfl
      by_cases hc : t.f ≤ numOf x ∧ roomF t.v (numOf x) = true
      · rw [if_pos hc] at estep
        refine doesV_t hok hc.1 hc.2 h1'.swap _ ?_
        rintro _ s2 ⟨rfl, h2⟩
        exact hK _ _ (.inr ⟨⟨max t.p x.b, t.f, putVo t.v x⟩, by rw [hD]; exact estep, rfl, h2⟩)
      · rw [if_neg hc] at estep
        refine doesNo_t hc h1'.swap _ ?_
        rintro _ s2 ⟨rfl, h2⟩
        exact hK _ _ (.inl ⟨rfl, by rw [hD]; exact estep, h2⟩)
theorem runR_cons (t : Vst) (row : List UInt8) (rows : List (List UInt8)) : runR t (row :: rows) = ((rowD row).bind t.step).bind fun t' => runR t' rows := by
  show (match rowD row with | none => none | some D => match t.step D with | none => none | some t' => runR t' rows) = _
  cases rowD row with
  | none => rfl
  | some D =>
    show (match t.step D with | none => none | some t' => runR t' rows) = (t.step D).bind fun t' => runR t' rows
    cases t.step D <;> rfl

theorem vOpenG_t (hG : ShaG G) {kd : Nat} {d : DS} {nt n : Nat} {rows : List (List UInt8)} {r : List HP} {s : AS} (hd : d.dead = false) (hscan : scanF d.bs = (rows, n, 0)) (hn : n ≤ d.bs.length) (hl : d.bs.length ≤ 1000000000) (hds : ∀ row ∈ rows, row.length ≤ 40000) (hrl : rows.length ≤ 1000000)
    (h : Hs G (DiskH kd d nt :: r) s) :
    Ens (fn8 (.ptr (some ⟨.new kd, 0⟩))) s fun u s' => (runR ⟨0, 0, []⟩ rows = none ∧ u = .tuple [.ptr none, .int .i64 140] ∧ Hs G (DiskH kd (d.cutN n) nt :: r) s') ∨
      (∃ kv t', runR ⟨0, 0, []⟩ rows = some t' ∧ u = .tuple [.ptr (some ⟨.new kv, 0⟩), .int .i64 0] ∧ Hs G (VoterH kv kd (t'.with rows) :: DiskH kd (d.cutN n) nt :: r) s') := by
  intro K hK
  unfold fn8 fn8_q
  refine lOpen_t hG hd hscan hn hl h _ ?_
  rintro _ s1 ⟨kl, rfl, h1⟩
  simp only [ext0, List.getElem?_cons_zero, List.getElem?_cons_succ, optK_some, bin_neq, bne_self_eq_false, condV_false]
  show mkMap s1 _
  unfold mkMap
  have h2 := h1.alloc (.map [] 0)
  obtain ⟨km, hkm⟩ : ∃ km, km = s1.next := ⟨_, rfl⟩
  obtain ⟨s2, hs2⟩ : ∃ s2, s2 = s1.alloc (.map [] 0) := ⟨_, rfl⟩
  rw [← hkm, ← hs2] at h2 ⊢
  have hag : aggO (fillV (placeS [(0, 66), (1, 3), (2, 3), (3, 67)] ty) [V.ptr none, .int .i64 0, .int .i64 0, .map none] [(0, .ptr (some ⟨.new kl, 0⟩)), (3, .map (some km))]) = some (.agg [.ptr (some ⟨.new kl, 0⟩), .int .i64 0, .int .i64 0, .map (some km)]) := by
    simp [fillV, placeS, cellsV, spl, aggO]
  simp only [hag, optK_some]
  refine boxA_t h2 fun kv s3 h3 => ?_
  refine lRows_t (h3.pull 2) hds (by omega) _ ?_
  intro rv s4 h4
  have hm := MapH.iff.2 ⟨[], 0, ⟨⟨by simp, by simp, by simp⟩, rfl⟩, (all_nil ((h4.ord [3, 2, 1, 4, 0]))).swap⟩
  have hv : Hs G (VoterH kv kd (Vst.with ⟨0, 0, []⟩ rows) :: DiskH kd (d.cutN n) nt :: RowsH rv rows :: r) s4 :=
    VoterH.iff.2 ⟨kl, km, ⟨by simp [Vst.with], by simp [Vst.with], by simp [Vst.with], by simp [Vst.with], by show rows.length ≤ _; omega⟩, hm.ord [1, 0, 2]⟩
  obtain ⟨xs, hxl, h5⟩ := RowsH.iff.1 (hv.pull 2)
  obtain ⟨ra, rc, rex, rfl⟩ := slH_slice h5
  simp only [lenV_slice, optK_some]
  refine loop_rule (fun m tm s1 => ∃ (i : Nat) (t : Vst), i + m = rows.length ∧ runR ⟨0, 0, []⟩ rows = runR t (rows.drop i) ∧ Hs G (VoterH kv kd (t.with rows) :: DiskH kd (d.cutN n) nt :: SlH 1 (.slice ra rows.length rc rex) rows.length xs :: HP.all (List.zipWith BytesH xs rows) :: r) s1 ∧
    tm.getD 6 .junk = .ptr (some ⟨.new kv, 0⟩) ∧ tm.getD 22 .junk = .slice ra rows.length rc rex ∧ tm.getD 23 .junk = .int .i64 rows.length ∧ tm.getD 24 .junk = .int .i64 (i : Nat)) ?_ (m := rows.length) (by omega) ⟨0, ⟨0, 0, []⟩, by omega, rfl, h5.ord [2, 3, 0, 1], rfl, rfl, rfl, rfl⟩
  rintro m tm s5 Kn ⟨i, t, him, hrun, h6, t6, t22, t23, t24⟩ hnext
  simp only [t6, t22, t23, t24]
  unfold fn8_L1
  by_cases hi : i < rows.length
  · have d1 : decide ((i : Int) < (rows.length : Int)) = true := decide_eq_true (by omega)
    have w1 : IntKind.i64.wrap ((i : Int) + 1) = ((i + 1 : Nat) : Int) := by rw [wrap64 (by omega) (by omega)]; omega
    obtain ⟨row, hrow⟩ : ∃ row, rows[i]? = some row := ⟨rows[i], by simp [hi]⟩
    obtain ⟨x, hx⟩ : ∃ x, xs[i]? = some x := ⟨xs[i]'(by omega), by simp [show i < xs.length by omega]⟩
    obtain ⟨p, e1, l1⟩ := elem1_t (h6.pull 2) hx .i64
    have hdrop : rows.drop i = row :: rows.drop (i + 1) := by
      rw [List.drop_eq_getElem_cons hi]
      rw [List.getElem?_eq_getElem hi] at hrow
      rw [Option.some.inj hrow]
    rw [hdrop, runR_cons] at hrun
    have hrl2 := hds row (List.mem_of_getElem? hrow)
    rw [bin_lss, optK_some, d1, condV_true, e1, optK_some, l1]
    refine readDoG_t (row := row) (by omega) (r := DiskH kd (d.cutN n) nt :: SlH 1 (.slice ra rows.length rc rex) rows.length xs :: HP.all (List.zipWith BytesH xs rows) :: r) ?_ h6 _ ?_
    · exact (reads_all (zip_mem hx hrow)).cons.cons
    intro u s6 hu
    rcases hu with ⟨rfl, hst, h7⟩ | ⟨t2, hst, rfl, h7⟩
    · rw [hst] at hrun
      rw [un_not, optK_some]
      show condV (.bool true) _ _
      rw [condV_true, nx_ret, exX_ret]
      exact hK _ _ (.inl ⟨hrun, rfl, h7.drop 1 |>.drop 1⟩)
    · rw [hst] at hrun
      rw [un_not, optK_some]
      show condV (.bool false) _ _
      rw [condV_false, bin_add, optK_some, w1, nx_nrm]
      exact hnext (rows.length - (i + 1)) _ _ (by omega) ⟨i + 1, t2, by omega, hrun, h7, rfl, rfl, rfl, rfl⟩
  · have d1 : decide ((i : Int) < (rows.length : Int)) = false := decide_eq_false (by omega)
    have hi2 : i = rows.length := by omega
    rw [hi2, List.drop_length] at hrun
    rw [bin_lss, optK_some, d1, condV_false, nx_exit, exX_exit]
    show exB true _ _
    rw [exB_true]
    exact hK _ _ (.inr ⟨kv, t, hrun, rfl, h6.drop 2 |>.drop 2⟩)
end Go.Proofs.Vt
end
