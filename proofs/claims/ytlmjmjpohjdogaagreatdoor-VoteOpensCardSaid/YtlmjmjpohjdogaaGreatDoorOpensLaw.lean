/- A part of the proof of VoteOpens: what the law's function computes; arguments that are rows of bytes. -/
import Derived.Test.YtlmjmjpohjdogaaGreatDoorOC
import Derived.Test.YtlmjmjpohjdogaaGreatDoorCF
import Derived.Test.YtlmjmjpohjdogaaGreatDoorCE
import Derived.Test.YtlmjmjpohjdogaaGreatDoorLawGen
set_option linter.unusedVariables false
set_option linter.unusedSimpArgs false
section
/- The document's log and voter are opened of a disk. -/
namespace Go.Proofs.Vt
open Go Go.Rx Go.Proofs
variable {G : Nat → Option (List V)}

/-- The document's log. -/
def RLH (kl kd : Nat) (rows : List (List UInt8)) : HP := HP.ex fun w : V => HP.all [Ob kl (.cells [.ptr (some ⟨.new kd, 0⟩), w, .bool false] 0), RowsH w rows]
theorem RLH.iff {kl kd : Nat} {rows : List (List UInt8)} {r : List HP} {s : AS} : Hs G (RLH kl kd rows :: r) s ↔ ∃ w, Hs G (Ob kl (.cells [.ptr (some ⟨.new kd, 0⟩), w, .bool false] 0) :: RowsH w rows :: r) s := by
  unfold RLH
  simp only [Hs.ex_iff, Hs.all_iff (l := [_, _]), List.cons_append, List.nil_append]

theorem qlOpen_t {kd n : Nat} {rows : List (List UInt8)} {T : List (List UInt8)} {r : List HP} {s : AS} (hrl : ∀ row ∈ rows, row.length ≤ 40000) (hbl : (rows.flatMap recB).length ≤ 1048576) (h : Hs G (RDH kd (rows.flatMap recB) n T :: r) s) :
    Ens (fn102 (.ptr (some ⟨.new kd, 0⟩))) s fun u s' => ∃ kl, u = .tuple [.ptr (some ⟨.new kl, 0⟩), .int .i64 0] ∧ Hs G (RLH kl kd rows :: RDH kd (rows.flatMap recB) (rows.flatMap recB).length T :: r) s' := by
  intro K hK
  obtain ⟨vb, vt, h1⟩ := RDH.iff.1 h
  unfold fn102 fn102_q
  have e0 : binV .eql (some (Kd.ptr 99)) true (.ptr (some ⟨.new kd, 0⟩)) (.ptr none) = some (.bool false) := rfl
  rw [e0, optK_some, condV_false, nilV_ptr, optK_some, fp_ptr, optK_some, ld_t h1, Nat.zero_add, List.getElem?_cons_succ, List.getElem?_cons_succ, List.getElem?_cons_zero, optK_some, condV_false, optK_some, fp_ptr, optK_some, ld_t h1, Nat.zero_add, List.getElem?_cons_zero, optK_some]
  refine qScan_t hrl hbl (reads_bytes (G := G) (v := vb) (ys := rows.flatMap recB)) (h1.pull 1) _ ?_
  rintro _ s2 ⟨w, rfl, h2⟩
  rw [ext0, List.getElem?_cons_zero, optK_some, ext0, List.getElem?_cons_succ, List.getElem?_cons_zero, optK_some, ext0, List.getElem?_cons_succ, List.getElem?_cons_succ, List.getElem?_cons_zero, optK_some, bin_neq, optK_some, bne_self_eq_false, condV_false]
  have h3 : Hs G (RDH kd (rows.flatMap recB) n T :: RowsH w rows :: r) s2 := RDH.iff.2 ⟨vb, vt, h2.ord [2, 1, 3]⟩
  refine qdCut_t (m := (rows.flatMap recB).length) (Nat.le_refl _) hbl h3 _ ?_
  rintro _ s4 ⟨rfl, h4⟩
  rw [List.take_length] at h4
  obtain ⟨xs, hxl, h4'⟩ := RowsH.iff.1 (h4.pull 1)
  obtain ⟨wa, wc, wex, hw⟩ := slH_slice h4'
  have hag : aggO (fillV (placeS [(0, 54), (1, 52), (2, 4)] ty) [V.ptr none, .slice none 0 0 true, .bool false] [(0, .ptr (some ⟨.new kd, 0⟩)), (1, w)]) = some (.agg [.ptr (some ⟨.new kd, 0⟩), w, .bool false]) := by
    rw [hw]; simp [fillV, placeS, cellsV, spl, aggO]
  rw [hag, optK_some]
  refine boxA_t h4 fun kl s5 h5 => ?_
  exact hK _ _ ⟨kl, rfl, RLH.iff.2 ⟨w, h5.ord [0, 2]⟩⟩

set_option maxHeartbeats 1000000 in
theorem qOpen_t {kd n : Nat} {rows : List (List UInt8)} {T : List (List UInt8)} {r : List HP} {s : AS} (hrl : ∀ row ∈ rows, row.length ≤ 40000) (hbl : (rows.flatMap recB).length ≤ 1048576) (hrn : rows.length ≤ 1000000) (h : Hs G (RDH kd (rows.flatMap recB) n T :: r) s) :
    Ens (fn57 (.ptr (some ⟨.new kd, 0⟩))) s fun u s' => (runR ⟨0, 0, []⟩ rows = none ∧ u = .tuple [.ptr none, .int .i64 140] ∧ Hs G (RDH kd (rows.flatMap recB) (rows.flatMap recB).length T :: r) s') ∨
      (∃ kv kl t ws, runR ⟨0, 0, []⟩ rows = some t ∧ u = .tuple [.ptr (some ⟨.new kv, 0⟩), .int .i64 0] ∧ ws.Perm t.v ∧ Up ws ∧ Hs G (RVH kv kl t.p t.f ws :: RLH kl kd rows :: RDH kd (rows.flatMap recB) (rows.flatMap recB).length T :: r) s') := by
  intro K hK
  unfold fn57 fn57_q
  refine qlOpen_t hrl hbl h _ ?_
  rintro _ s1 ⟨kl, rfl, h1⟩
  obtain ⟨bs, hbs⟩ : ∃ bs, bs = rows.flatMap recB := ⟨_, rfl⟩
  rw [← hbs] at h1 hK
  rw [ext0, List.getElem?_cons_zero, optK_some, ext0, List.getElem?_cons_succ, List.getElem?_cons_zero, optK_some, bin_neq, optK_some, bne_self_eq_false, condV_false]
  have hag : aggO (fillV (placeS [(0, 106), (1, 3), (2, 3), (3, 39)] ty) [V.ptr none, .int .i64 0, .int .i64 0, .slice none 0 0 true] [(0, .ptr (some ⟨.new kl, 0⟩))]) = some (.agg [.ptr (some ⟨.new kl, 0⟩), .int .i64 0, .int .i64 0, .slice none 0 0 true]) := by
    simp [fillV, placeS, cellsV, spl, aggO]
  rw [hag, optK_some]
  refine boxA_t h1 fun kv s2 h2 => ?_
  have hv : Hs G (RVH kv kl 0 0 [] :: RLH kl kd rows :: RDH kd bs bs.length T :: r) s2 := RVH.iff.2 ⟨.slice none 0 0 true, ⟨by simp, by simp⟩, (VotesH.nil h2 true).swap⟩
  obtain ⟨rv, h3⟩ := RLH.iff.1 (hv.pull 1)
  obtain ⟨xs, hxl, h5⟩ := RowsH.iff.1 (h3.pull 1)
  obtain ⟨ra, rc, rex, hrv⟩ := slH_slice h5
  have hlv : lenV (some (Kd.slice 59)) rv = some (.int .i64 rows.length) := by rw [hrv]; rfl
  refine loop_rule (fun m tm s1 => ∃ (i : Nat) (t : Vst) (ws : List Vo), i + m = rows.length ∧ runR ⟨0, 0, []⟩ rows = runR t (rows.drop i) ∧ ws.Perm t.v ∧ Up ws ∧
    Hs G (RVH kv kl t.p t.f ws :: Ob kl (.cells [.ptr (some ⟨.new kd, 0⟩), rv, .bool false] 0) :: SlH 1 rv rows.length xs :: HP.all (List.zipWith BytesH xs rows) :: RDH kd bs bs.length T :: r) s1 ∧
    tm.getD 4 .junk = .ptr (some ⟨.new kl, 0⟩) ∧ tm.getD 6 .junk = .ptr (some ⟨.new kv, 0⟩) ∧ tm.getD 7 .junk = .int .i64 (i : Nat)) ?_ (m := rows.length) (by omega)
    ⟨0, ⟨0, 0, []⟩, [], by omega, rfl, List.Perm.refl _, List.Pairwise.nil, h5.ord [3, 2, 0, 1], rfl, rfl, rfl⟩
  rintro m tm s5 Kn ⟨i, t, ws, him, hrun, hp, hu, h6, t4, t6, t7⟩ hnext
  simp only [t4, t6, t7]
  unfold fn57_L1
  have lrv : ∀ K, ld1 (.ptr (some ⟨.new kl, 0 + 1⟩)) s5 K = K rv s5 := fun K => (ld_t (h6.pull 1) K).trans rfl
  rw [nilV_ptr, optK_some, fp_ptr, optK_some, lrv, hlv, optK_some, bin_lss, optK_some]
  by_cases hi : i < rows.length
  · have d1 : decide ((i : Int) < (rows.length : Int)) = true := decide_eq_true (by omega)
    have w1 : IntKind.i64.wrap ((i : Int) + 1) = ((i + 1 : Nat) : Int) := by rw [wrap64 (by omega) (by omega)]; omega
    obtain ⟨row, hrow⟩ : ∃ row, rows[i]? = some row := ⟨rows[i], by simp [hi]⟩
    obtain ⟨x, hx⟩ : ∃ x, xs[i]? = some x := ⟨xs[i]'(by omega), by simp [show i < xs.length by omega]⟩
    obtain ⟨p, e1, l1⟩ := elem1_t (h6.pull 2) hx .i64
    have hdrop : rows.drop i = row :: rows.drop (i + 1) := by
      rw [List.drop_eq_getElem_cons hi]
      rw [List.getElem?_eq_getElem hi] at hrow
      rw [Option.some.inj hrow]
    rw [hdrop, runR_cons] at hrun
    have hrl2 := hrl row (List.mem_of_getElem? hrow)
    rw [d1, condV_true, optK_some, fp_ptr, optK_some, lrv, e1, optK_some, l1]
    refine qDone_t (row := row) (by omega) hp hu (r := Ob kl (.cells [.ptr (some ⟨.new kd, 0⟩), rv, .bool false] 0) :: SlH 1 rv rows.length xs :: HP.all (List.zipWith BytesH xs rows) :: RDH kd bs bs.length T :: r) ?_ h6 _ ?_
    · exact (reads_all (zip_mem hx hrow)).cons.cons
    rintro u s6 (⟨rfl, hst, h7⟩ | ⟨t2, ws2, hst, rfl, hp2, hu2, h7⟩)
    · rw [hst] at hrun
      rw [un_not, optK_some]
      show condV (.bool true) _ _
      rw [condV_true, nx_ret, exX_ret]
      exact hK _ _ (.inl ⟨hrun, rfl, h7.tail.tail.tail⟩)
    · rw [hst] at hrun
      rw [un_not, optK_some]
      show condV (.bool false) _ _
      rw [condV_false, bin_add, optK_some, w1, nx_nrm]
      exact hnext (rows.length - (i + 1)) _ _ (by omega) ⟨i + 1, t2, ws2, by omega, hrun, hp2, hu2, h7, rfl, rfl, rfl⟩
  · have d1 : decide ((i : Int) < (rows.length : Int)) = false := decide_eq_false (by omega)
    have hi2 : i = rows.length := by omega
    rw [hi2, List.drop_length] at hrun
    rw [d1, condV_false, nx_exit, exX_exit]
    show exB true _ _
    rw [exB_true]
    refine hK _ _ (.inr ⟨kv, kl, t, ws, hrun, rfl, hp, hu, ?_⟩)
    exact ((RLH.iff.2 ⟨rv, ((RowsH.iff.2 ⟨xs, hxl, h6.ord [2, 3, 1, 0]⟩).swap)⟩).swap)
end Go.Proofs.Vt
end
section
/- Votes alike; do both stand alike? -/
namespace Go.Proofs.Vt
open Go Go.Rx Go.Proofs
variable {G : Nat → Option (List V)}

/-- Ints that can be read one by one. -/
def RdI (G : Nat → Option (List V)) (r : List HP) (v : V) (l : List Nat) : Prop := ∀ s, Hs G r s → (∀ e, lenV (some (Kd.slice e)) v = some (.int .i64 l.length)) ∧
  ∀ (i x : Nat), l[i]? = some x → ∃ p, elemPtr none 1 v (.int .i64 (i : Nat)) = some (.ptr (some p)) ∧ ∀ K, ld1 (.ptr (some p)) s K = K (iV x) s
theorem RdI.cons {r : List HP} {v : V} {l : List Nat} (h : RdI G r v l) {A : HP} : RdI G (A :: r) v l := fun s hs => h s hs.tail
theorem rdI_nats {v : V} {l : List Nat} {r : List HP} : RdI G (NatsH v l :: r) v l := fun s h => by
  obtain ⟨a, c, ex, hv⟩ := slH_slice h
  refine ⟨fun e => by rw [hv]; show some (V.int .i64 ((zs l).length : Nat)) = _; simp, fun i x hx => ?_⟩
  have hx' : ((zs l).map iV)[i]? = some (iV x) := by simp [hx]
  exact elem1_t h hx' .i64
theorem rdI_all {v : V} {c : List Nat} {l r : List HP} (hm : NatsH v c ∈ l) : RdI G (HP.all l :: r) v c := fun s h => by
  obtain ⟨F, hF, hlt⟩ := h.head
  obtain ⟨F1, h1, hp⟩ := sepL_mem hm hF
  have h2 : Hs G [NatsH v c] s := ⟨h.old, F1, fun _ => False, fun k hk => hlt k (h1 k hk), fun _ h => h.elim, fun _ _ h => h, hp, trivial⟩
  exact rdI_nats s h2
theorem qEqInts_t {a b : V} {l : List Nat} {r : List HP} {s : AS} (ha : RdI G r a l) (hb : RdI G r b l) (h : Hs G r s) (hl : l.length ≤ 1000000) (K : K0) : fn19 a b s K = fn19 a b s K ∧ (K (.bool true) s → fn19 a b s K) := by
  refine ⟨rfl, fun hK => ?_⟩
  obtain ⟨la, ga⟩ := ha s h
  obtain ⟨lb, gb⟩ := hb s h
  unfold fn19 fn19_q
  rw [la, optK_some, lb, optK_some, bin_neq, optK_some, bne_self_eq_false, condV_false]
  refine loop_rule (fun m tm s1 => ∃ i : Nat, m + i = l.length ∧ s1 = s ∧ tm.getD 0 .junk = a ∧ tm.getD 1 .junk = b ∧ tm.getD 5 .junk = .int .i64 (i : Nat)) ?_ (m := l.length) (by omega) ⟨0, by omega, rfl, rfl, rfl, rfl⟩
  rintro m tm s1 Kn ⟨i, hm, rfl, t0, t1, t5⟩ hnext
  simp only [t0, t1, t5]
  unfold fn19_L1
  rw [la, optK_some, bin_lss, optK_some]
  by_cases hi : i < l.length
  · have d1 : decide ((i : Int) < (l.length : Int)) = true := decide_eq_true (by omega)
    have w1 : IntKind.i64.wrap ((i : Int) + 1) = ((i + 1 : Nat) : Int) := by rw [wrap64 (by omega) (by omega)]; omega
    obtain ⟨x, hx⟩ : ∃ x, l[i]? = some x := ⟨_, List.getElem?_eq_getElem hi⟩
    obtain ⟨p, ep, lp⟩ := ga i x hx
    obtain ⟨q, eq, lq⟩ := gb i x hx
    rw [d1, condV_true, ep, optK_some, lp, eq, optK_some, lq]
    show optK (binV .neq _ _ (.int .i64 (x : Nat)) (.int .i64 (x : Nat))) _ _
    rw [bin_neq, optK_some, bne_self_eq_false, condV_false, bin_add, optK_some, w1, nx_nrm]
    exact hnext (m - 1) _ _ (by omega) ⟨i + 1, by omega, rfl, rfl, rfl, rfl⟩
  · have d1 : decide ((i : Int) < (l.length : Int)) = false := decide_eq_false (by omega)
    rw [d1, condV_false, nx_exit, exX_exit]
    exact hK
theorem qSameConf_t {c : Cf} {v w : V} {r : List HP} {s : AS} (hc : c.chain.length ≤ 4) (hv : RdI G r v c.chain) (hw : RdI G r w c.chain) (h : Hs G r s) :
    Ens (fn104 (cfV c v) (cfV c w)) s fun u s' => u = .bool true ∧ Hs G r s' := by
  intro K hK
  unfold fn104 fn104_q cfV
  refine boxA_t h fun k1 s1 h1 => ?_
  refine boxA_t h1 fun k2 s2 h2 => ?_
  have a0 : ∀ K, ld1 (.ptr (some ⟨.new k1, 0 + 0⟩)) s2 K = K (.int .i64 c.num) s2 := fun K => (ld_t (h2.pull 1) K).trans rfl
  have a1 : ∀ K, ld1 (.ptr (some ⟨.new k1, 0 + 1⟩)) s2 K = K (.int .i64 c.full) s2 := fun K => (ld_t (h2.pull 1) K).trans rfl
  have a2 : ∀ K, ld1 (.ptr (some ⟨.new k1, 0 + 2⟩)) s2 K = K v s2 := fun K => (ld_t (h2.pull 1) K).trans rfl
  have b0 : ∀ K, ld1 (.ptr (some ⟨.new k2, 0 + 0⟩)) s2 K = K (.int .i64 c.num) s2 := fun K => (ld_t h2 K).trans rfl
  have b1 : ∀ K, ld1 (.ptr (some ⟨.new k2, 0 + 1⟩)) s2 K = K (.int .i64 c.full) s2 := fun K => (ld_t h2 K).trans rfl
  have b2 : ∀ K, ld1 (.ptr (some ⟨.new k2, 0 + 2⟩)) s2 K = K w s2 := fun K => (ld_t h2 K).trans rfl
  rw [fp_ptr, optK_some, a0, fp_ptr, optK_some, b0, bin_eql, optK_some, beq_self_eq_true, grd_true, fp_ptr, optK_some, a1, fp_ptr, optK_some, b1, bin_eql, optK_some, beq_self_eq_true, grd_true, fp_ptr, optK_some, a2, fp_ptr, optK_some, b2]
  exact (qEqInts_t hv.cons.cons hw.cons.cons h2 (by omega) _).2 (hK _ _ ⟨rfl, h2.tail.tail⟩)
theorem sameVotes_t {a b : V} {ws : List Vo} {r : List HP} {s : AS} (hl : ws.length ≤ 8) (hch : ∀ y ∈ ws, y.c.chain.length ≤ 4) (h : Hs G (VotesH a ws :: VotesH b ws :: r) s) :
    Ens (fn58 a b) s fun u s' => u = .bool true ∧ Hs G (VotesH a ws :: VotesH b ws :: r) s' := by
  intro K hK
  obtain ⟨L1, e1, h1⟩ := VotesH.iff.1 h
  obtain ⟨L2, e2, h2⟩ := VotesH.iff.1 (h1.pull 2)
  have l1 : L1.length = ws.length := by rw [← e1, List.length_map]
  have l2 : L2.length = ws.length := by rw [← e2, List.length_map]
  obtain ⟨aa, ac, aex, ha⟩ := slH_slice h1
  obtain ⟨ba, bc, bex, hb⟩ := slH_slice h2
  have la : lenV (some (Kd.slice 43)) a = some (.int .i64 ws.length) := by rw [ha, l1]; rfl
  have lb : lenV (some (Kd.slice 43)) b = some (.int .i64 ws.length) := by rw [hb, l2]; rfl
  unfold fn58 fn58_q
  rw [la, optK_some, lb, optK_some, bin_neq, optK_some, bne_self_eq_false, condV_false]
  refine loop_rule (fun m tm s1 => ∃ i : Nat, m + i = ws.length ∧ Hs G (SlH 4 b L2.length (L2.flatMap cells4) :: HP.all (L2.map chC) :: SlH 4 a L1.length (L1.flatMap cells4) :: HP.all (L1.map chC) :: r) s1 ∧
    tm.getD 0 .junk = a ∧ tm.getD 1 .junk = b ∧ tm.getD 5 .junk = .int .i64 (i : Nat)) ?_ (m := ws.length) (by omega) ⟨0, by omega, h2, rfl, rfl, rfl⟩
  rintro m tm s1 Kn ⟨i, hm, h3, t0, t1, t5⟩ hnext
  simp only [t0, t1, t5]
  unfold fn58_L1
  rw [la, optK_some, bin_lss, optK_some]
  by_cases hi : i < ws.length
  · have d1 : decide ((i : Int) < (ws.length : Int)) = true := decide_eq_true (by omega)
    have w1 : IntKind.i64.wrap ((i : Int) + 1) = ((i + 1 : Nat) : Int) := by rw [wrap64 (by omega) (by omega)]; omega
    obtain ⟨x, hx⟩ : ∃ x, L1[i]? = some x := ⟨_, List.getElem?_eq_getElem (by omega)⟩
    obtain ⟨y, hy⟩ : ∃ y, L2[i]? = some y := ⟨_, List.getElem?_eq_getElem (by omega)⟩
    have exy : x.1 = y.1 := by
      have q1 : ws[i]? = some x.1 := by rw [← e1, List.getElem?_map, hx]; rfl
      have q2 : ws[i]? = some y.1 := by rw [← e2, List.getElem?_map, hy]; rfl
      rw [q1] at q2; exact Option.some.inj q2
    have hxw : x.1 ∈ ws := by rw [← e1]; exact List.mem_map.2 ⟨x, List.mem_of_getElem? hx, rfl⟩
    obtain ⟨kx, ox, f1, f2, _, f4⟩ := elemC4 (h3.pull 2) hx .i64
    obtain ⟨ky, oy, g1, g2, _, g4⟩ := elemC4 h3 hy .i64
    have f2' : ∀ K, ld1 (.ptr (some ⟨.new kx, ox + 0⟩)) s1 K = K (.int .i64 y.1.b) s1 := fun K => by rw [← exy]; exact f2 0 _ K rfl
    have g2' : ∀ K, ld1 (.ptr (some ⟨.new ky, oy + 0⟩)) s1 K = K (.int .i64 y.1.b) s1 := fun K => g2 0 _ K rfl
    rw [exy] at f4 hxw
    rw [d1, condV_true, f1, optK_some, fp_ptr, optK_some, f2', g1, optK_some, fp_ptr, optK_some, g2', bin_neq, optK_some, bne_self_eq_false, grd_false, optK_some, fp_ptr, optK_some, f4, optK_some, fp_ptr, optK_some, g4]
    have hmx : NatsH x.2 y.1.c.chain ∈ L1.map chC := by rw [← exy]; exact List.mem_map.2 ⟨x, List.mem_of_getElem? hx, rfl⟩
    have hmy : NatsH y.2 y.1.c.chain ∈ L2.map chC := List.mem_map.2 ⟨y, List.mem_of_getElem? hy, rfl⟩
    refine qSameConf_t (c := y.1.c) (hch _ hxw) (rdI_all hmx).cons.cons.cons (rdI_all hmy).cons h3 _ ?_
    rintro _ s4 ⟨rfl, h4⟩
    rw [un_not, optK_some]
    show condV (.bool false) _ _
    rw [condV_false, bin_add, optK_some, w1, nx_nrm]
    exact hnext (m - 1) _ _ (by omega) ⟨i + 1, by omega, h4, rfl, rfl, rfl⟩
  · have d1 : decide ((i : Int) < (ws.length : Int)) = false := decide_eq_false (by omega)
    rw [d1, condV_false, nx_exit, exX_exit]
    show exB true _ _
    rw [exB_true]
    have h5 := VotesH.iff.2 ⟨L1, e1, ((VotesH.iff.2 ⟨L2, e2, h3⟩ : Hs G (VotesH b ws :: _) s1).ord [1, 2, 0])⟩
    exact hK _ _ ⟨rfl, h5⟩

theorem vDead_t {kv kd : Nat} {S : VS} {r : List HP} {s : AS} (h : Hs G (VoterH kv kd S :: r) s) (K : K0) : fn29 (.ptr (some ⟨.new kv, 0⟩)) s K = K (.bool S.dead) s := by
  obtain ⟨kl, km, hok, h1⟩ := VoterH.iff.1 h
  unfold fn29 fn29_q
  rw [vnone_t h1]
  simp only [un_not, Bool.not_false, optK_some, grd_true, nilV_ptr, fp_ptr, Nat.zero_add, ld_t h1, List.getElem?_cons_zero]
  exact lDead_t (h1.pull 2) _

/-! ### no vote lies below the floor -/
theorem step_floor {t t' : Vst} {D : Deed} (h : t.step D = some t') (hf : ∀ x ∈ t.v, t.f ≤ numOf x) : ∀ x ∈ t'.v, t'.f ≤ numOf x := by
  cases D with
  | P n => cases h; exact hf
  | F n => cases h; exact fun x hx => by have := (List.mem_filter.1 hx).2; simpa using this
  | V x =>
    have e : t.step (.V x) = if t.f ≤ numOf x ∧ roomF t.v (numOf x) = true then some (⟨max t.p x.b, t.f, putVo t.v x⟩ : Vst) else none := rfl
    rw [e] at h
    split at h
    · rename_i hc
      cases h
      intro y hy
      rcases putVo_mem hy with rfl | hy
      · exact hc.1
      · exact hf y hy
    · cases h
theorem runR_floor : ∀ (rows : List (List UInt8)) (t t' : Vst), runR t rows = some t' → (∀ x ∈ t.v, t.f ≤ numOf x) → ∀ x ∈ t'.v, t'.f ≤ numOf x
  | [], t, t', h, hf => by cases h; exact hf
  | row :: rows, t, t', h, hf => by
    rw [runR_cons] at h
    cases hs : (rowD row).bind t.step with
    | none => rw [hs] at h; cases h
    | some t2 =>
      rw [hs] at h
      cases hD : rowD row with
      | none => rw [hD] at hs; cases hs
      | some D => rw [hD] at hs; exact runR_floor rows t2 t' h (step_floor hs hf)
end Go.Proofs.Vt
end
section
/- VoteOpens: both voters, opened of rows of any kind, stand alike. -/
namespace Go.Proofs.Vt
open Go Go.Rx Go.Proofs
variable {G : Nat → Option (List V)}

/-! ### what was told is overwritten -/
theorem spoil2_t {K : KX} {u : V} {i n : Nat} {t : VC} {L : List VC} {xs : List V} {r : List HP} {s : AS} {tm : Tm} (hx : L[i]? = some t) (hn : n ≤ 1000)
    (h : Hs G (SlH 1 t.2 n xs :: SlH 4 u L.length (L.flatMap cells4) :: r) s) (t3 : tm.getD 3 .junk = u) (t4 : tm.getD 4 .junk = .int .i64 (i : Nat)) (t5 : tm.getD 5 .junk = .int .i64 0)
    (hK : ∀ tm' s', tm'.getD 3 .junk = u → tm'.getD 4 .junk = .int .i64 (i : Nat) → Hs G (SlH 4 u L.length (L.flatMap cells4) :: r) s' → K (.exit 2) tm' s') :
    loopN LOOPS (fun tm s K => fn27_L2 fn16 fn58 fn11 fn18 fn29 fn60 fn59 (tm.getD 3 .junk) (tm.getD 4 .junk) (tm.getD 5 .junk) s K) tm s K := by
  refine loop_rule (fun m tm s1 => ∃ (k : Nat) (xs : List V), m + k = n ∧ Hs G (SlH 1 t.2 n xs :: SlH 4 u L.length (L.flatMap cells4) :: r) s1 ∧
    tm.getD 3 .junk = u ∧ tm.getD 4 .junk = .int .i64 (i : Nat) ∧ tm.getD 5 .junk = .int .i64 (k : Nat)) ?_ (m := n) (by omega) ⟨0, xs, by omega, h, t3, t4, t5⟩
  rintro m tm s1 Kn ⟨k, xs, hm, h1, t3, t4, t5⟩ hnext
  simp only [t3, t4, t5]
  unfold fn27_L2
  obtain ⟨ke, o, e1, e2, _, _⟩ := elemC4 (h1.pull 1) hx .i64
  have e2' : ∀ K, ld1 (.ptr (some ⟨.new ke, o + 1 + 2⟩)) s1 K = K t.2 s1 := fun K => e2 3 _ K rfl
  obtain ⟨va, vc, vex, hv⟩ := slH_slice h1
  have hlv : lenV (some (Kd.slice 3)) t.2 = some (.int .i64 n) := by rw [hv]; rfl
  rw [e1, optK_some, fp_ptr, optK_some, fp_ptr, optK_some, e2', hlv, optK_some, bin_lss, optK_some]
  by_cases hk : k < n
  · have d : decide ((k : Int) < (n : Int)) = true := decide_eq_true (by omega)
    have w : IntKind.i64.wrap ((k : Int) + 1) = ((k + 1 : Nat) : Int) := by rw [wrap64 (by omega) (by omega)]; omega
    obtain ⟨p, g1, g2⟩ := elemSet_t h1 hk .i64
    rw [d, condV_true, optK_some, fp_ptr, optK_some, fp_ptr, optK_some, e2', g1, optK_some]
    refine g2 _ _ rfl fun s2 h2 => ?_
    rw [bin_add, optK_some, w, nx_nrm]
    exact hnext (m - 1) _ _ (by omega) ⟨k + 1, _, by omega, h2, rfl, rfl, rfl⟩
  · have d : decide ((k : Int) < (n : Int)) = false := decide_eq_false (by omega)
    rw [d, condV_false, nx_exit]
    exact hK _ _ rfl rfl h1.tail
theorem spoil1_t {K : KX} {u : V} {L : List VC} {r : List HP} {s : AS} {tm : Tm} (hl : L.length ≤ 8) (hch : ∀ t ∈ L, t.1.c.chain.length ≤ 4)
    (h : Hs G (SlH 4 u L.length (L.flatMap cells4) :: HP.all (L.map chC) :: r) s) (t3 : tm.getD 3 .junk = u) (t4 : tm.getD 4 .junk = .int .i64 0)
    (hK : ∀ tm' s', Hs G r s' → K (.exit 0) tm' s') :
    loopN LOOPS (fun tm s K => fn27_L1 fn16 fn58 fn11 fn18 fn29 fn60 fn59 (tm.getD 3 .junk) (tm.getD 4 .junk) s K) tm s K := by
  refine loop_rule (fun m tm s1 => ∃ i : Nat, m + i = L.length ∧ Hs G (SlH 4 u L.length (L.flatMap cells4) :: HP.all ((L.drop i).map chC) :: r) s1 ∧
    tm.getD 3 .junk = u ∧ tm.getD 4 .junk = .int .i64 (i : Nat)) ?_ (m := L.length) (by omega) ⟨0, by omega, h, t3, t4⟩
  rintro m tm s1 Kn ⟨i, hm, h1, t3, t4⟩ hnext
  simp only [t3, t4]
  unfold fn27_L1
  obtain ⟨va, vc, vex, hv⟩ := slH_slice h1
  have hlv : lenV (some (Kd.slice 43)) u = some (.int .i64 L.length) := by rw [hv]; rfl
  rw [hlv, optK_some, bin_lss, optK_some]
  by_cases hi : i < L.length
  · have d : decide ((i : Int) < (L.length : Int)) = true := decide_eq_true (by omega)
    have w : IntKind.i64.wrap ((i : Int) + 1) = ((i + 1 : Nat) : Int) := by rw [wrap64 (by omega) (by omega)]; omega
    obtain ⟨t, ht⟩ : ∃ t, L[i]? = some t := ⟨_, List.getElem?_eq_getElem hi⟩
    have hdr : L.drop i = t :: L.drop (i + 1) := by
      rw [List.drop_eq_getElem_cons hi]
      congr 1
      have := List.getElem?_eq_getElem hi
      rw [ht] at this; exact (Option.some.inj this).symm
    rw [hdr, List.map_cons] at h1
    have h2 := all_mid (l := []) h1.swap
    have hcl := hch t (List.mem_of_getElem? ht)
    rw [d, condV_true]
    refine spoil2_t (n := (zs t.1.c.chain).length) ht (by simp; omega) (h2.ord [0, 2, 1]) rfl rfl rfl fun tm' s3 q3 q4 h3 => ?_
    rw [exX_exit]
    show exB true _ _
    rw [exB_true, q3, q4, bin_add, optK_some, w, nx_nrm]
    exact hnext (m - 1) _ _ (by omega) ⟨i + 1, by omega, h3, rfl, rfl⟩
  · have d : decide ((i : Int) < (L.length : Int)) = false := decide_eq_false (by omega)
    rw [d, condV_false, nx_exit]
    exact hK _ _ h1.tail.tail

/-! ### both stand alike -/
/-- Both, opened. -/
structure BothOk (rows : List (List UInt8)) (t : Vst) (ws : List Vo) : Prop where
  perm : ws.Perm t.v
  up : Up ws
  fl : ∀ x ∈ t.v, t.f ≤ numOf x
set_option maxHeartbeats 1000000 in
theorem bothSame_t {kb kd kv ke km kl nt n : Nat} {d : DS} {rows T : List (List UInt8)} {t : Vst} {ws : List Vo} {r : List HP} {s : AS} (hb : BothOk rows t ws) (hbl : d.bs.length ≤ 1000000)
    (h : Hs G (Ob kb (.cells [.ptr (some ⟨.new kd, 0⟩), .ptr (some ⟨.new kv, 0⟩), .ptr (some ⟨.new ke, 0⟩), .ptr (some ⟨.new km, 0⟩)] 0) :: VoterH kv kd (t.with rows) :: DiskH kd d nt :: RVH km kl t.p t.f ws :: RLH kl ke rows :: RDH ke d.bs n T :: r) s) :
    Ens (fn27 (.ptr (some ⟨.new kb, 0⟩))) s fun u s' => u = .bool true ∧ Hs G r s' := by
  intro K hK
  have bq : ∀ (s : AS) l, Hs G (Ob kb (.cells [.ptr (some ⟨.new kd, 0⟩), .ptr (some ⟨.new kv, 0⟩), .ptr (some ⟨.new ke, 0⟩), .ptr (some ⟨.new km, 0⟩)] 0) :: l) s →
      (∀ K, ld1 (.ptr (some ⟨.new kb, 0 + 0⟩)) s K = K (.ptr (some ⟨.new kd, 0⟩)) s) ∧ (∀ K, ld1 (.ptr (some ⟨.new kb, 0 + 1⟩)) s K = K (.ptr (some ⟨.new kv, 0⟩)) s) ∧ (∀ K, ld1 (.ptr (some ⟨.new kb, 0 + 2⟩)) s K = K (.ptr (some ⟨.new ke, 0⟩)) s) ∧ (∀ K, ld1 (.ptr (some ⟨.new kb, 0 + 3⟩)) s K = K (.ptr (some ⟨.new km, 0⟩)) s) ∧
      Rx.holds ti56 (.ptr (some ⟨.new kb, 0 + 3⟩)) s (.ptr (some ⟨.new km, 0⟩)) = true ∧ Rx.holds ti54 (.ptr (some ⟨.new kb, 0 + 2⟩)) s (.ptr (some ⟨.new ke, 0⟩)) = true := fun s l h =>
    ⟨fun K => (ld_t h K).trans rfl, fun K => (ld_t h K).trans rfl, fun K => (ld_t h K).trans rfl, fun K => (ld_t h K).trans rfl,
      holds_t (ti := ti56) rfl h (o := 0 + 3) rfl (by simp [sameV, same0]), holds_t (ti := ti54) rfl h (o := 0 + 2) rfl (by simp [sameV, same0])⟩
  unfold fn27 fn27_q
  obtain ⟨_, b1, _, _, _, _⟩ := bq _ _ h
  rw [nilV_ptr, optK_some, fp_ptr, optK_some, b1]
  refine Votes_t (h.pull 1) _ ?_
  rintro u s1 ⟨ws1, htold, h1⟩
  have ews : ws1 = ws := by
    refine sorted_eq (htold.perm.trans ?_) htold.up hb.up
    have e : t.v.filter (fun x => decide (t.f ≤ numOf x)) = t.v := List.filter_eq_self.2 fun x hx => decide_eq_true (hb.fl x hx)
    show (t.v.filter fun x => decide (t.f ≤ numOf x)).Perm ws
    rw [e]; exact hb.perm.symm
  rw [ews] at h1
  obtain ⟨_, _, _, b3, _, _⟩ := bq _ _ (h1.pull 2)
  obtain ⟨vl, hok, h2⟩ := RVH.iff.1 (h1.pull 4)
  have lvl : ∀ K, ld1 (.ptr (some ⟨.new km, 0 + 3⟩)) s1 K = K vl s1 := fun K => (ld_t h2 K).trans rfl
  rw [optK_some, fp_ptr, optK_some, b3, nilV_ptr, optK_some, fp_ptr, optK_some, lvl]
  refine sameVotes_t (ws := ws) hok.len hok.ch (h2.ord [2, 1]) _ ?_
  rintro _ s3 ⟨rfl, h3⟩
  have h4 : Hs G (Ob kb (.cells [.ptr (some ⟨.new kd, 0⟩), .ptr (some ⟨.new kv, 0⟩), .ptr (some ⟨.new ke, 0⟩), .ptr (some ⟨.new km, 0⟩)] 0) :: VoterH kv kd (t.with rows) :: Ob km (.cells [.ptr (some ⟨.new kl, 0⟩), .int .i64 t.p, .int .i64 t.f, vl] 0) :: RLH kl ke rows :: DiskH kd d nt :: RDH ke d.bs n T :: VotesH u ws :: VotesH vl ws :: r) s3 := h3.ord [4, 3, 2, 6, 5, 7, 0, 1]
  obtain ⟨b0, b1, b2, b3, b3h, b2h⟩ := bq _ _ h4
  rw [un_not, optK_some]
  show grd (.bool false) _ _ _
  have m0 : ∀ K, ld1 (.ptr (some ⟨.new km, 0 + 0⟩)) s3 K = K (.ptr (some ⟨.new kl, 0⟩)) s3 := fun K => (ld_t (h4.pull 2) K).trans rfl
  have m1 : ∀ K, ld1 (.ptr (some ⟨.new km, 0 + 1⟩)) s3 K = K (.int .i64 t.p) s3 := fun K => (ld_t (h4.pull 2) K).trans rfl
  have m2 : ∀ K, ld1 (.ptr (some ⟨.new km, 0 + 2⟩)) s3 K = K (.int .i64 t.f) s3 := fun K => (ld_t (h4.pull 2) K).trans rfl
  have m0h : Rx.holds ti106 (.ptr (some ⟨.new km, 0 + 0⟩)) s3 (.ptr (some ⟨.new kl, 0⟩)) = true := holds_t (ti := ti106) rfl (h4.pull 2) (o := 0 + 0) rfl (by simp [sameV, same0])
  have m1h : Rx.holds ti3 (.ptr (some ⟨.new km, 0 + 1⟩)) s3 (.int .i64 t.p) = true := holds_t (ti := ti3) rfl (h4.pull 2) (o := 0 + 1) rfl (by simp [sameV, same0])
  have m2h : Rx.holds ti3 (.ptr (some ⟨.new km, 0 + 2⟩)) s3 (.int .i64 t.f) = true := holds_t (ti := ti3) rfl (h4.pull 2) (o := 0 + 2) rfl (by simp [sameV, same0])
  obtain ⟨lw, h5⟩ := RLH.iff.1 (h4.pull 3)
  have k2 : ∀ K, ld1 (.ptr (some ⟨.new kl, 0 + 2⟩)) s3 K = K (.bool false) s3 := fun K => (ld_t h5 K).trans rfl
  have k2h : Rx.holds ti4 (.ptr (some ⟨.new kl, 0 + 2⟩)) s3 (.bool false) = true := holds_t (ti := ti4) rfl h5 (o := 0 + 2) rfl (by simp [sameV, same0])
  obtain ⟨vb, vt, h6⟩ := RDH.iff.1 (h4.pull 5)
  obtain ⟨ba, bc, bex, hvb⟩ := slH_slice (h6.pull 1)
  have hbh : Rx.holds ti59 (.ptr (some ⟨.new ke, 0 + 0⟩)) s3 vb = true := holds_t (ti := ti59) rfl h6 (o := 0 + 0) rfl (by rw [hvb]; exact sameV_slice _ _ _ _)
  have ep := Promised_t (h4.pull 1)
  have ef := Floor_t (h4.pull 1)
  have ed := vDead_t (h4.pull 1)
  have sp : (t.with rows).p = t.p := rfl
  have sf : (t.with rows).f = t.f := rfl
  have sd : (t.with rows).dead = false := rfl
  rw [sp] at ep
  rw [sf] at ef
  rw [sd] at ed
  rw [grd_false, optK_some, fp_ptr, optK_some, b1, ep, optK_some, fp_ptr, optK_some, b3, b3h, chkB_true, nilV_ptr, optK_some, fp_ptr, optK_some, m1, m1h, chkB_true, bin_neq, optK_some, bne_self_eq_false, grd_false]
  rw [optK_some, fp_ptr, optK_some, b1, ef, optK_some, fp_ptr, optK_some, b3, b3h, chkB_true, nilV_ptr, optK_some, fp_ptr, optK_some, m2, m2h, chkB_true, bin_neq, optK_some, bne_self_eq_false, grd_false]
  rw [optK_some, fp_ptr, optK_some, b1, ed, optK_some, fp_ptr, optK_some, b3, b3h, chkB_true, nilV_ptr, optK_some, fp_ptr, optK_some, m0, m0h, chkB_true, nilV_ptr, optK_some, fp_ptr, optK_some, k2, k2h, chkB_true, bin_bool_neq, optK_some]
  show grd (.bool false) _ _ _
  rw [grd_false, optK_some, fp_ptr, optK_some, b0]
  refine dRead_t (h6.pull 7) _ ?_
  rintro u2 s8 ⟨_, h8⟩
  obtain ⟨_, _, c2, _, _, _⟩ := bq _ _ (h8.pull 5)
  have e0 : ∀ K, ld1 (.ptr (some ⟨.new ke, 0 + 0⟩)) s8 K = K vb s8 := fun K => (ld_t (h8.pull 2) K).trans rfl
  rw [optK_some, fp_ptr, optK_some, c2, b2h, chkB_true, nilV_ptr, optK_some, fp_ptr, optK_some, e0, hbh, chkB_true, qEq_t (reads_bytes (G := G) (v := u2) (ys := d.bs)) (reads_bytes (G := G) (v := vb) (ys := d.bs)).cons.cons.cons h8, decide_eq_true rfl, un_not, optK_some]
  show condV (.bool false) _ _
  rw [condV_false]
  obtain ⟨L, hL, h10⟩ := VotesH.iff.1 (h8.pull 9)
  have hLl : L.length = ws.length := by rw [← hL, List.length_map]
  refine spoil1_t (by rw [hLl]; exact hok.len) (fun t ht => hok.ch t.1 (by rw [← hL]; exact List.mem_map.2 ⟨t, ht, rfl⟩)) h10 rfl rfl fun tm' s11 h11 => ?_
  rw [exX_exit]
  show exB true _ _
  rw [exB_true]
  exact hK _ _ ⟨rfl, h11.tail.tail.tail.tail.tail.tail.tail.tail.tail.tail⟩

/-! ### both are opened -/
set_option maxHeartbeats 1000000 in
theorem bothOpen_t (hG : ShaG G) {kb kd ke nt n : Nat} {d : DS} {rows T : List (List UInt8)} {r : List HP} {s : AS} (hd : d.bs = rows.flatMap recB) (hrl : ∀ row ∈ rows, row.length ≤ 40000) (hrn : rows.length ≤ 1000000) (hbl : d.bs.length ≤ 1000000)
    (h : Hs G (Ob kb (.cells [.ptr (some ⟨.new kd, 0⟩), .ptr none, .ptr (some ⟨.new ke, 0⟩), .ptr none] 0) :: DiskH kd d nt :: RDH ke d.bs n T :: r) s) :
    Ens (fn26 (.ptr (some ⟨.new kb, 0⟩))) s fun u s' => u = .bool true ∧
      (Hs G (Ob kb (.cells [.ptr (some ⟨.new kd, 0⟩), .ptr none, .ptr (some ⟨.new ke, 0⟩), .ptr none] 0) :: r) s' ∨
       ∃ kv km kl t ws d', BothOk rows t ws ∧ d'.bs = d.bs ∧ Hs G (Ob kb (.cells [.ptr (some ⟨.new kd, 0⟩), .ptr (some ⟨.new kv, 0⟩), .ptr (some ⟨.new ke, 0⟩), .ptr (some ⟨.new km, 0⟩)] 0) :: VoterH kv kd (t.with rows) :: DiskH kd d' nt :: RVH km kl t.p t.f ws :: RLH kl ke rows :: RDH ke d.bs d.bs.length T :: r) s') := by
  intro K hK
  unfold fn26 fn26_q
  have a0 : ∀ (s : AS) l, Hs G (Ob kb (.cells [.ptr (some ⟨.new kd, 0⟩), .ptr none, .ptr (some ⟨.new ke, 0⟩), .ptr none] 0) :: l) s → (∀ K, ld1 (.ptr (some ⟨.new kb, 0 + 0⟩)) s K = K (.ptr (some ⟨.new kd, 0⟩)) s) ∧ (∀ K, ld1 (.ptr (some ⟨.new kb, 0 + 2⟩)) s K = K (.ptr (some ⟨.new ke, 0⟩)) s) :=
    fun s l h => ⟨fun K => (ld_t h K).trans rfl, fun K => (ld_t h K).trans rfl⟩
  obtain ⟨b0, _⟩ := a0 _ _ h
  rw [nilV_ptr, optK_some, fp_ptr, optK_some, b0]
  refine dRevive_t (h.pull 1) _ ?_
  rintro _ s1 ⟨rfl, h1⟩
  obtain ⟨_, b2⟩ := a0 _ _ (h1.pull 1)
  rw [optK_some, fp_ptr, optK_some, b2]
  refine qdRevive_t (h1.pull 2) _ ?_
  rintro _ s2 ⟨rfl, h2⟩
  obtain ⟨b0, _⟩ := a0 _ _ (h2.pull 2)
  rw [optK_some, fp_ptr, optK_some, b0]
  obtain ⟨d1, hd1⟩ : ∃ d1 : DS, d1 = ⟨d.bs, d.sy, false, .always⟩ := ⟨_, rfl⟩
  have hd1b : d1.bs = d.bs := by rw [hd1]
  rw [← hd1] at h2
  have hscan : scanF d1.bs = (rows, d1.bs.length, 0) := by rw [hd1b, hd]; exact scan_rows hrl
  refine vOpenG_t hG (d := d1) (by rw [hd1]) hscan (Nat.le_refl _) (by rw [hd1b]; omega) hrl hrn (h2.pull 1) _ ?_
  intro u3 s3 h3
  have hq : ∀ {l : List HP}, Hs G (RDH ke d.bs n T :: l) s3 → Hs G (RDH ke (rows.flatMap recB) n T :: l) s3 := fun h => by rw [← hd]; exact h
  have ext : ∀ a b : V, ∀ (K : V → Prop) s, optK (extractV (.tuple [a, b]) 0) s (fun x s => optK (extractV (.tuple [a, b]) 1) s fun y s => K x) = K a := fun a b K s => rfl
  rcases h3 with ⟨hr3, rfl, h3⟩ | ⟨kv, t, hr3, rfl, h3⟩
  · rw [ext0, List.getElem?_cons_zero, optK_some, ext0, List.getElem?_cons_succ, List.getElem?_cons_zero, optK_some]
    obtain ⟨_, b2⟩ := a0 _ _ (h3.pull 2)
    rw [optK_some, fp_ptr, optK_some, b2]
    refine qOpen_t hrl (by rw [← hd]; omega) hrn (hq (h3.pull 1)) _ ?_
    intro u4 s4 h4
    rcases h4 with ⟨hr4, rfl, h4⟩ | ⟨_, _, t4, _, hr4, _⟩
    · rw [ext0, List.getElem?_cons_zero, optK_some, ext0, List.getElem?_cons_succ, List.getElem?_cons_zero, optK_some, optK_some, fp_ptr, optK_some]
      refine st_t (h4.pull 2) (by simp) rfl fun s5 h5 => ?_
      rw [optK_some, fp_ptr, optK_some]
      refine st_t h5 (by simp) rfl fun s6 h6 => ?_
      rw [bin_eql, optK_some, beq_self_eq_true, grd_true, bin_ptr_nil, optK_some, bin_neq, optK_some]
      exact hK _ _ ⟨rfl, .inl (h6.drop 1 |>.drop 1)⟩
    · rw [hr3] at hr4; cases hr4
  · rw [ext0, List.getElem?_cons_zero, optK_some, ext0, List.getElem?_cons_succ, List.getElem?_cons_zero, optK_some]
    obtain ⟨_, b2⟩ := a0 _ _ (h3.pull 3)
    rw [optK_some, fp_ptr, optK_some, b2]
    refine qOpen_t hrl (by rw [← hd]; omega) hrn (hq (h3.pull 2)) _ ?_
    intro u4 s4 h4
    rcases h4 with ⟨hr4, _⟩ | ⟨km, kl, t4, ws, hr4, rfl, hp, hu, h4⟩
    · rw [hr3] at hr4; cases hr4
    · rw [hr3] at hr4
      cases hr4
      rw [← hd] at h4
      rw [ext0, List.getElem?_cons_zero, optK_some, ext0, List.getElem?_cons_succ, List.getElem?_cons_zero, optK_some, optK_some, fp_ptr, optK_some]
      refine st_t (h4.pull 5) (by simp) rfl fun s5 h5 => ?_
      rw [optK_some, fp_ptr, optK_some]
      refine st_t h5 (by simp) rfl fun s6 h6 => ?_
      rw [bin_eql, optK_some, beq_self_eq_true, grd_true, bin_ptr_nil, optK_some, bin_neq, optK_some]
      refine hK _ _ ⟨rfl, .inr ⟨kv, km, kl, t, ws, d1.cutN d1.bs.length, ⟨hp, hu, runR_floor _ _ _ hr3 (by simp)⟩, ?_, ?_⟩⟩
      · show d1.bs.take _ = _
        rw [List.take_length, hd1b]
      · exact h6.ord [0, 4, 5, 1, 2, 3]
end Go.Proofs.Vt
end
section
/- VoteOpens: what the law returns. -/
namespace Go.Proofs.Vt
open Go Go.Rx Go.Proofs
variable {G : Nat → Option (List V)}

/-- Rows that can be read. -/
def RowsR (G : Nat → Option (List V)) (r : List HP) (v : V) (rows : List (List UInt8)) : Prop := (∃ a c ex, v = .slice a rows.length c ex) ∧ ∀ s, Hs G r s → ∀ (i : Nat) (row : List UInt8), rows[i]? = some row →
  ∃ p x, elemPtr none 1 v (.int .i64 (i : Nat)) = some (.ptr (some p)) ∧ (∀ K, ld1 (.ptr (some p)) s K = K x s) ∧ ((x = .slice none 0 1 true ∧ row = []) ∨ Reads G r x row)
theorem RowsR.cons {r : List HP} {v : V} {rows : List (List UInt8)} (h : RowsR G r v rows) {A : HP} : RowsR G (A :: r) v rows :=
  ⟨h.1, fun s hs i row hr => by obtain ⟨p, x, h1, h2, h3⟩ := h.2 s hs.tail i row hr; exact ⟨p, x, h1, h2, h3.imp id fun h => h.cons⟩⟩
/-- The first bytes of one of them. -/
theorem row_cut {r : List HP} {x : V} {row : List UInt8} {s : AS} (h : Hs G r s) (hx : (x = .slice none 0 1 true ∧ row = []) ∨ Reads G r x row) :
    lenV (some (Kd.slice 5)) x = some (.int .i64 row.length) ∧ ∃ w, sliceSl 1 x none (some (.int .i64 ((min row.length 100 : Nat) : Int))) none = some w ∧ RdX G r w (row.take 100) := by
  rcases hx with ⟨rfl, rfl⟩ | hr
  · exact ⟨rfl, .slice none 0 1 true, rfl, .inr ⟨rfl, rfl⟩⟩
  · obtain ⟨a, c, ex, hv⟩ := rd_slice hr h
    refine ⟨by rw [hv]; rfl, ?_⟩
    obtain ⟨w, e, hw⟩ := hr.cut h (lo := none) (hi := some (.int .i64 ((min row.length 100 : Nat) : Int))) (l := 0) (n := min row.length 100) (by omega) (by omega) (.inl ⟨rfl, rfl⟩) (.inr ⟨.i64, rfl⟩)
    have et : ((row.take (min row.length 100)).drop 0) = row.take 100 := by
      rw [List.drop_zero]
      by_cases hh : row.length ≤ 100
      · rw [Nat.min_eq_left hh, List.take_length, List.take_of_length_le hh]
      · rw [Nat.min_eq_right (by omega)]
    rw [et] at hw
    exact ⟨w, e, .inl hw⟩
/-- The rows that are written. -/
def cutRows (rows : List (List UInt8)) : List (List UInt8) := (rows.take 20).map (·.take 100)
theorem recs_len (l : List (List UInt8)) (n : Nat) (hl : l.length ≤ n) (h : ∀ row ∈ l, row.length ≤ 100) : (l.flatMap recB).length ≤ 108 * n := by
  induction l generalizing n with
  | nil => simp
  | cons a l ih =>
    have h1 := h a (List.mem_cons_self ..)
    have h2 := recB_length a
    obtain ⟨m, rfl⟩ : ∃ m, n = m + 1 := ⟨n - 1, by simp at hl; omega⟩
    have h3 := ih m (by simp at hl; omega) fun row hr => h row (List.mem_cons_of_mem _ hr)
    rw [List.flatMap_cons, List.length_append]
    omega

/-- What the loop over the rows holds. -/
abbrev OpH (G : Nat → Option (List V)) (kb kd ke i : Nat) (l : List (List UInt8)) (T : List (List UInt8)) (r : List HP) (s : AS) : Prop :=
  Hs G (Ob kb (.cells [.ptr (some ⟨.new kd, 0⟩), .ptr none, .ptr (some ⟨.new ke, 0⟩), .ptr none] 0) :: DiskH kd ⟨l.flatMap recB, 0, false, .always⟩ i :: RDH ke (l.flatMap recB) 0 T :: r) s
set_option maxHeartbeats 1000000 in
theorem opensL_t {K : KX} {kb kd ke : Nat} {v : V} {rows : List (List UInt8)} {r : List HP} {s : AS} {tm : Tm} (hr : RowsR G r v rows) (h : OpH G kb kd ke 0 [] [] r s)
    (t0 : tm.getD 0 .junk = v) (t3 : tm.getD 3 .junk = .ptr (some ⟨.new kb, 0⟩)) (t4 : tm.getD 4 .junk = .int .i64 0)
    (hK : ∀ tm' s' n T, OpH G kb kd ke n (cutRows rows) T r s' → tm'.getD 3 .junk = .ptr (some ⟨.new kb, 0⟩) → K (.exit 0) tm' s') :
    loopN LOOPS (fun tm s K => fn5_L1 fn9 fn20 fn21 fn22 fn23 fn24 fn25 fn26 fn27 fn15 (tm.getD 0 .junk) (tm.getD 3 .junk) (tm.getD 4 .junk) s K) tm s K := by
  obtain ⟨⟨va, vc, vex, hv⟩, hel⟩ := hr
  have hlv : lenV (some (Kd.slice 59)) v = some (.int .i64 rows.length) := by rw [hv]; rfl
  have hcr : RowsR G r v rows := ⟨⟨va, vc, vex, hv⟩, hel⟩
  refine loop_rule (fun m tm s1 => ∃ (i : Nat) (T : List (List UInt8)), m + i = min rows.length 20 ∧ T.length = i ∧ OpH G kb kd ke i ((rows.take i).map (·.take 100)) T r s1 ∧
    tm.getD 0 .junk = v ∧ tm.getD 3 .junk = .ptr (some ⟨.new kb, 0⟩) ∧ tm.getD 4 .junk = .int .i64 (i : Nat)) ?_ (m := min rows.length 20) (by omega) ⟨0, [], by omega, rfl, h, t0, t3, t4⟩
  rintro m tm s1 Kn ⟨i, T, hm, hT, h1, t0, t3, t4⟩ hnext
  simp only [t0, t3, t4]
  unfold fn5_L1
  have fin : min rows.length 20 = i → ∀ K', K' = K → nx Kn K' (.exit 0) (jk 3 ((V.ptr (some ⟨.new kb, 0⟩)) :: (jk 70 []))) s1 := by
    rintro hi _ rfl
    rw [nx_exit]
    have e : (rows.take i).map (·.take 100) = cutRows rows := by
      unfold cutRows
      by_cases hh : rows.length ≤ 20
      · rw [List.take_of_length_le (by omega), List.take_of_length_le hh]
      · rw [← hi, Nat.min_eq_right (by omega)]
    rw [e] at h1
    exact hK _ _ _ _ h1 rfl
  rw [hlv, optK_some, bin_lss, optK_some]
  by_cases hi : i < rows.length
  · have d : decide ((i : Int) < (rows.length : Int)) = true := decide_eq_true (by omega)
    rw [d, grd_true, bin_lss, optK_some]
    by_cases h20 : i < 20
    · have d2 : decide ((i : Int) < (20 : Int)) = true := decide_eq_true (by omega)
      have w : IntKind.i64.wrap ((i : Int) + 1) = ((i + 1 : Nat) : Int) := by rw [wrap64 (by omega) (by omega)]; omega
      obtain ⟨row, hrow⟩ : ∃ row, rows[i]? = some row := ⟨_, List.getElem?_eq_getElem hi⟩
      obtain ⟨l, hl⟩ : ∃ l, l = (rows.take i).map (fun row : List UInt8 => row.take 100) := ⟨_, rfl⟩
      rw [← hl] at h1
      obtain ⟨p, x, e1, e2, hx⟩ := hcr.cons.cons.cons.2 s1 h1 i row hrow
      obtain ⟨hxl, y, e3, hy⟩ := row_cut h1 hx
      have emin : foldV min2V (.int .i64 (row.length : Nat)) [.int .i64 100] = some (.int .i64 ((min row.length 100 : Nat) : Int)) := by
        simp only [foldV, min2V]; congr 2; split <;> omega
      have hl100 : (row.take 100).length ≤ 100 := by rw [List.length_take]; omega
      have enew : (rows.take (i + 1)).map (·.take 100) = (rows.take i).map (·.take 100) ++ [row.take 100] := by
        rw [List.take_add_one, hrow, List.map_append]; rfl
      rw [← hl] at enew
      have hll : (l.flatMap recB).length ≤ 108 * 20 := recs_len l 20 (by rw [hl, List.length_map, List.length_take]; omega) fun z hz => by
        rw [hl] at hz
        obtain ⟨q, _, rfl⟩ := List.mem_map.1 hz
        rw [List.length_take]; omega
      have hrl := recB_length (row.take 100)
      rw [d2, condV_true, e1, optK_some, e2, optK_some, e2, hxl, optK_some, emin, optK_some, e3, optK_some]
      refine qRecord_t hy h1 (by omega) _ ?_
      rintro _ s2 ⟨u, rfl, h2⟩
      have b0 : ∀ (s : AS) l, Hs G (Ob kb (.cells [.ptr (some ⟨.new kd, 0⟩), .ptr none, .ptr (some ⟨.new ke, 0⟩), .ptr none] 0) :: l) s → (∀ K, ld1 (.ptr (some ⟨.new kb, 0 + 0⟩)) s K = K (.ptr (some ⟨.new kd, 0⟩)) s) ∧ (∀ K, ld1 (.ptr (some ⟨.new kb, 0 + 2⟩)) s K = K (.ptr (some ⟨.new ke, 0⟩)) s) :=
        fun s l h => ⟨fun K => (ld_t h K).trans rfl, fun K => (ld_t h K).trans rfl⟩
      rw [ext0, List.getElem?_cons_zero, optK_some, ext0, List.getElem?_cons_succ, List.getElem?_cons_zero, optK_some, nilV_ptr, optK_some, fp_ptr, optK_some, (b0 _ _ (h2.pull 1)).1]
      refine Write_t (h2.ord [2]) reads_bytes (by omega) (by omega) _ ?_
      rintro _ s3 ⟨rfl, h3⟩
      have ew : DS.write ⟨l.flatMap recB, 0, false, .always⟩ (recB (row.take 100)) = ⟨l.flatMap recB ++ recB (row.take 100), 0, false, .always⟩ := by
        unfold DS.write
        rw [if_neg (by simp), if_neg (by show ¬ (l.flatMap recB).length + (recB (row.take 100)).length > 1048576; omega)]
      rw [ew] at h3
      rw [optK_some, fp_ptr, optK_some, (b0 _ _ (h3.pull 2)).2]
      refine qdWrite_t (by omega) (by omega) (reads_bytes (G := G) (v := u) (ys := recB (row.take 100))) (h3.ord [3, 1]) _ ?_
      rintro _ s4 ⟨rfl, h4⟩
      rw [bin_add, optK_some, w, nx_nrm]
      have efl : (l ++ [row.take 100]).flatMap recB = l.flatMap recB ++ recB (row.take 100) := by rw [List.flatMap_append]; simp
      refine hnext (m - 1) _ _ (by omega) ⟨i + 1, T ++ [recB (row.take 100)], by omega, by rw [List.length_append, hT]; rfl, ?_, rfl, rfl, rfl⟩
      rw [enew]
      unfold OpH
      rw [efl]
      exact (h4.ord [3, 2, 0]).drop 3
    · have d2 : decide ((i : Int) < (20 : Int)) = false := decide_eq_false (by omega)
      rw [d2, condV_false]
      exact fin (by omega) _ rfl
  · have d : decide ((i : Int) < (rows.length : Int)) = false := decide_eq_false (by omega)
    rw [d, grd_false]
    exact fin (by omega) _ rfl

set_option maxHeartbeats 1000000 in
theorem VoteOpens_t (hG : ShaG G) {v : V} {rows : List (List UInt8)} {r : List HP} {s : AS} (hr : RowsR G r v rows) (h : Hs G r s) :
    Ens (fn5 v) s fun u s' => u = .bool true ∧ Hs G r s' := by
  intro K hK
  unfold fn5 fn5_q
  refine dNew_t h _ ?_
  rintro _ s1 ⟨kd, rfl, h1⟩
  refine qdNew_t h1 _ ?_
  rintro _ s2 ⟨ke, rfl, h2⟩
  have hag : aggO (fillV (placeS [(0, 27), (1, 23), (2, 54), (3, 56)] ty) [V.ptr none, .ptr none, .ptr none, .ptr none] [(0, .ptr (some ⟨.new kd, 0⟩)), (2, .ptr (some ⟨.new ke, 0⟩))]) = some (.agg [.ptr (some ⟨.new kd, 0⟩), .ptr none, .ptr (some ⟨.new ke, 0⟩), .ptr none]) := by
    simp [fillV, placeS, cellsV, spl, aggO]
  rw [hag, optK_some]
  refine boxA_t h2 fun kb s3 h3 => ?_
  refine opensL_t hr (h3.ord [0, 2, 1]) rfl rfl rfl fun tm s4 n T h4 t3 => ?_
  rw [exX_exit]
  show exB true _ _
  rw [exB_true]
  simp only [t3]
  have hcl : ∀ row ∈ cutRows rows, row.length ≤ 100 := fun z hz => by
    obtain ⟨q, _, rfl⟩ := List.mem_map.1 hz
    rw [List.length_take]; omega
  have hcn : (cutRows rows).length ≤ 20 := by unfold cutRows; rw [List.length_map, List.length_take]; omega
  have hcb := recs_len _ 20 hcn hcl
  obtain ⟨l, hl⟩ : ∃ l, l = cutRows rows := ⟨_, rfl⟩
  rw [← hl] at h4 hcl hcn hcb
  have hlb : (l.flatMap recB).length ≤ 1000000 := by omega
  have b0 : ∀ (s : AS) l, Hs G (Ob kb (.cells [.ptr (some ⟨.new kd, 0⟩), .ptr none, .ptr (some ⟨.new ke, 0⟩), .ptr none] 0) :: l) s → (∀ K, ld1 (.ptr (some ⟨.new kb, 0 + 0⟩)) s K = K (.ptr (some ⟨.new kd, 0⟩)) s) ∧ (∀ K, ld1 (.ptr (some ⟨.new kb, 0 + 2⟩)) s K = K (.ptr (some ⟨.new ke, 0⟩)) s) :=
    fun s l h => ⟨fun K => (ld_t h K).trans rfl, fun K => (ld_t h K).trans rfl⟩
  rw [nilV_ptr, optK_some, fp_ptr, optK_some, (b0 _ _ h4).1]
  refine Sync_t (h4.pull 1) _ ?_
  rintro _ s5 ⟨rfl, h5⟩
  have es : DS.sync ⟨l.flatMap recB, 0, false, .always⟩ = ⟨l.flatMap recB, (l.flatMap recB).length, false, .always⟩ := rfl
  rw [es] at h5
  rw [optK_some, fp_ptr, optK_some, (b0 _ _ (h5.pull 1)).2]
  refine qdSync_t (h5.pull 2) _ ?_
  rintro _ s6 ⟨rfl, h6⟩
  refine bothOpen_t hG (d := ⟨l.flatMap recB, (l.flatMap recB).length, false, .always⟩) (rows := l) rfl (fun row hr => by have := hcl row hr; omega) (by omega) hlb (h6.ord [2, 1, 0]) _ ?_
  rintro _ s7 ⟨rfl, h7⟩
  rw [grd_true, optK_some, fp_ptr, optK_some]
  rcases h7 with h7 | ⟨kv, km, kl, t, ws, d', hb, hd', h7⟩
  · have k3 : ∀ K, ld1 (.ptr (some ⟨.new kb, 0 + 3⟩)) s7 K = K (.ptr none) s7 := fun K => (ld_t h7 K).trans rfl
    rw [k3, bin_ptr_nil, optK_some]
    show grd (.bool true) _ _ _
    rw [grd_true]
    refine works_t hG h7.tail _ ?_
    rintro _ s8 ⟨rfl, h8⟩
    exact hK _ _ ⟨rfl, h8⟩
  · have k3 : ∀ K, ld1 (.ptr (some ⟨.new kb, 0 + 3⟩)) s7 K = K (.ptr (some ⟨.new km, 0⟩)) s7 := fun K => (ld_t h7 K).trans rfl
    rw [k3, bin_ptr_nil, optK_some]
    show grd (.bool false) _ _ _
    rw [grd_false]
    rw [← hd'] at h7
    refine bothSame_t (d := d') hb (by rw [hd']; exact hlb) h7 _ ?_
    rintro _ s8 ⟨rfl, h8⟩
    rw [grd_true]
    refine works_t hG h8 _ ?_
    rintro _ s9 ⟨rfl, h9⟩
    exact hK _ _ ⟨rfl, h9⟩
end Go.Proofs.Vt
end
section
/- Arguments that are slices: what their elements' cells are. -/
namespace Go.Proofs.Vt
open Go Go.Rx Go.Proofs

/-- A slice that was there ahead of the call, and the cells of its elements (of `w` cells each). -/
structure ArgSl (G : Nat → Option (List V)) (w : Nat) (t : V) (els : List (List V)) : Prop where
  sl : ∃ a c, t = .slice a els.length c true
  el : ∀ i l, els[i]? = some l → ∃ ob oo cs, elemPtr none w t (.int .i64 (i : Nat)) = some (.ptr (some ⟨.old ob, oo⟩)) ∧ G ob = some cs ∧ oo + w ≤ cs.length ∧ (cs.drop oo).take w = l

theorem argSl_of {H : Type} {enc : TypeId × Value → H} {P : Program} {W : World} {t e : TypeId} {w : Nat} (hw : 0 < w) (ht : P.underlying t = some (.slice e)) (hce : P.cellsOf e = w)
    {base b0 : Nat} {spare : Nat → Bool} {held : Bool} {v : Value} {d : DataW H} {ps : List MemPlace} {r : Reach} (hval : Value.okWide P W r b0 t v) (h : DataW.Trod enc P W base spare held t v d ps) :
    ∃ els : List (List Value), ArgSl (oldOf W) w (cvV v) (els.map (·.map cvV)) ∧ ∀ (i : Nat) (l : List Value), els[i]? = some l → l.length = w ∧ ∃ m y, DataW.trod enc P W base spare held m e l = some y := by
  obtain ⟨fuel, h⟩ := h
  rcases DataW.trod_slice ht h with ⟨hc, _⟩ | ⟨a, len, cap, elems, rest, n, rfl, hc, _, hb, hl, hm, hlen, hel, _, _⟩
  · have hv : v = .slice none 0 0 := by
      cases v <;> simp [Value.cells] at hc <;> simp_all [Value.okWide, Cell.okWide, Cell.ok]
    subst hv
    exact ⟨[], ⟨⟨none, 0, rfl⟩, fun i row hr => by simp at hr⟩, fun i l hl => by simp at hl⟩
  · have hv : v = .slice (some a) len cap := by
      cases v <;> simp [Value.cells] at hc <;> simp_all [Value.okWide, Cell.okWide, Cell.ok]
    subst hv
    have hsp : a.spot = none := by
      unfold Value.okWide at hval
      rw [ht] at hval
      simp only [Cell.okWide, ht] at hval
      simp only [Cell.ok, ht] at hval
      exact hval.2.2.2.1
    obtain ⟨ab, ao, sp⟩ := a
    simp only at hsp
    subst hsp
    have each : ∀ i, i < len → ∃ l, W.cells? base (Addr.add ⟨ab, ao, none⟩ (i * w)) w = some l ∧ ∃ m y, DataW.trod enc P W base spare held m e l = some y := by
      intro i hi
      have hx := hel i hi
      obtain ⟨y, hy⟩ : ∃ y, elems[i]? = some y := ⟨elems[i]'(by omega), by simp [show i < elems.length by omega]⟩
      rw [hy, Option.bind_eq_some_iff, hce] at hx
      obtain ⟨l, hcl, htr⟩ := hx
      exact ⟨l, hcl, _, _, htr⟩
    have hels : ∃ els : List (List Value), els.length = len ∧ ∀ (i : Nat) (l : List Value), els[i]? = some l → W.cells? base (Addr.add ⟨ab, ao, none⟩ (i * w)) w = some l ∧ ∃ m y, DataW.trod enc P W base spare held m e l = some y := by
      refine ⟨(List.range len).map fun i => (W.cells? base (Addr.add ⟨ab, ao, none⟩ (i * w)) w).getD [], by simp, fun i l hl => ?_⟩
      rw [List.getElem?_map] at hl
      obtain ⟨j, hj, e⟩ := Option.map_eq_some_iff.1 hl
      have hi : i < len := by have := (List.getElem?_eq_some_iff.1 hj).1; simpa using this
      rw [List.getElem?_range hi] at hj
      cases hj
      obtain ⟨l', e1, e2⟩ := each i hi
      rw [e1, Option.getD_some] at e
      subst e
      exact ⟨e1, e2⟩
    obtain ⟨els, hell, hels⟩ := hels
    refine ⟨els, ⟨⟨some ⟨.old ab, ao⟩, cap, by rw [List.length_map, hell]; rfl⟩, fun i lv hlv => ?_⟩, fun i l hl => ?_⟩
    · rw [List.getElem?_map] at hlv
      obtain ⟨l, hle, rfl⟩ := Option.map_eq_some_iff.1 hlv
      obtain ⟨hcl, m, y, htr⟩ := hels i l hle
      have hi : i < len := by rw [← hell]; exact (List.getElem?_eq_some_iff.1 hle).1
      obtain ⟨_, hll, hcell⟩ := World.cells?_some hcl
      have h0 := hcell 0 hw
      have each2 : ∀ j, j < w → W.cell? ⟨ab, ao + (i * w + j), none⟩ = l[j]? := by
        intro j hj
        have h2 := hcell j hj
        rw [add_mk, add_mk, Nat.add_assoc] at h2
        exact h2
      have hblk : ∃ cs e' fr, W.heap[ab]? = some (.cells cs e' fr) := by
        have hz0 := (each2 0 hw).trans (List.getElem?_eq_getElem (show 0 < l.length by omega))
        unfold World.cell? at hz0
        simp only at hz0
        split at hz0
        · rename_i cs e' fr hh; exact ⟨cs, e', fr, hh⟩
        · simp at hz0
      obtain ⟨cs, e', fr, hblk⟩ := hblk
      have each3 : ∀ j, j < w → cs.toList[ao + i * w + j]? = l[j]? := by
        intro j hj
        have h2 := each2 j hj
        unfold World.cell? at h2
        simp only [hblk] at h2
        rw [Nat.add_assoc]
        simpa using h2
      have hlast := (each3 (w - 1) (by omega)).trans (List.getElem?_eq_getElem (show w - 1 < l.length by omega))
      have hlen2 := (List.getElem?_eq_some_iff.1 hlast).1
      refine ⟨ab, ao + i * w, cs.toList.map cvV, elem_ok hi (.inl rfl), by unfold oldOf; rw [hblk], by rw [List.length_map]; omega, ?_⟩
      refine List.ext_getElem? fun j => ?_
      by_cases hj : j < w
      · rw [List.getElem?_take_of_lt hj, List.getElem?_drop, List.getElem?_map, List.getElem?_map, each3 j hj]
      · rw [List.getElem?_eq_none (by rw [List.length_take]; omega), List.getElem?_eq_none (by rw [List.length_map]; omega)]
    · obtain ⟨hcl, m, y, htr⟩ := hels i l hl
      exact ⟨(World.cells?_some hcl).2.1, m, y, htr⟩
end Go.Proofs.Vt
end
section
/- Arguments that are rows of bytes. -/
namespace Go.Proofs.Vt
open Go Go.Rx Go.Proofs

theorem spot_none {W : World} {b : Nat} {a : Addr} {l : List Value} (h : W.cells? b a 1 = some l) : a.spot = none ∧ l = [(W.cell? a).getD (.int .u8 0)] ∧ W.cell? a = l[0]? := by
  obtain ⟨_, hl, hc⟩ := World.cells?_some h
  have h0 := hc 0 (by omega)
  have e : Addr.add a 0 = a := by unfold Addr.add; rw [if_pos rfl]
  rw [e] at h0
  match l, hl with
  | [x], _ =>
    have hx : W.cell? a = some x := h0
    refine ⟨?_, by rw [hx]; rfl, h0⟩
    unfold World.cell? at hx
    split at hx
    · split at hx
      · cases hx
      · rename_i hs
        cases h2 : a.spot with
        | none => rfl
        | some sp => rw [h2] at hs; exact absurd rfl hs
    · cases hx

/-- One row: bytes that can be read, or none. -/
theorem argBytes_of {H : Type} {enc : TypeId × Value → H} {P : Program} {W : World} {t e : TypeId} (ht : P.underlying t = some (.slice e)) (he : P.underlying e = some (.int .u8)) (hce : P.cellsOf e = 1)
    {base m : Nat} {held : Bool} {x : Value} {y : DataW H × List MemPlace} (h : DataW.trod enc P W base (fun _ => true) held m t [x] = some y) :
    ∃ row : List UInt8, (cvV x = .slice none 0 1 true ∧ row = []) ∨ ∀ r, Reads (oldOf W) r (cvV x) row := by
  rcases DataW.trod_slice ht h with ⟨hc, _⟩ | ⟨a, len, cap, elems, rest, n, rfl, hc, _, hb, hl, hm, hlen, hel, hsp, _⟩
  · have hx : x = .slice none 0 0 := by simpa using hc
    subst hx
    exact ⟨[], .inr fun r => Reads.nil⟩
  · have hx : x = .slice (some a) len cap := by simpa using hc
    subst hx
    by_cases h0 : cap = 0
    · have hl0 : len = 0 := by omega
      subst h0; subst hl0
      obtain ⟨ab, ao, sp⟩ := a
      cases sp with
      | none => exact ⟨[], .inr fun r s hs => ⟨⟨⟨rfl, by show srcN 1 0 (.slice (some ⟨.old ab, ao⟩) 0 0 true) s = _; simp [srcN], _, _, _, rfl⟩, fun _ _ _ _ e => by cases e; exact Nat.le_refl _⟩, fun _ _ _ _ _ e => by cases e⟩⟩
      | some sp => exact ⟨[], .inl ⟨rfl, rfl⟩⟩
    · have e0 : Addr.add a 0 = a := by unfold Addr.add; rw [if_pos rfl]
      have hspot : a.spot = none := by
        by_cases hl0 : len = 0
        · obtain ⟨hrl, hre⟩ := hsp rfl
          have h1 := hre 0 (by omega)
          have h2 : ((len + 0) * P.cellsOf e) = 0 := by rw [hl0]; omega
          rw [h2, hce, e0] at h1
          obtain ⟨y, hy⟩ : ∃ y, rest[0]? = some y := ⟨rest[0]'(by omega), by simp [show 0 < rest.length by omega]⟩
          rw [hy, Option.bind_eq_some_iff] at h1
          obtain ⟨l, hcl, _⟩ := h1
          exact (spot_none hcl).1
        · have h1 := hel 0 (by omega)
          have h2 : (0 * P.cellsOf e) = 0 := by omega
          rw [h2, hce, e0] at h1
          obtain ⟨y, hy⟩ : ∃ y, elems[0]? = some y := ⟨elems[0]'(by omega), by simp [show 0 < elems.length by omega]⟩
          rw [hy, Option.bind_eq_some_iff] at h1
          obtain ⟨l, hcl, _⟩ := h1
          exact (spot_none hcl).1
      obtain ⟨ab, ao, sp⟩ := a
      simp only at hspot
      subst hspot
      have each : ∀ i, i < len → ∃ z : Int, 0 ≤ z ∧ z < 256 ∧ W.cell? ⟨ab, ao + i, none⟩ = some (.int .u8 z) := by
        intro i hi
        have hx := hel i hi
        obtain ⟨y, hy⟩ : ∃ y, elems[i]? = some y := ⟨elems[i]'(by omega), by simp [show i < elems.length by omega]⟩
        rw [hy, Option.bind_eq_some_iff, hce, Nat.mul_one, add_mk] at hx
        obtain ⟨l, hcl, htr⟩ := hx
        obtain ⟨_, _, hc1⟩ := spot_none hcl
        obtain ⟨z, rfl, _, hwf⟩ := DataW.trod_int he htr
        simp only [Lit.wf, Bool.and_eq_true, decide_eq_true_eq] at hwf
        have h1 : IntKind.u8.min = 0 := rfl
        have h2 : IntKind.u8.max = 255 := rfl
        refine ⟨z, by omega, by omega, hc1⟩
      obtain ⟨zs', hzs⟩ : ∃ f : Nat → Int, ∀ i, i < len → 0 ≤ f i ∧ f i < 256 ∧ W.cell? ⟨ab, ao + i, none⟩ = some (.int .u8 (f i)) := by
        refine ⟨fun i => if hi : i < len then (each i hi).choose else 0, fun i hi => ?_⟩
        simp only [dif_pos hi]
        exact (each i hi).choose_spec
      have hbyte : ∀ i, i < len → cvV (.int .u8 (zs' i)) = byteV (u8v (zs' i)) := by
        intro i hi
        obtain ⟨h1, h2, _⟩ := hzs i hi
        rw [← u8v_byte]
        show V.int .u8 (zs' i) = _
        congr 1
        simp [IntKind.wrap, IntKind.signed, IntKind.bits]
        omega
      refine ⟨(List.range len).map fun i => u8v (zs' i), .inr fun r s hs => ?_⟩
      have hrl : ((List.range len).map fun i => u8v (zs' i)).length = len := by simp
      have hsrc : srcN 1 len (.slice (some ⟨.old ab, ao⟩) len cap true) s = some (((List.range len).map fun i => u8v (zs' i)).map byteV) := by
        simp only [srcN]
        by_cases hl0 : len = 0
        · rw [if_pos (by omega), hl0]; rfl
        · rw [if_neg (by omega), if_pos (.inl trivial)]
          obtain ⟨cs, e', fr, hblk⟩ : ∃ cs e' fr, W.heap[ab]? = some (.cells cs e' fr) := by
            have hz0 := (hzs 0 (by omega)).2.2
            unfold World.cell? at hz0
            simp only at hz0
            split at hz0
            · rename_i cs e' fr hh; exact ⟨cs, e', fr, hh⟩
            · simp at hz0
          have each3 : ∀ j, j < len → cs.toList[ao + j]? = some (.int .u8 (zs' j)) := by
            intro j hj
            have h2 := (hzs j hj).2.2
            unfold World.cell? at h2
            simp only [hblk] at h2
            simpa using h2
          have hlast := each3 (len - 1) (by omega)
          have hlen2 := (List.getElem?_eq_some_iff.1 hlast).1
          have hG : cellsAt s (.old ab) = some (cs.toList.map cvV) := by
            show s.old ab = _
            rw [hs.old]
            unfold oldOf; rw [hblk]
          simp only [ldN, hG]
          rw [if_pos (by rw [List.length_map]; omega)]
          congr 1
          refine List.ext_getElem? fun j => ?_
          by_cases hj : j < len
          · rw [List.getElem?_take_of_lt (by omega), List.getElem?_drop, List.getElem?_map, each3 j hj, List.getElem?_map, List.getElem?_map, List.getElem?_range hj]
            exact congrArg some (hbyte j hj)
          · rw [List.getElem?_eq_none (by rw [List.length_take]; omega), List.getElem?_eq_none (by simp; omega)]
      exact ⟨⟨⟨by show some len = some _; rw [hrl], by rw [hrl]; exact hsrc, ⟨_, _, _, by rw [hrl]; rfl⟩⟩, fun _ _ _ _ e => by cases e; exact hl⟩, fun _ _ _ _ _ e => by cases e⟩

theorem argRowsR_of {H : Type} {enc : TypeId × Value → H} {P : Program} {W : World} {t e eb : TypeId} (ht : P.underlying t = some (.slice e)) (hce : P.cellsOf e = 1) (he : P.underlying e = some (.slice eb)) (heb : P.underlying eb = some (.int .u8)) (hceb : P.cellsOf eb = 1)
    {base b0 : Nat} {held : Bool} {v : Value} {d : DataW H} {ps : List MemPlace} {r : Reach} (hval : Value.okWide P W r b0 t v) (h : DataW.Trod enc P W base (fun _ => true) held t v d ps) :
    ∃ rows : List (List UInt8), RowsR (oldOf W) [] (cvV v) rows := by
  obtain ⟨els, ha, hels⟩ := argSl_of (w := 1) (by decide) ht hce hval h
  have each : ∀ l ∈ els, ∃ row : List UInt8, ∃ x, l = [x] ∧ ((cvV x = .slice none 0 1 true ∧ row = []) ∨ ∀ r, Reads (oldOf W) r (cvV x) row) := by
    intro l hl
    obtain ⟨i, hi⟩ := List.mem_iff_getElem?.1 hl
    obtain ⟨hll, m, y, htr⟩ := hels i l hi
    match l, hll with
    | [x], _ =>
      obtain ⟨row, hrow⟩ := argBytes_of he heb hceb htr
      exact ⟨row, x, rfl, hrow⟩
  obtain ⟨f, hf⟩ : ∃ f : List Value → List UInt8, ∀ l ∈ els, ∃ x, l = [x] ∧ ((cvV x = .slice none 0 1 true ∧ f l = []) ∨ ∀ r, Reads (oldOf W) r (cvV x) (f l)) := by
    classical
    refine ⟨fun l => if hl : l ∈ els then (each l hl).choose else [], fun l hl => ?_⟩
    simp only [dif_pos hl]
    exact (each l hl).choose_spec
  refine ⟨els.map f, ?_, fun s hs i row hrow => ?_⟩
  · obtain ⟨a, c, e⟩ := ha.sl
    exact ⟨a, c, true, by rw [e, List.length_map, List.length_map]⟩
  · rw [List.getElem?_map] at hrow
    obtain ⟨l, hl, rfl⟩ := Option.map_eq_some_iff.1 hrow
    obtain ⟨x, rfl, hx⟩ := hf l (List.mem_of_getElem? hl)
    obtain ⟨ob, oo, cs, h1, h2, h3, h4⟩ := ha.el i _ (by rw [List.getElem?_map, hl]; rfl)
    have hcx : cs[oo]? = some (cvV x) := by
      have h5 : ((cs.drop oo).take 1)[0]? = some (cvV x) := by rw [h4]; rfl
      rw [List.getElem?_take_of_lt (by omega), List.getElem?_drop] at h5
      simpa using h5
    exact ⟨⟨.old ob, oo⟩, cvV x, h1, fun K => old_ld hs h2 hcx K, hx.imp id fun hh => hh []⟩
end Go.Proofs.Vt
end
