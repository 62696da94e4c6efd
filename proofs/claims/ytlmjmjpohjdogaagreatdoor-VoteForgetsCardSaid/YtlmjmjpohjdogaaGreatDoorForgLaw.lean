/- A part of the proof of VoteForgets: what the law's function computes. -/
import Derived.Test.YtlmjmjpohjdogaaGreatDoorTellsLaw
import Derived.Test.YtlmjmjpohjdogaaGreatDoorCF
set_option linter.unusedVariables false
set_option linter.unusedSimpArgs false
section
/- VoteForgets, on the abstract side: plain facts, and the first loop. -/
namespace Go.Proofs.Vt
open Go Go.Rx Go.Proofs
variable {G : Nat → Option (List V)}

/-! ### plain facts -/
theorem sorted_eq : ∀ {l k : List Vo}, l.Perm k → l.Pairwise (fun a b => numOf a < numOf b) → k.Pairwise (fun a b => numOf a < numOf b) → l = k
  | [], k, h, _, _ => (List.Perm.nil_eq h)
  | a :: l, [], h, _, _ => by have := h.length_eq; simp at this
  | a :: l, b :: k, h, hl, hk => by
    have hab : a = b := by
      have ha : a ∈ b :: k := h.mem_iff.1 (List.mem_cons_self ..)
      have hb : b ∈ a :: l := h.mem_iff.2 (List.mem_cons_self ..)
      rcases List.mem_cons.1 ha with e | ha
      · exact e
      · rcases List.mem_cons.1 hb with e | hb
        · exact e.symm
        · have h1 := (List.pairwise_cons.1 hl).1 b hb
          have h2 := (List.pairwise_cons.1 hk).1 a ha
          omega
    subst hab
    rw [sorted_eq (List.Perm.cons_inv h) (List.pairwise_cons.1 hl).2 (List.pairwise_cons.1 hk).2]

/-- What is told from a number on, of what is told from an earlier number on. -/
theorem told_filter {vs ws us : List Vo} {f n : Nat} (hw : Told vs f ws) (hfn : f ≤ n) (hu : Told (vs.filter fun x => decide (n ≤ numOf x)) n us) : us = ws.filter fun x => decide (n ≤ numOf x) := by
  refine sorted_eq ?_ hu.up (hw.up.sublist List.filter_sublist)
  refine hu.perm.trans ?_
  have h1 := hw.perm.filter (fun x => decide (n ≤ numOf x))
  have e1 : (vs.filter fun x => decide (n ≤ numOf x)).filter (fun x => decide (n ≤ numOf x)) = vs.filter fun x => decide (n ≤ numOf x) := by
    rw [List.filter_filter]; congr 1; funext x; simp
  have e2 : (vs.filter fun x => decide (f ≤ numOf x)).filter (fun x => decide (n ≤ numOf x)) = vs.filter fun x => decide (n ≤ numOf x) := by
    rw [List.filter_filter]; congr 1; funext x
    by_cases hx : n ≤ numOf x
    · simp [hx]; omega
    · simp [hx]
  rw [e2] at h1
  rw [e1]
  exact h1.symm

theorem putVo_new {vs : List Vo} {x : Vo} (h : ∀ y ∈ vs, numOf y ≠ numOf x) : putVo vs x = vs ++ [x] := by
  unfold putVo
  rw [if_neg]
  rintro ⟨y, hy, e⟩
  exact h y hy e

/-- Votes of different numbers are put back. -/
theorem run_votes : ∀ (ws : List Vo) (p f : Nat) (vs : List Vo), (∀ x ∈ ws, f ≤ numOf x) → (∀ x ∈ ws, x.b ≤ p) → ((vs ++ ws).map numOf).Nodup → (vs ++ ws).length ≤ 8 → Vst.run ⟨p, f, vs⟩ (ws.map Deed.V) = some ⟨p, f, vs ++ ws⟩
  | [], p, f, vs, _, _, _, _ => by rw [List.append_nil]; rfl
  | x :: ws, p, f, vs, hf, hp, hn, hl => by
    have hne : ∀ y ∈ vs, numOf y ≠ numOf x := fun y hy e => by
      rw [List.map_append, List.map_cons, List.nodup_append] at hn
      exact hn.2.2 (numOf y) (List.mem_map_of_mem hy) (numOf x) (List.mem_cons_self ..) e
    have e1 := putVo_new hne
    have hroom : roomF vs (numOf x) = true := by
      unfold roomF
      have : vs.length < 8 := by rw [List.length_append, List.length_cons] at hl; omega
      rw [decide_eq_true this, Bool.or_true]
    have hst : Vst.step ⟨p, f, vs⟩ (.V x) = some ⟨p, f, vs ++ [x]⟩ := by
      have h1 := hf x (List.mem_cons_self ..)
      have h2 := hp x (List.mem_cons_self ..)
      show (if f ≤ numOf x ∧ roomF vs (numOf x) = true then some (⟨max p x.b, f, putVo vs x⟩ : Vst) else none) = _
      rw [if_pos ⟨h1, hroom⟩, e1, Nat.max_eq_left h2]
    have ih := run_votes ws p f (vs ++ [x]) (fun y hy => hf y (List.mem_cons_of_mem _ hy)) (fun y hy => hp y (List.mem_cons_of_mem _ hy)) (by rw [List.append_assoc]; exact hn) (by rw [List.append_assoc]; exact hl)
    rw [List.map_cons]
    show (match Vst.step ⟨p, f, vs⟩ (.V x) with | some t' => t'.run (ws.map Deed.V) | none => none) = _
    rw [hst]
    dsimp only
    rw [ih, List.append_assoc]; rfl

theorem run_forgot {p f : Nat} {ws : List Vo} (hf : ∀ x ∈ ws, f ≤ numOf x) (hp : ∀ x ∈ ws, x.b ≤ p) (hn : (ws.map numOf).Nodup) (hl : ws.length ≤ 8) :
    Vst.run ⟨0, 0, []⟩ ((if 0 < p then [Deed.P p] else []) ++ [Deed.F f] ++ ws.map Deed.V) = some ⟨p, f, ws⟩ := by
  have h1 := run_votes ws p f [] hf hp (by simpa using hn) (by simpa using hl)
  rw [List.nil_append] at h1
  by_cases h0 : 0 < p
  · rw [if_pos h0]
    show Vst.run ⟨max 0 p, max 0 f, []⟩ (ws.map Deed.V) = _
    rw [Nat.zero_max, Nat.zero_max, h1]
  · have : p = 0 := by omega
    subst this
    rw [if_neg h0]
    show Vst.run ⟨0, max 0 f, []⟩ (ws.map Deed.V) = _
    rw [Nat.zero_max, h1]

/-- What votes may be after some were accepted. -/
structure Few (vs : List Vo) (p : Nat) : Prop where
  num : ∀ x ∈ vs, 1 ≤ numOf x ∧ numOf x ≤ 8
  b : ∀ x ∈ vs, x.b ≤ p
theorem Few.put {vs : List Vo} {p : Nat} (h : Few vs p) {x : Vo} (hp : p ≤ x.b) (hn : 1 ≤ numOf x ∧ numOf x ≤ 8) : Few (putVo vs x) x.b := by
  refine ⟨fun y hy => ?_, fun y hy => ?_⟩
  · rcases putVo_mem hy with rfl | hy
    · exact hn
    · exact h.num y hy
  · rcases putVo_mem hy with rfl | hy
    · exact Nat.le_refl _
    · exact Nat.le_trans (h.b y hy) hp

/-! ### the first loop -/
set_option maxHeartbeats 1000000 in
theorem forgets_loop1 (hG : ShaG G) {K : KX} {kv kd : Nat} {z : Int} {t0 : V} {rows : List (List Int)} (ha : ArgRows G 2 t0 rows) {tm : Tm} {s : AS}
    (h : Hs G [GoodH kv kd 0 0 [] 0] s)
    (e0 : tm.getD 0 .junk = t0) (e1 : tm.getD 1 .junk = .int .i64 z) (e5 : tm.getD 5 .junk = .ptr (some ⟨.new kd, 0⟩)) (e6 : tm.getD 6 .junk = .ptr (some ⟨.new kv, 0⟩)) (e8 : tm.getD 8 .junk = .int .i64 0)
    (hK : ∀ tm' s' p vs m, m ≤ 20 → Few vs p → Hs G [GoodH kv kd p 0 vs m] s' → tm'.getD 1 .junk = .int .i64 z → tm'.getD 5 .junk = .ptr (some ⟨.new kd, 0⟩) → tm'.getD 6 .junk = .ptr (some ⟨.new kv, 0⟩) → K (.exit 0) tm' s') :
    loopN LOOPS (fun tm s K => sealchainlaw15_VoteForgets_L1 disk_New vote_Open sealchainref00_Bring sealchainlaw15_conf vote_Voter_Accept vote_Voter_Votes vote_Voter_Promised vote_Voter_Forget vote_Voter_Floor sealchainref00_EqInts sealchainlaw15_works (tm.getD 0 .junk) (tm.getD 1 .junk) (tm.getD 5 .junk) (tm.getD 6 .junk) (tm.getD 8 .junk) s K) tm s K := by
  obtain ⟨a, c, rfl⟩ := ha.sl
  refine loop_rule (fun mm tm s1 => ∃ (i p : Nat) (vs : List Vo), mm + i = 20 ∧ Few vs p ∧ Hs G [GoodH kv kd p 0 vs i] s1 ∧
      tm.getD 0 .junk = .slice a rows.length c true ∧ tm.getD 1 .junk = .int .i64 z ∧ tm.getD 5 .junk = .ptr (some ⟨.new kd, 0⟩) ∧ tm.getD 6 .junk = .ptr (some ⟨.new kv, 0⟩) ∧ tm.getD 8 .junk = .int .i64 (i : Nat)) ?_ (m := 20) (by omega)
      ⟨0, 0, [], rfl, ⟨by simp, by simp⟩, h, e0, e1, e5, e6, e8⟩
  rintro mm tm s1 Kn ⟨i, p, vs, hmi, hsee, h1, t0, t1, t5, t6, t8⟩ hnext
  simp only [t0, t1, t5, t6, t8]
  unfold sealchainlaw15_VoteForgets_L1
  rw [lenV_slice, optK_some, bin_lss, optK_some]
  by_cases hi : i < rows.length
  · have d1 : decide ((i : Int) < (rows.length : Int)) = true := by simp; omega
    rw [d1, grd_true, bin_lss, optK_some]
    by_cases hi20 : i < 20
    · have d2 : decide ((i : Int) < 20) = true := by simp; omega
      rw [d2, condV_true]
      obtain ⟨row, hrow⟩ : ∃ row, rows[i]? = some row := ⟨rows[i], by simp [hi]⟩
      obtain ⟨hrl, ob, oo, cs, hep, hGb, hcs⟩ := ha.el i row hrow
      obtain ⟨z0, z1, rfl⟩ : ∃ z0 z1, row = [z0, z1] := by
        match row, hrl with
        | [z0, z1], _ => exact ⟨z0, z1, rfl⟩
      have c0 := hcs 0 z0 rfl; have c1 := hcs 1 z1 rfl
      have p0 : elemPtr (some 2) 1 (.ptr (some ⟨.old ob, oo⟩)) (.int .i64 0) = some (.ptr (some ⟨.old ob, oo + 0⟩)) := rfl
      have p1 : elemPtr (some 2) 1 (.ptr (some ⟨.old ob, oo⟩)) (.int .i64 1) = some (.ptr (some ⟨.old ob, oo + 1⟩)) := rfl
      have b50 := bring_lt z0 (n := 50) (by omega)
      have b8 := bring_lt z1 (n := 8) (by omega)
      have hb50 : ∀ s K, sealchainref00_Bring (iV z0) (.int .i64 50) s K = K (.int .i64 (bring z0 50)) s := fun s K => Bring_t z0 (n := 50) (by omega) (by omega) s K
      have hb8 : ∀ s K, sealchainref00_Bring (iV z1) (.int .i64 8) s K = K (.int .i64 (bring z1 8)) s := fun s K => Bring_t z1 (n := 8) (by omega) (by omega) s K
      have w1 : IntKind.i64.wrap (1 + (bring z0 50 : Int)) = ((1 + bring z0 50 : Nat) : Int) := by rw [wrap64 (by omega) (by omega)]; omega
      have w2 : IntKind.i64.wrap (1 + (bring z1 8 : Int)) = ((1 + bring z1 8 : Nat) : Int) := by rw [wrap64 (by omega) (by omega)]; omega
      have w4 : IntKind.i64.wrap ((i : Int) + 1) = ((i + 1 : Nat) : Int) := by rw [wrap64 (by omega) (by omega)]; omega
      rw [hep, optK_some, p0, optK_some, old_ld h1 hGb c0, hb50, bin_add, optK_some, w1, optK_some, p1, optK_some, old_ld h1 hGb c1, old_holds rfl h1 hGb c1 (by simp [iV, sameV, same0]), chkB_true, hb8, bin_add, optK_some, w2]
      refine conf_t (n := 1 + bring z1 8) (by omega) (i : Int) h1 _ ?_
      rintro _ s2 ⟨cv, rfl, h2⟩
      obtain ⟨x, hx⟩ : ∃ x : Vo, x = ⟨1 + bring z0 50, ⟨1 + bring z1 8, 1, [10 + bring (i : Int) 4]⟩⟩ := ⟨_, rfl⟩
      have hxok : x.ok := by rw [hx]; exact conf_ok (by omega) (by omega) (i : Int)
      have xb : x.b = 1 + bring z0 50 := by rw [hx]
      have xn : numOf x = 1 + bring z1 8 := by rw [hx]; rfl
      have xc : x.c = ⟨1 + bring z1 8, 1, [10 + bring (i : Int) 4]⟩ := by rw [hx]
      rw [← xc, ← xb]
      have h2' : Hs G (GoodH kv kd p 0 vs i :: NatsH cv x.c.chain :: []) s2 := by rw [xc]; exact h2.ord [1, 0]
      refine gAccept hG hxok (by omega) h2' _ ?_
      rintro _ s3 ⟨rfl, h3⟩
      rw [bin_add, optK_some, w4, nx_nrm]
      by_cases hacc : gAcc p 0 vs x = true
      · rw [hacc, if_pos rfl, if_pos rfl] at h3
        have hpb : p ≤ x.b := by unfold gAcc at hacc; simp at hacc; exact hacc.1
        exact hnext (20 - (i + 1)) _ _ (by omega) ⟨i + 1, x.b, putVo vs x, by omega, hsee.put hpb (by omega), h3, rfl, rfl, rfl, rfl, rfl⟩
      · rw [if_neg hacc, if_neg hacc] at h3
        exact hnext (20 - (i + 1)) _ _ (by omega) ⟨i + 1, p, vs, by omega, hsee, h3, rfl, rfl, rfl, rfl, rfl⟩
    · have d2 : decide ((i : Int) < 20) = false := by simp; omega
      rw [d2, condV_false, nx_exit]
      exact hK _ _ p vs i (by omega) hsee h1 rfl rfl rfl
  · have d1 : decide ((i : Int) < (rows.length : Int)) = false := by simp; omega
    rw [d1, grd_false, nx_exit]
    exact hK _ _ p vs i (by omega) hsee h1 rfl rfl rfl

/-! ### the second loop -/
theorem EqInts_t {a b : V} {l : List Int} {r1 r2 : List HP} {s : AS} (h1 : Hs G (IntsH a l :: r1) s) (h2 : Hs G (IntsH b l :: r2) s) (hl : l.length ≤ 1000000) (K : K0) (hK : K (.bool true) s) : sealchainref00_EqInts a b s K := by
  obtain ⟨aa, ac, aex, rfl⟩ := slH_slice h1
  obtain ⟨ba, bc, bex, rfl⟩ := slH_slice h2
  unfold sealchainref00_EqInts sealchainref00_EqInts_q
  rw [lenV_slice, optK_some, lenV_slice, optK_some, bin_neq, optK_some, bne_self_eq_false, condV_false]
  refine loop_rule (fun m tm s1 => ∃ i : Nat, m + i = l.length ∧ s1 = s ∧ tm.getD 0 .junk = .slice aa l.length ac aex ∧ tm.getD 1 .junk = .slice ba l.length bc bex ∧ tm.getD 5 .junk = .int .i64 (i : Nat)) ?_ (m := l.length) (by omega) ⟨0, by omega, rfl, rfl, rfl, rfl⟩
  rintro m tm s1 Kn ⟨i, hm, rfl, t0, t1, t5⟩ hnext
  simp only [t0, t1, t5]
  unfold sealchainref00_EqInts_L1
  rw [lenV_slice, optK_some, bin_lss, optK_some]
  by_cases hi : i < l.length
  · have d1 : decide ((i : Int) < (l.length : Int)) = true := decide_eq_true (by omega)
    have w1 : IntKind.i64.wrap ((i : Int) + 1) = ((i + 1 : Nat) : Int) := by rw [wrap64 (by omega) (by omega)]; omega
    have hx : (l.map iV)[i]? = some (iV l[i]) := by rw [List.getElem?_map, List.getElem?_eq_getElem hi]; rfl
    obtain ⟨p, ep, lp⟩ := elem1_t h1 hx .i64
    obtain ⟨q, eq, lq⟩ := elem1_t h2 hx .i64
    rw [d1, condV_true, ep, optK_some, lp, eq, optK_some, lq]
    show optK (binV .neq _ _ (.int .i64 l[i]) (.int .i64 l[i])) _ _
    rw [bin_neq, optK_some, bne_self_eq_false, condV_false, bin_add, optK_some, w1, nx_nrm]
    exact hnext (l.length - (i + 1)) _ _ (by omega) ⟨i + 1, by omega, rfl, rfl, rfl, rfl⟩
  · have d1 : decide ((i : Int) < (l.length : Int)) = false := decide_eq_false (by omega)
    rw [d1, condV_false, nx_exit, exX_exit]
    exact hK

theorem filter_at {P : Vo → Bool} {W : List Vo} {i : Nat} {x : Vo} (hx : W[i]? = some x) (hp : P x = true) : (W.filter P)[((W.take i).filter P).length]? = some x := by
  have hi := (List.getElem?_eq_some_iff.1 hx).1
  have e : W = W.take i ++ x :: W.drop (i + 1) := by
    have h1 : x :: W.drop (i + 1) = W.drop i := by
      rw [List.drop_eq_getElem_cons hi]
      rw [List.getElem?_eq_getElem hi] at hx
      rw [Option.some.inj hx]
    rw [h1, List.take_append_drop]
  have e2 : W.filter P = (W.take i).filter P ++ x :: (W.drop (i + 1)).filter P := by
    conv => lhs; rw [e]
    rw [List.filter_append, List.filter_cons, if_pos hp]
  rw [e2, List.getElem?_append_right (Nat.le_refl _), Nat.sub_self]; rfl

set_option maxHeartbeats 1000000 in
theorem forgets_loop2 {K : KX} {n : Nat} {u9 u13 u14 : V} {ws : List Vo} (hwl : ws.length ≤ 1000) (hcl : ∀ x ∈ ws, x.c.chain.length ≤ 4) {tm : Tm} {s : AS} {r9 r13 r14 : List HP}
    (h9 : Hs G (VotesH u9 ws :: r9) s) (h13 : Hs G (VotesH u13 (ws.filter fun x => decide (n ≤ numOf x)) :: r13) s) (h14 : Hs G (VotesH u14 (ws.filter fun x => decide (n ≤ numOf x)) :: r14) s)
    (e1 : tm.getD 1 .junk = .int .i64 n) (e9 : tm.getD 9 .junk = u9) (e13 : tm.getD 13 .junk = u13) (e14 : tm.getD 14 .junk = u14) (e15 : tm.getD 15 .junk = .int .i64 0) (e16 : tm.getD 16 .junk = .int .i64 0)
    (hK : ∀ tm', tm'.getD 13 .junk = u13 → tm'.getD 14 .junk = u14 → tm'.getD 15 .junk = .int .i64 (ws.filter fun x => decide (n ≤ numOf x)).length → K (.exit 2) tm' s) :
    loopN LOOPS (fun tm s K => sealchainlaw15_VoteForgets_L2 disk_New vote_Open sealchainref00_Bring sealchainlaw15_conf vote_Voter_Accept vote_Voter_Votes vote_Voter_Promised vote_Voter_Forget vote_Voter_Floor sealchainref00_EqInts sealchainlaw15_works (tm.getD 1 .junk) (tm.getD 9 .junk) (tm.getD 13 .junk) (tm.getD 14 .junk) (tm.getD 15 .junk) (tm.getD 16 .junk) s K) tm s K := by
  obtain ⟨a9, c9, x9, rfl⟩ := VotesH.slice h9
  obtain ⟨a13, c13, x13, rfl⟩ := VotesH.slice h13
  obtain ⟨a14, c14, x14, rfl⟩ := VotesH.slice h14
  obtain ⟨P, hP⟩ : ∃ P : Vo → Bool, P = fun x => decide (n ≤ numOf x) := ⟨_, rfl⟩
  rw [← hP] at h13 h14 e13 e14 hK
  refine loop_rule (fun mm tm s1 => ∃ i : Nat, mm + i = ws.length ∧ s1 = s ∧ tm.getD 1 .junk = .int .i64 n ∧ tm.getD 9 .junk = .slice a9 ws.length c9 x9 ∧ tm.getD 13 .junk = .slice a13 (ws.filter P).length c13 x13 ∧ tm.getD 14 .junk = .slice a14 (ws.filter P).length c14 x14 ∧
      tm.getD 15 .junk = .int .i64 ((ws.take i).filter P).length ∧ tm.getD 16 .junk = .int .i64 (i : Nat)) ?_ (m := ws.length) (by omega) ⟨0, by omega, rfl, e1, e9, e13, e14, e15, e16⟩
  rintro mm tm s1 Kn ⟨i, hmi, rfl, t1, t9, t13, t14, t15, t16⟩ hnext
  simp only [t1, t9, t13, t14, t15, t16]
  unfold sealchainlaw15_VoteForgets_L2
  rw [lenV_slice, optK_some, bin_lss, optK_some]
  by_cases hi : i < ws.length
  · have d1 : decide ((i : Int) < (ws.length : Int)) = true := decide_eq_true (by omega)
    have w1 : IntKind.i64.wrap ((i : Int) + 1) = ((i + 1 : Nat) : Int) := by rw [wrap64 (by omega) (by omega)]; omega
    obtain ⟨x, hx⟩ : ∃ x, ws[i]? = some x := ⟨ws[i], by simp [hi]⟩
    have hch4 := hcl x (List.mem_of_getElem? hx)
    obtain ⟨b9, o9, v9, r9', ee9, l9, _, hn9⟩ := votes_elem h9 hx .i64
    have l9n : ∀ K : K0, ld1 (.ptr (some ⟨b9, o9 + 1 + 0⟩)) s1 K = K (.int .i64 x.c.num) s1 := fun K => l9 1 _ K rfl
    have l9b : ∀ K : K0, ld1 (.ptr (some ⟨b9, o9 + 0⟩)) s1 K = K (.int .i64 x.b) s1 := fun K => l9 0 _ K rfl
    have l9v : ∀ K : K0, ld1 (.ptr (some ⟨b9, o9 + 1 + 2⟩)) s1 K = K v9 s1 := fun K => l9 3 _ K rfl
    have etake : (ws.take (i + 1)).filter P = (ws.take i).filter P ++ if P x = true then [x] else [] := by
      rw [List.take_add_one, hx, List.filter_append]
      congr 1
      show List.filter P [x] = _
      rw [List.filter_cons]; rfl
    rw [d1, condV_true, ee9, optK_some, fp_ptr, optK_some, fp_ptr, optK_some, l9n, bin_lss, optK_some]
    by_cases hlt : numOf x < n
    · have d2 : decide ((x.c.num : Int) < (n : Int)) = true := by unfold numOf at hlt; exact decide_eq_true (by omega)
      have hpx : ¬ P x = true := by rw [hP]; simp; omega
      rw [d2, condV_true, bin_add, optK_some, w1, nx_nrm]
      refine hnext (ws.length - (i + 1)) _ _ (by omega) ⟨i + 1, by omega, rfl, rfl, rfl, rfl, rfl, ?_, rfl⟩
      rw [etake, if_neg hpx, List.append_nil]; rfl
    · have d2 : decide ((x.c.num : Int) < (n : Int)) = false := by unfold numOf at hlt; exact decide_eq_false (by omega)
      have hpx : P x = true := by rw [hP]; simp; omega
      have hk := filter_at hx hpx
      have hklt := (List.getElem?_eq_some_iff.1 hk).1
      have hkle : (ws.filter P).length ≤ 1000 := Nat.le_trans (List.length_filter_le _ _) hwl
      obtain ⟨k, hkk⟩ : ∃ k, k = ((ws.take i).filter P).length := ⟨_, rfl⟩
      rw [← hkk] at hk hklt ⊢
      have d3 : decide ((k : Int) ≥ ((ws.filter P).length : Int)) = false := decide_eq_false (by omega)
      have w2 : IntKind.i64.wrap ((k : Int) + 1) = ((k + 1 : Nat) : Int) := by rw [wrap64 (by omega) (by omega)]; omega
      obtain ⟨b13, o13, v13, r13', ee13, l13, _, hn13⟩ := votes_elem h13 hk .i64
      obtain ⟨b14, o14, v14, r14', ee14, l14, _, hn14⟩ := votes_elem h14 hk .i64
      have l13n : ∀ K : K0, ld1 (.ptr (some ⟨b13, o13 + 1 + 0⟩)) s1 K = K (.int .i64 x.c.num) s1 := fun K => l13 1 _ K rfl
      have l13b : ∀ K : K0, ld1 (.ptr (some ⟨b13, o13 + 0⟩)) s1 K = K (.int .i64 x.b) s1 := fun K => l13 0 _ K rfl
      have l14n : ∀ K : K0, ld1 (.ptr (some ⟨b14, o14 + 1 + 0⟩)) s1 K = K (.int .i64 x.c.num) s1 := fun K => l14 1 _ K rfl
      have l14b : ∀ K : K0, ld1 (.ptr (some ⟨b14, o14 + 0⟩)) s1 K = K (.int .i64 x.b) s1 := fun K => l14 0 _ K rfl
      have l14v : ∀ K : K0, ld1 (.ptr (some ⟨b14, o14 + 1 + 2⟩)) s1 K = K v14 s1 := fun K => l14 3 _ K rfl
      have f1 : ∀ z : Int, (z != z) = false := fun z => by simp
      rw [d2, condV_false, lenV_slice, optK_some, bin_geq, optK_some, d3, grd_false, lenV_slice, optK_some, bin_geq, optK_some, d3, grd_false]
      rw [ee13, optK_some, fp_ptr, optK_some, l13b, optK_some, fp_ptr, optK_some, l9b, bin_neq, optK_some, f1, grd_false]
      rw [ee14, optK_some, fp_ptr, optK_some, l14b, optK_some, fp_ptr, optK_some, l9b, bin_neq, optK_some, f1, grd_false]
      rw [optK_some, fp_ptr, optK_some, fp_ptr, optK_some, l13n, optK_some, fp_ptr, optK_some, fp_ptr, optK_some, l9n, bin_neq, optK_some, f1, grd_false]
      rw [optK_some, fp_ptr, optK_some, fp_ptr, optK_some, l14n, optK_some, fp_ptr, optK_some, fp_ptr, optK_some, l9n, bin_neq, optK_some, f1, grd_false]
      rw [optK_some, fp_ptr, optK_some, fp_ptr, optK_some, l14v, optK_some, fp_ptr, optK_some, fp_ptr, optK_some, l9v]
      refine EqInts_t hn14 hn9 (by rw [List.length_map]; omega) _ ?_
      rw [un_not, optK_some]
      show condV (.bool false) _ _
      rw [condV_false, bin_add, optK_some, w2, bin_add, optK_some, w1, nx_nrm]
      refine hnext (ws.length - (i + 1)) _ _ (by omega) ⟨i + 1, by omega, rfl, rfl, rfl, rfl, rfl, ?_, rfl⟩
      rw [etake, if_pos hpx, List.length_append, ← hkk]; rfl
  · have hil : i = ws.length := by omega
    have d1 : decide ((i : Int) < (ws.length : Int)) = false := decide_eq_false (by omega)
    rw [d1, condV_false, nx_exit]
    refine hK _ rfl rfl ?_
    rw [hil, List.take_length]; rfl
end Go.Proofs.Vt
end
section
/- VoteForgets, on the abstract side. -/
namespace Go.Proofs.Vt
open Go Go.Rx Go.Proofs
variable {G : Nat → Option (List V)}

def forgDs (p below : Nat) (ws : List Vo) : List Deed := (if 0 < p then [Deed.P p] else []) ++ [Deed.F below] ++ ws.map Deed.V
theorem forgDs_row (p below : Nat) (ws : List Vo) : (forgDs p below ws).map Deed.row = (if 0 < p then [rowP p] else []) ++ [rowF below] ++ ws.map rowV := by
  unfold forgDs
  by_cases h : 0 < p
  · rw [if_pos h, if_pos h, List.map_append, List.map_append, List.map_map]; rfl
  · rw [if_neg h, if_neg h, List.map_append, List.map_append, List.map_map]; rfl
theorem forgDs_ok {p below : Nat} {ws : List Vo} (hp : p ≤ 9007199254740991) (hb : 1 ≤ below ∧ below ≤ 9007199254740991) (hw : ∀ x ∈ ws, x.ok) : ∀ x ∈ forgDs p below ws, x.ok := by
  intro x hx
  unfold forgDs at hx
  rw [List.mem_append, List.mem_append] at hx
  rcases hx with (hx | hx) | hx
  · by_cases h : 0 < p
    · rw [if_pos h] at hx
      rw [List.mem_singleton.1 hx]; exact ⟨by omega, hp⟩
    · rw [if_neg h] at hx; simp at hx
  · rw [List.mem_singleton.1 hx]; exact hb
  · obtain ⟨y, hy, rfl⟩ := List.mem_map.1 hx
    exact hw y hy
theorem forgDs_len (p below : Nat) (ws : List Vo) : (forgDs p below ws).length ≤ ws.length + 2 := by
  unfold forgDs
  by_cases h : 0 < p
  · rw [if_pos h]; simp
  · rw [if_neg h]; simp

set_option maxHeartbeats 1000000 in
theorem VoteForgets_law (hG : ShaG G) {t0 : V} {rows : List (List Int)} (ha : ArgRows G 2 t0 rows) (z : Int) {s : AS} (h : Hs G [] s) : Ens (sealchainlaw15_VoteForgets t0 (.int .i64 z)) s fun u _ => u = .bool true := by
  intro K hK
  unfold sealchainlaw15_VoteForgets sealchainlaw15_VoteForgets_q
  refine dNew_t h _ ?_
  rintro _ s0 ⟨kd, rfl, h0⟩
  refine vOpen0_t rfl rfl h0 _ ?_
  rintro _ s1 ⟨kv, rfl, h1⟩
  have h1' : Hs G [GoodH kv kd 0 0 [] 0] s1 := GoodH.iff.2 ⟨_, _, ⟨rfl, rfl, rfl, rfl, ⟨rfl, rfl, by simp [DS.cutN]⟩, by simp, by simp [DS.cutN], by omega⟩, h1⟩
  have d0 : ((0 : Int) != 0) = false := by decide
  have b10 := bring_lt z (n := 10) (by omega)
  have hb10 : ∀ s K, sealchainref00_Bring (.int .i64 z) (.int .i64 10) s K = K (.int .i64 (bring z 10)) s := fun s K => Bring_t z (n := 10) (by omega) (by omega) s K
  have w1 : IntKind.i64.wrap (1 + (bring z 10 : Int)) = ((1 + bring z 10 : Nat) : Int) := by rw [wrap64 (by omega) (by omega)]; omega
  rw [ext0, List.getElem?_cons_zero, optK_some, ext0, List.getElem?_cons_succ, List.getElem?_cons_zero, optK_some, bin_neq, optK_some, d0, grd_false, bin_ptr_nil, Option.isNone_some, optK_some, condV_false]
  refine forgets_loop1 hG (kv := kv) (kd := kd) (z := z) ha h1' rfl rfl rfl rfl rfl ?_
  intro tm s4 p vs m hm hfew h4 e1 e5 e6
  rw [exX_exit]
  show exB true _ _
  rw [exB_true, e1, e5, e6]
  obtain ⟨hnd, hvo⟩ := good_nodup h4
  have hvl := good_len h4
  obtain ⟨below, hbelow⟩ : ∃ below, below = 1 + bring z 10 := ⟨_, rfl⟩
  refine gVotes h4 _ ?_
  rintro u9 s5 ⟨ws0, hw0, h5⟩
  rw [gPromised (h5.pull 1), hb10, bin_add, optK_some, w1, ← hbelow]
  refine gForget hG (below := below) (by omega) (by omega) (by omega) (h5.pull 1) _ ?_
  rintro _ s6 ⟨rfl, ws, S, d, hw, hgok, hrows, h6⟩
  have f1 : ∀ z : Int, (z != z) = false := fun z => by simp
  have hSp : S.p ≤ 9007199254740991 := by
    obtain ⟨_, _, hok, _⟩ := VoterH.iff.1 h6
    exact hok.p
  rw [hgok.p] at hSp
  have hmem : ∀ x ∈ ws, x ∈ vs ∧ below ≤ numOf x := fun x hx => by
    have := hw.perm.mem_iff.1 hx
    rw [List.mem_filter] at this
    simpa using this
  have hwl : ws.length ≤ 8 := by
    have h1 := hw.perm.length_eq
    have h2 := List.length_filter_le (fun x => decide (below ≤ numOf x)) vs
    omega
  have hwl0 : ws0.length ≤ 8 := by
    have h1 := hw0.perm.length_eq
    have h2 := List.length_filter_le (fun x => decide (0 ≤ numOf x)) vs
    omega
  have hdok := forgDs_ok (p := p) (below := below) (ws := ws) hSp (by omega) fun x hx => hvo x (hmem x hx).1
  have hdlen := forgDs_len p below ws
  have hbs : d.bs = ((forgDs p below ws).map Deed.row).flatMap recB := by rw [hgok.disk, hrows, forgDs_row]
  have hscan : scanF d.bs = ((forgDs p below ws).map Deed.row, d.bs.length, 0) := by
    rw [hbs]
    exact scan_rows fun row hrow => by
      obtain ⟨x, hx, rfl⟩ := List.mem_map.1 hrow
      exact deed_row (hdok x hx)
  have hbl := hgok.dg.len
  have hnodup : (ws.map numOf).Nodup := by
    have : (ws.map numOf).Pairwise (· < ·) := List.pairwise_map.2 hw.up
    exact this.imp fun h => Nat.ne_of_lt h
  have hrun : Vst.run ⟨0, 0, []⟩ (forgDs p below ws) = some ⟨p, below, ws⟩ := run_forgot (fun x hx => (hmem x hx).2) (fun x hx => hfew.b x (hmem x hx).1) hnodup hwl
  rw [bin_neq, optK_some, d0, grd_false, Promised_t h6, hgok.p, bin_neq, optK_some, f1, grd_false, Floor_t h6, hgok.f, bin_neq, optK_some, f1, condV_false]
  refine vOpen_t hG hgok.dg.dead hscan (Nat.le_refl _) (by omega) hdok (by omega) hrun (h6.pull 1) _ ?_
  rintro _ s7 ⟨kw, rfl, h7⟩
  rw [ext0, List.getElem?_cons_zero, optK_some, ext0, List.getElem?_cons_succ, List.getElem?_cons_zero, optK_some, bin_neq, optK_some, d0, grd_false, bin_ptr_nil, Option.isNone_some, optK_some, grd_false]
  rw [Promised_t h7]
  show optK (binV .neq _ _ (.int .i64 p) (.int .i64 p)) _ _
  rw [bin_neq, optK_some, f1, grd_false, Floor_t h7]
  show optK (binV .neq _ _ (.int .i64 below) (.int .i64 below)) _ _
  rw [bin_neq, optK_some, f1, condV_false]
  refine Votes_t (h7.pull 2) _ ?_
  rintro u13 s8 ⟨us, hus, h8⟩
  rw [hgok.v, hgok.f] at hus
  refine Votes_t (h8.pull 2) _ ?_
  rintro u14 s9 ⟨us2, hus2, h9⟩
  have hus2' : Told ws below us2 := hus2
  have eus := told_filter hw0 (Nat.zero_le below) hus
  have eus2 := told_filter hw0 (Nat.zero_le below) (us := us2) ⟨hus2'.up, hus2'.perm.trans (hw.perm.filter _)⟩
  rw [eus] at h9
  rw [eus2] at h9
  refine forgets_loop2 (n := below) (ws := ws0) (by omega) (fun x hx => ?_) (h9.pull 5) (h9.pull 2) h9 rfl rfl rfl rfl rfl rfl ?_
  · have hx' : x ∈ vs := by
      have := hw0.perm.mem_iff.1 hx
      exact (List.mem_filter.1 this).1
    exact (hvo x hx').c.len.2
  intro tm2 f13 f14 f15
  rw [exX_exit]
  show exB true _ _
  rw [exB_true, f13, f14, f15]
  obtain ⟨a13, c13, x13, rfl⟩ := VotesH.slice (h9.pull 2)
  obtain ⟨a14, c14, x14, rfl⟩ := VotesH.slice h9
  have ft : ∀ z : Int, (z == z) = true := fun z => by simp
  rw [lenV_slice, optK_some, bin_eql, optK_some, ft, grd_true, lenV_slice, optK_some, bin_eql, optK_some, ft, grd_true]
  refine works_t hG h9 _ ?_
  rintro _ s10 ⟨rfl, _⟩
  exact hK _ _ rfl
end Go.Proofs.Vt
end
