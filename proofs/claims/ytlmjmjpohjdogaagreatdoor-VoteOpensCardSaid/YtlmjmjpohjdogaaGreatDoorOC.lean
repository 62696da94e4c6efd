/- A part of the proof of VoteOpens: contracts of the document's voter. -/
import Derived.Test.YtlmjmjpohjdogaaGreatDoorOB
import Derived.Test.YtlmjmjpohjdogaaGreatDoorForgGen
import Derived.Test.YtlmjmjpohjdogaaGreatDoorF4
set_option linter.unusedVariables false
set_option linter.unusedSimpArgs false
section
/- The document's voter (package sealchainref15): votes in their order. -/
namespace Go.Proofs.Vt
open Go Go.Rx Go.Proofs
variable {G : Nat → Option (List V)}

/-! ### plain facts -/
abbrev Up (ws : List Vo) : Prop := ws.Pairwise (fun a b => numOf a < numOf b)
theorem putVo_at {A B : List Vo} {x y : Vo} (hu : Up (A ++ y :: B)) (e : numOf y = numOf x) : putVo (A ++ y :: B) x = A ++ x :: B := by
  obtain ⟨_, h2, h3⟩ := List.pairwise_append.1 hu
  have h2' := List.pairwise_cons.1 h2
  unfold putVo
  rw [if_pos ⟨y, by simp, e⟩, List.map_append, List.map_cons, if_pos e]
  have hA : A.map (fun z => if numOf z = numOf x then x else z) = A := by
    refine (List.map_congr_left fun z hz => ?_).trans (List.map_id A)
    have := h3 z hz y (by simp)
    rw [if_neg (by omega)]; rfl
  have hB : B.map (fun z => if numOf z = numOf x then x else z) = B := by
    refine (List.map_congr_left fun z hz => ?_).trans (List.map_id B)
    have := h2'.1 z hz
    rw [if_neg (by omega)]; rfl
  rw [hA, hB]
theorem up_swap {A B : List Vo} {x y : Vo} (hu : Up (A ++ y :: B)) (e : numOf y = numOf x) : Up (A ++ x :: B) := by
  obtain ⟨h1, h2, h3⟩ := List.pairwise_append.1 hu
  have h2' := List.pairwise_cons.1 h2
  refine List.pairwise_append.2 ⟨h1, List.pairwise_cons.2 ⟨fun z hz => by have := h2'.1 z hz; omega, h2'.2⟩, fun a ha b hb => ?_⟩
  rcases List.mem_cons.1 hb with rfl | hb
  · have := h3 a ha y (by simp); omega
  · exact h3 a ha b (List.mem_cons_of_mem _ hb)
theorem up_mid {A B : List Vo} {x : Vo} (hu : Up (A ++ B)) (hA : ∀ y ∈ A, numOf y < numOf x) (hB : ∀ y ∈ B, numOf x < numOf y) : Up (A ++ x :: B) := by
  obtain ⟨h1, h2, h3⟩ := List.pairwise_append.1 hu
  refine List.pairwise_append.2 ⟨h1, List.pairwise_cons.2 ⟨hB, h2⟩, fun a ha b hb => ?_⟩
  rcases List.mem_cons.1 hb with rfl | hb
  · exact hA a ha
  · exact h3 a ha b hb
theorem putVo_mid {A B : List Vo} {x : Vo} (hA : ∀ y ∈ A, numOf y < numOf x) (hB : ∀ y ∈ B, numOf x < numOf y) : (A ++ x :: B).Perm (putVo (A ++ B) x) := by
  rw [putVo_new (fun y hy => by
    rcases List.mem_append.1 hy with hy | hy
    · have := hA y hy; omega
    · have := hB y hy; omega)]
  exact List.perm_middle.trans (List.perm_append_singleton _ _).symm
theorem putVo_perm' {v w : List Vo} (h : v.Perm w) (x : Vo) : (putVo v x).Perm (putVo w x) := by
  unfold putVo
  by_cases hc : ∃ y ∈ v, numOf y = numOf x
  · have hc' : ∃ y ∈ w, numOf y = numOf x := hc.imp fun y hy => ⟨h.mem_iff.1 hy.1, hy.2⟩
    rw [if_pos hc, if_pos hc']; exact h.map _
  · have hc' : ¬ ∃ y ∈ w, numOf y = numOf x := fun hh => hc (hh.imp fun y hy => ⟨h.mem_iff.2 hy.1, hy.2⟩)
    rw [if_neg hc, if_neg hc']; exact h.append_right _
theorem room_perm' {v w : List Vo} (h : v.Perm w) (n : Nat) : roomF v n = roomF w n := by
  unfold roomF
  rw [h.any_eq, h.length_eq]
theorem room_len (ws : List Vo) (x : Vo) (hl : ws.length ≤ 8) : roomF ws (numOf x) = true ↔ (putVo ws x).length ≤ 8 := by
  unfold roomF putVo
  by_cases hc : ∃ y ∈ ws, numOf y = numOf x
  · have : ws.any (fun y => numOf y == numOf x) = true := by
      rw [List.any_eq_true]; obtain ⟨y, hy, e⟩ := hc; exact ⟨y, hy, by simpa using e⟩
    rw [if_pos hc, this, List.length_map]
    simp; exact hl
  · have : ws.any (fun y => numOf y == numOf x) = false := by
      rw [List.any_eq_false]; intro y hy e; exact hc ⟨y, hy, by simpa using e⟩
    rw [if_neg hc, this, List.length_append]
    simp; omega

/-! ### chains are copied -/
/-- Ints that can be read here. -/
def SrcI (G : Nat → Option (List V)) (r : List HP) (v : V) (l : List Nat) : Prop := flatV v = true ∧ ∀ s, Hs G r s → srcLen v = some l.length ∧ srcN 1 l.length v s = some ((zs l).map iV)
theorem SrcI.cons {r : List HP} {v : V} {l : List Nat} (h : SrcI G r v l) {A : HP} : SrcI G (A :: r) v l := ⟨h.1, fun s hs => h.2 s hs.tail⟩
theorem srcI_nats {v : V} {l : List Nat} {r : List HP} {s0 : AS} (h0 : Hs G (NatsH v l :: r) s0) : SrcI G (NatsH v l :: r) v l := ⟨nats_flat h0, fun s h => by
  have := slH_src h
  simpa using this⟩
theorem srcI_all {v : V} {c : List Nat} {l : List HP} {r : List HP} (hm : NatsH v c ∈ l) {s0 : AS} (h0 : Hs G (HP.all l :: r) s0) : SrcI G (HP.all l :: r) v c := by
  have one : ∀ s, Hs G (HP.all l :: r) s → Hs G [NatsH v c] s := fun s h => by
    obtain ⟨F, hF, hlt⟩ := h.head
    obtain ⟨F1, h1, hp⟩ := sepL_mem hm hF
    exact ⟨h.old, F1, fun _ => False, fun k hk => hlt k (h1 k hk), fun _ h => h.elim, fun _ _ h => h, hp, trivial⟩
  refine ⟨nats_flat (one s0 h0), fun s h => ?_⟩
  have := slH_src (one s h)
  simpa using this
theorem qCopyInts_t {v : V} {l : List Nat} {r : List HP} {s : AS} (hl : l.length ≤ 1000000) (hs : SrcI G r v l) (h : Hs G r s) :
    Ens (fn178 v) s fun u s' => Hs G (NatsH u l :: r) s' := by
  intro K hK
  unfold fn178 fn178_q
  obtain ⟨e1, e2⟩ := hs.2 s h
  refine app_t (by omega) (h.slNil 1 true) e1 e2 (by simp) (iV_flat _) (by omega) (by omega) fun v' s' h' => hK _ _ ?_
  rw [Nat.zero_add, List.nil_append] at h'
  show Hs G (SlH 1 v' (zs l).length ((zs l).map iV) :: r) s'
  rw [List.length_map]; exact h'
theorem qCopyConf_t {c : Cf} {v : V} {r : List HP} {s : AS} (hl : c.chain.length ≤ 1000000) (hs : SrcI G r v c.chain) (h : Hs G r s) :
    Ens (fn150 (cfV c v)) s fun u s' => ∃ w, u = cfV c w ∧ Hs G (NatsH w c.chain :: r) s' := by
  intro K hK
  unfold fn150 fn150_q cfV
  refine boxA_t h fun k1 s1 h1 => ?_
  refine newC_t h1 fun k2 s2 h2 => ?_
  rw [fp_ptr, optK_some, Nat.zero_add, ld_t (h2.pull 1), List.getElem?_cons_succ, List.getElem?_cons_succ, List.getElem?_cons_zero, optK_some]
  refine qCopyInts_t hl hs.cons.cons h2 _ ?_
  intro w s3 h3
  have hwf : flatV w = true := nats_flat h3
  rw [optK_some]
  refine st_t (h3.pull 2) (by simp) hwf fun s4 h4 => ?_
  have es : ([V.int .i64 c.num, .int .i64 c.full, v].set 2 w) = [V.int .i64 c.num, .int .i64 c.full, w] := rfl
  rw [es] at h4
  rw [ldAll_t (n := 3) h4 rfl]
  refine stAll_t (h4.pull 2) rfl rfl (flat3 hwf) fun s5 h5 => ?_
  rw [peek_cf h5, rfin1]
  exact hK _ _ ⟨w, rfl, h5.drop 0 |>.drop 0⟩

/-! ### elements of four cells -/
theorem cells4_len (L : List VC) : (L.flatMap cells4).length = L.length * 4 := by
  induction L with
  | nil => rfl
  | cons t L ih => simp only [List.flatMap_cons, List.length_append, ih, List.length_cons]; show 4 + _ = _; omega
theorem cells4_flat {L : List VC} (h : ∀ t ∈ L, flatV t.2 = true) : (L.flatMap cells4).all flatV = true := by
  rw [List.all_eq_true]
  intro x hx
  obtain ⟨t, ht, hx⟩ := List.mem_flatMap.1 hx
  have := vo_flat (a := t.1.b) (b := t.1.c.num) (c := t.1.c.full) (h t ht)
  rw [List.all_eq_true] at this
  exact this x hx
theorem elemC4 {v : V} {L : List VC} {r : List HP} {s : AS} (h : Hs G (SlH 4 v L.length (L.flatMap cells4) :: r) s) {i : Nat} {t : VC} (ht : L[i]? = some t) (q : IntKind) :
    ∃ k o, elemPtr none 4 v (.int q (i : Nat)) = some (.ptr (some ⟨.new k, o⟩)) ∧ (∀ (j : Nat) (c : V) (K : K0), (cells4 t)[j]? = some c → ld1 (.ptr (some ⟨.new k, o + j⟩)) s K = K c s) ∧ (∀ K, ldA 4 (.ptr (some ⟨.new k, o⟩)) s K = K (.agg (cells4 t)) s) ∧ (∀ K, ldA 3 (.ptr (some ⟨.new k, o + 1⟩)) s K = K (cfV t.1.c t.2) s) := by
  have hi : i < L.length := (List.getElem?_eq_some_iff.1 ht).1
  rcases slH_ob h with ⟨h0, ex, rfl⟩ | ⟨k, c, ex, cs, u', rfl, htk, hn, hc, he, h'⟩
  · omega
  · have e1 := flat4_get L i t ht
    rw [← htk, List.drop_take, List.take_take] at e1
    have e2 : min 4 (L.length * 4 - i * 4) = 4 := by omega
    rw [e2] at e1
    have e0 : 0 + i * 4 = i * 4 := Nat.zero_add _
    refine ⟨k, 0 + i * 4, elem_ok hi (he.imp id (·.1)), fun j c' K hj => ?_, fun K => ?_, fun K => ?_⟩
    · have hj4 : j < 4 := by have := (List.getElem?_eq_some_iff.1 hj).1; exact this
      have e3 : cs[0 + i * 4 + j]? = some c' := by
        have h5 : ((cs.drop (i * 4)).take 4)[j]? = (cells4 t)[j]? := by rw [e1]
        rw [List.getElem?_take_of_lt hj4, List.getElem?_drop] at h5
        rw [Nat.zero_add, h5, hj]
      rw [ld_t h', e3, optK_some]
    · rw [ldA_t h' (by omega), e0, e1]
    · rw [ldA_t h' (by omega)]
      have e4 : (cs.drop (0 + i * 4 + 1)).take 3 = ((cs.drop (i * 4)).take 4).drop 1 := by rw [List.drop_take, List.drop_drop, e0]
      rw [e4, e1]; rfl
theorem sl4_from {v : V} {L : List VC} {r : List HP} {s : AS} (h : Hs G (SlH 4 v L.length (L.flatMap cells4) :: r) s) {l : Nat} (hl : l ≤ L.length) :
    ∃ v', sliceSl 4 v (some (.int .i64 (l : Nat))) none none = some v' ∧ srcLen v' = some (L.length - l) ∧ srcN 4 (L.length - l) v' s = some ((L.drop l).flatMap cells4) := by
  rcases slH_ob h with ⟨h0, ex, rfl⟩ | ⟨k, c, ex, cs, u', rfl, htk, hn, hc, he, h'⟩
  · have : L = [] := List.eq_nil_of_length_eq_zero h0
    subst this
    have : l = 0 := by simpa using hl
    subst this
    exact ⟨.slice none 0 0 ex, by simp [sliceSl, bounds3, boundV], rfl, rfl⟩
  · have hb : bounds3 c L.length (some (.int .i64 (l : Nat))) none none = some (l, L.length, c) := by
      have e2 : boundV (some (.int .i64 (l : Nat))) L.length 0 = some l := by simp only [boundV]; rw [if_pos (by omega)]; simp
      have e1 : boundV none c L.length = some L.length := rfl
      have e3 : boundV none c c = some c := rfl
      simp only [bounds3, Option.isSome_none, Bool.false_and, e3, Option.bind_some, e1, e2]
    have h2 : ex = true ∨ ¬ (4 = 0 ∨ c = 0) := he.imp id fun hh => by have := hh.1; omega
    have hsl : sliceSl 4 (.slice (some ⟨.new k, 0⟩) L.length c ex) (some (.int .i64 (l : Nat))) none none = some (.slice (some (if c = l then ⟨.new k, 0⟩ else add ⟨.new k, 0⟩ (l * 4))) (L.length - l) (c - l) ex) := by
      simp only [sliceSl, hb]
      cases ex with
      | true => rw [if_pos rfl]
      | false => rw [if_neg (by simp), if_neg (h2.resolve_left (by simp)), if_pos hn]
    refine ⟨_, hsl, rfl, ?_⟩
    simp only [srcN]
    by_cases h0 : (L.length - l) * 4 = 0
    · have : L.drop l = [] := List.drop_of_length_le (by omega)
      rw [if_pos h0, this]; rfl
    · rw [if_neg h0, if_pos (by omega), if_neg (by omega)]
      simp only [ldN, cellsAt, h'.get, add, Nat.zero_add]
      rw [if_pos (by omega)]
      have e : ((L.drop l).flatMap cells4) = (L.flatMap cells4).drop (l * 4) := by
        have e1 : L.flatMap cells4 = (L.take l).flatMap cells4 ++ (L.drop l).flatMap cells4 := by rw [← List.flatMap_append, List.take_append_drop]
        have e2 : ((L.take l).flatMap cells4).length = l * 4 := by rw [cells4_len, List.length_take]; omega
        rw [e1, ← e2, List.drop_left]
      rw [e, ← htk, List.drop_take]
      congr 2; omega

theorem push4_t {v : V} {L : List VC} {t : VC} {k : Nat} {x : V} {r : List HP} {s : AS} (hf : flatV t.2 = true) (h : Hs G (SlH 4 v L.length (L.flatMap cells4) :: Ob k (.cells (cells4 t) 0) :: r) s) (hx : ∀ r' s'', Hs G (Ob k (.cells (cells4 t) 0) :: r') s'' → srcN 4 1 x s'' = some (cells4 t)) (hn : srcLen x = some 1)
    (hl : L.length ≤ 100000) {K : K0} (hK : ∀ v' s', Hs G (SlH 4 v' (L ++ [t]).length ((L ++ [t]).flatMap cells4) :: r) s' → K v' s') : app 4 48 v x s K := by
  refine app_t (n := 1) (ys := cells4 t) (by omega) h hn (hx _ _ h.swap) rfl (vo_flat hf) (by omega) (by omega) fun v' s' h' => hK v' s' ?_
  have e1 : (L ++ [t]).length = L.length + 1 := by rw [List.length_append]; rfl
  have e2 : (L ++ [t]).flatMap cells4 = L.flatMap cells4 ++ cells4 t := by rw [List.flatMap_append]; simp
  rw [e1, e2]
  exact h'.drop 1
end Go.Proofs.Vt
end
section
/- The document's voter: a vote is laid in its place. -/
namespace Go.Proofs.Vt
open Go Go.Rx Go.Proofs
variable {G : Nat → Option (List V)}

structure RVok (ws : List Vo) : Prop where
  len : ws.length ≤ 8
  ch : ∀ y ∈ ws, y.c.chain.length ≤ 4
/-- The document's voter. -/
def RVH (kv kl p f : Nat) (ws : List Vo) : HP := HP.ex fun vl : V => HP.all [HP.pure (RVok ws), Ob kv (.cells [.ptr (some ⟨.new kl, 0⟩), .int .i64 p, .int .i64 f, vl] 0), VotesH vl ws]
theorem RVH.iff {kv kl p f : Nat} {ws : List Vo} {r : List HP} {s : AS} : Hs G (RVH kv kl p f ws :: r) s ↔ ∃ vl, RVok ws ∧ Hs G (Ob kv (.cells [.ptr (some ⟨.new kl, 0⟩), .int .i64 p, .int .i64 f, vl] 0) :: VotesH vl ws :: r) s := by
  unfold RVH
  simp only [Hs.ex_iff, Hs.all_iff (l := [_, _, _]), List.cons_append, List.nil_append, Hs.pure_iff]
theorem votes_flat {u : V} {ws : List Vo} {r : List HP} {s : AS} (h : Hs G (VotesH u ws :: r) s) : flatV u = true := by
  obtain ⟨L, _, h1⟩ := VotesH.iff.1 h
  obtain ⟨a, c, ex, rfl⟩ := slH_slice h1; rfl
theorem chains_flat {L : List VC} {r : List HP} {s : AS} (h : Hs G (HP.all (L.map chC) :: r) s) : ∀ t ∈ L, flatV t.2 = true := fun t ht =>
  (srcI_all (l := L.map chC) (v := t.2) (c := t.1.c.chain) (List.mem_map.2 ⟨t, ht, rfl⟩) h).1

/-- What the loop holds. -/
abbrev LayH (G : Nat → Option (List V)) (kv kl p f k3 : Nat) (L : List VC) (x : Vo) (w vl v5 : V) (i : Nat) (r : List HP) (s : AS) : Prop :=
  Hs G (SlH 4 v5 (L.take i).length ((L.take i).flatMap cells4) :: Ob kv (.cells [.ptr (some ⟨.new kl, 0⟩), .int .i64 p, .int .i64 f, vl] 0) :: SlH 4 vl L.length (L.flatMap cells4) :: HP.all (L.map chC) :: Ob k3 (.cells (cells4 (x, w)) 0) :: NatsH w x.c.chain :: r) s
set_option maxHeartbeats 1000000 in
theorem layL_t {kv kl p f k3 : Nat} {L : List VC} {x : Vo} {w vl v0 : V} {r : List HP} {s : AS} {tm0 : Tm} {K : KX} (hL8 : L.length ≤ 8) (h0 : LayH G kv kl p f k3 L x w vl v0 0 r s)
    (q0 : tm0.getD 0 .junk = .ptr (some ⟨.new kv, 0⟩)) (q3 : tm0.getD 3 .junk = .ptr (some ⟨.new k3, 0⟩)) (q5 : tm0.getD 5 .junk = v0) (q6 : tm0.getD 6 .junk = .int .i64 (0 : Nat))
    (hK : ∀ i v5 tm s', i ≤ L.length → (∀ y ∈ (L.take i).map (·.1), numOf y < numOf x) → (∀ t, L[i]? = some t → ¬ numOf t.1 < numOf x) → LayH G kv kl p f k3 L x w vl v5 i r s' →
      tm.getD 0 .junk = .ptr (some ⟨.new kv, 0⟩) → tm.getD 3 .junk = .ptr (some ⟨.new k3, 0⟩) → tm.getD 5 .junk = v5 → tm.getD 6 .junk = .int .i64 (i : Nat) → K (.exit 0) tm s') :
    loopN LOOPS (fun tm s K => fn137_L1 fn150 (tm.getD 0 .junk) (tm.getD 3 .junk) (tm.getD 5 .junk) (tm.getD 6 .junk) s K) tm0 s K := by
  obtain ⟨va, vc, vex, hvl⟩ := slH_slice (h0.pull 2)
  have hlv : lenV (some (Kd.slice 43)) vl = some (.int .i64 L.length) := by rw [hvl]; rfl
  refine loop_rule (fun m tm s1 => ∃ (i : Nat) (v5 : V), m + i = L.length ∧ (∀ y ∈ (L.take i).map (·.1), numOf y < numOf x) ∧ LayH G kv kl p f k3 L x w vl v5 i r s1 ∧
    tm.getD 0 .junk = .ptr (some ⟨.new kv, 0⟩) ∧ tm.getD 3 .junk = .ptr (some ⟨.new k3, 0⟩) ∧ tm.getD 5 .junk = v5 ∧ tm.getD 6 .junk = .int .i64 (i : Nat)) ?_ (m := L.length) (by omega)
    ⟨0, v0, by omega, by simp, h0, q0, q3, q5, q6⟩
  rintro m tm s4 Kn ⟨i, v5, hmi, hlow, h4, t0, t3, t5, t6⟩ hnext
  simp only [t0, t3, t5, t6]
  unfold fn137_L1
  have hkv := h4.pull 1
  have hk3 := h4.pull 4
  have lvl : ∀ K, ld1 (.ptr (some ⟨.new kv, 0 + 3⟩)) s4 K = K vl s4 := fun K => (ld_t hkv K).trans (by rw [Nat.zero_add, List.getElem?_cons_succ, List.getElem?_cons_succ, List.getElem?_cons_succ, List.getElem?_cons_zero, optK_some])
  have lxn : ∀ K, ld1 (.ptr (some ⟨.new k3, 0 + 1 + 0⟩)) s4 K = K (.int .i64 x.c.num) s4 := fun K => (ld_t hk3 K).trans rfl
  have hti : (L.take i).length = i := by rw [List.length_take]; omega
  rw [nilV_ptr, optK_some, fp_ptr, optK_some, lvl, hlv, optK_some, bin_lss, optK_some]
  by_cases hi : i < L.length
  · have d : decide ((i : Int) < (L.length : Int)) = true := decide_eq_true (by omega)
    obtain ⟨t, ht⟩ : ∃ t, L[i]? = some t := ⟨_, List.getElem?_eq_getElem hi⟩
    obtain ⟨ke, o, e1, e2, e3, _⟩ := elemC4 (h4.pull 2) ht .i64
    have hf : flatV t.2 = true := chains_flat (h4.pull 3) t (List.mem_of_getElem? ht)
    have e2' : ∀ K, ld1 (.ptr (some ⟨.new ke, o + 1 + 0⟩)) s4 K = K (.int .i64 t.1.c.num) s4 := fun K => e2 1 _ K rfl
    rw [d, grd_true, optK_some, fp_ptr, optK_some, lvl, e1, optK_some, fp_ptr, optK_some, fp_ptr, optK_some, e2', fp_ptr, optK_some, fp_ptr, optK_some, lxn, bin_lss, optK_some]
    by_cases hlt : numOf t.1 < numOf x
    · have d2 : decide ((t.1.c.num : Int) < (x.c.num : Int)) = true := decide_eq_true (by have : t.1.c.num < x.c.num := hlt; omega)
      have wi : IntKind.i64.wrap ((i : Int) + 1) = ((i + 1 : Nat) : Int) := by rw [wrap64 (by omega) (by omega)]; omega
      rw [d2, condV_true, optK_some, fp_ptr, optK_some, lvl, e1, optK_some, e3]
      refine bsl4_t hf h4 fun y s6 k6 hy hyl h6 => ?_
      refine push4_t (t := t) hf (h6.swap) hy hyl (by omega) fun v7 s7 h7 => ?_
      have ex : L.take i ++ [t] = L.take (i + 1) := by rw [List.take_add_one, ht]; rfl
      rw [ex] at h7
      rw [bin_add, optK_some, wi, nx_nrm]
      refine hnext (m - 1) _ _ (by omega) ⟨i + 1, v7, by omega, fun y hy => ?_, h7, rfl, rfl, rfl, rfl⟩
      rw [← ex, List.map_append] at hy
      rcases List.mem_append.1 hy with hy | hy
      · exact hlow y hy
      · have : y = t.1 := by simpa using hy
        rw [this]; exact hlt
    · have d2 : decide ((t.1.c.num : Int) < (x.c.num : Int)) = false := decide_eq_false (by have : ¬ t.1.c.num < x.c.num := hlt; omega)
      rw [d2, condV_false, nx_exit]
      refine hK i v5 _ _ (by omega) hlow (fun t' ht' => ?_) h4 rfl rfl rfl rfl
      rw [ht] at ht'; cases ht'; exact hlt
  · have d : decide ((i : Int) < (L.length : Int)) = false := decide_eq_false (by omega)
    rw [d, grd_false, nx_exit]
    refine hK i v5 _ _ (by omega) hlow (fun t' ht' => ?_) h4 rfl rfl rfl rfl
    rw [List.getElem?_eq_none (by omega)] at ht'; cases ht'

set_option maxHeartbeats 1000000 in
theorem lay_t {kv kl p f : Nat} {ws : List Vo} {x : Vo} (hx : x.c.chain.length ≤ 4) (hu : Up ws) {w : V} {r : List HP} {s : AS} (h : Hs G (RVH kv kl p f ws :: NatsH w x.c.chain :: r) s) :
    Ens (fn137 (.ptr (some ⟨.new kv, 0⟩)) (voV x w)) s fun u s' => (u = .bool false ∧ roomF ws (numOf x) = false ∧ Hs G r s') ∨
      (u = .bool true ∧ roomF ws (numOf x) = true ∧ ∃ ws', Up ws' ∧ ws'.Perm (putVo ws x) ∧ Hs G (RVH kv kl p f ws' :: r) s') := by
  intro K hK
  obtain ⟨vl, hok, h1⟩ := RVH.iff.1 h
  obtain ⟨L, hL, h2⟩ := VotesH.iff.1 (h1.pull 1)
  have hLl : L.length = ws.length := by rw [← hL, List.length_map]
  have hl8 := hok.len
  obtain ⟨va, vc, vex, hvl⟩ := slH_slice h2
  have hlv : lenV (some (Kd.slice 43)) vl = some (.int .i64 L.length) := by rw [hvl]; rfl
  have hwf : flatV w = true := nats_flat (h2.pull 3)
  unfold fn137 fn137_q voV
  refine boxA_t h2 fun k3 s3 h3 => ?_
  refine layL_t (L := L) (x := x) (w := w) (vl := vl) (v0 := .slice none 0 0 true) (by omega) ((h3.slNil 4 true).ord [0, 4, 2, 3, 1]) rfl rfl rfl rfl ?_
  intro i v5 tm s4 hi hlow hstop h4 t0 t3 t5 t6
  have hk3 := h4.pull 4
  have hti : (L.take i).length = i := by rw [List.length_take]; omega
  have hlow' : ∀ y ∈ ws.take i, numOf y < numOf x := by rw [← hL, ← List.map_take]; exact hlow
  rw [exX_exit]
  show exB true _ _
  rw [exB_true]
  simp only [t0, t3, t5, t6]
  have q0 : (cells4 (x, w))[0 + 0]? = some (.int .i64 x.b) := rfl
  rw [fp_ptr, optK_some, ld_t hk3, q0, optK_some, fp_ptr, optK_some, ldA_t hk3 (by show 0 + 1 + 3 ≤ 4; omega)]
  show fn150 (cfV x.c w) s4 _
  refine qCopyConf_t (c := x.c) (v := w) (by omega) (srcI_nats (h4.tail.tail.tail.tail.tail)).cons.cons.cons.cons.cons h4 _ ?_
  rintro _ s5 ⟨w2, rfl, h5⟩
  have hw2 : flatV w2 = true := nats_flat h5
  have hh := holds_t (ti := ti3) rfl (h5.pull 5) q0 (by simp [sameV, same0])
  have hag : aggO (fillV (placeS [(0, 3), (1, 37)] ty) [V.int .i64 0, .int .i64 0, .int .i64 0, .slice none 0 0 true] [(0, .int .i64 x.b), (1, cfV x.c w2)]) = some (.agg (cells4 (x, w2))) := by
    simp [fillV, placeS, cellsV, spl, aggO, cfV, cells4]
  rw [hh, chkB_true, hag, optK_some]
  refine bsl4_t hw2 h5 fun y s6 k6 hy hyl h6 => ?_
  refine push4_t (t := (x, w2)) hw2 (h6.ord [2, 0]) hy hyl (by omega) fun v7 s7 h7 => ?_
  have h8 := h7.ord [0, 2, 3, 4, 1]
  obtain ⟨LL, hLL⟩ : ∃ LL, LL = L.take i ++ [(x, w2)] := ⟨_, rfl⟩
  rw [← hLL] at h8
  have hLLl : LL.length = i + 1 := by rw [hLL, List.length_append, hti]; rfl
  have hkv8 := h8.pull 1
  have hcf := chains_flat (h8.pull 3)
  have lvl8 : ∀ K, ld1 (.ptr (some ⟨.new kv, 0 + 3⟩)) s7 K = K vl s7 := fun K => (ld_t hkv8 K).trans (by rw [Nat.zero_add, List.getElem?_cons_succ, List.getElem?_cons_succ, List.getElem?_cons_succ, List.getElem?_cons_zero, optK_some])
  have lxn8 : ∀ K, ld1 (.ptr (some ⟨.new k3, 0 + 1 + 0⟩)) s7 K = K (.int .i64 x.c.num) s7 := fun K => (ld_t (h8.pull 5) K).trans rfl
  have tail : ∀ (j : Nat), j ≤ L.length → ∀ ws', ws' = ws.take i ++ x :: ws.drop j → Up ws' → ws'.Perm (putVo ws x) → (∀ r' s9, Hs G (NatsH w2 x.c.chain :: HP.all (L.map chC) :: r') s9 → Hs G (HP.all ((LL ++ L.drop j).map chC) :: r') s9) →
      (optK (sliceSl 4 vl (some (.int .i64 (j : Nat))) none none) s7 fun t80 s13 => ((app 4 48 v7 t80) s13 fun t81 s13 =>
 (optK (lenV (some (Kd.slice 43)) t81) s13 fun t83 s13 => (optK (binV .gtr (some (Kd.int .i64)) true t83 (V.int .i64 8)) s13 fun t84 s13 => (condV t84
 (K (V.bool false) s13)
 (optK (nilV (V.ptr (some ⟨.new kv, 0⟩))) s13 fun t87 s13 => (optK (fp 3 t87) s13 fun t88 s13 => ((st 1 t88 t81) s13 fun _ s13 =>
 (K (V.bool true) s13))))))))) := by
    intro j hj ws' hws' hup hperm hchain
    obtain ⟨v8, e8, e9, e10⟩ := sl4_from (h8.pull 2) hj
    have hdf : ((L.drop j).flatMap cells4).all flatV = true := cells4_flat fun t ht => hcf t (List.mem_of_mem_drop ht)
    have hdl : ((L.drop j).flatMap cells4).length = (L.length - j) * 4 := by rw [cells4_len, List.length_drop]
    rw [e8, optK_some]
    refine app_t (by omega) h8 e9 e10 hdl hdf (by omega) (by omega) fun v9 s9 h9 => ?_
    have hnl : LL.length + (L.length - j) = (LL ++ L.drop j).length := by rw [List.length_append, List.length_drop]
    rw [hnl, ← List.flatMap_append] at h9
    obtain ⟨a9, c9, ex9, hv9⟩ := slH_slice h9
    have hl9 : lenV (some (Kd.slice 43)) v9 = some (.int .i64 (LL ++ L.drop j).length) := by rw [hv9]; rfl
    have hmap : (LL ++ L.drop j).map (·.1) = ws' := by
      rw [hws', hLL, List.map_append, List.map_append, List.map_take, List.map_drop, hL, List.append_assoc]; rfl
    have hwl : (LL ++ L.drop j).length = ws'.length := by rw [← hmap, List.length_map]
    have hroom := room_len ws x hl8
    rw [← hperm.length_eq] at hroom
    rw [hl9, optK_some, bin_gtr, optK_some, hwl]
    by_cases h88 : ws'.length ≤ 8
    · rw [decide_eq_false (by omega : ¬ ((ws'.length : Int) > 8)), condV_false, nilV_ptr, optK_some, fp_ptr, optK_some]
      refine st_t (h9.pull 1) (by simp) (by rw [hv9]; rfl) fun s10 h10 => ?_
      have h11 := ((((h10.ord [0, 1, 4, 3]).drop 4).drop 4).drop 4).ord [2, 3, 0, 1]
      refine hK _ _ (.inr ⟨rfl, hroom.2 h88, ws', hup, hperm, RVH.iff.2 ⟨v9, ⟨h88, fun y hy => ?_⟩, ?_⟩⟩)
      · rcases List.mem_append.1 (hws' ▸ hy) with hy | hy
        · exact hok.ch y (List.mem_of_mem_take hy)
        · rcases List.mem_cons.1 hy with rfl | hy
          · exact hx
          · exact hok.ch y (List.mem_of_mem_drop hy)
      · exact (VotesH.iff.2 ⟨LL ++ L.drop j, hmap, (hchain _ _ h11).ord [2, 0]⟩).swap
    · have hrf : roomF ws (numOf x) = false := by
        cases hr : roomF ws (numOf x) with
        | false => rfl
        | true => exact absurd (hroom.1 hr) h88
      rw [decide_eq_true (by omega : (ws'.length : Int) > 8), condV_true]
      exact hK _ _ (.inl ⟨rfl, hrf, h9.tail.tail.tail.tail.tail.tail.tail⟩)
  -- all of L, cut at i
  have hLi : L = L.take i ++ L.drop i := (List.take_append_drop i L).symm
  have hwsi : ws = ws.take i ++ ws.drop i := (List.take_append_drop i ws).symm
  have mid : (∀ y ∈ ws.drop i, numOf x < numOf y) → (optK (sliceSl 4 vl (some (.int .i64 (i : Nat))) none none) s7 fun t80 s13 => ((app 4 48 v7 t80) s13 fun t81 s13 =>
 (optK (lenV (some (Kd.slice 43)) t81) s13 fun t83 s13 => (optK (binV .gtr (some (Kd.int .i64)) true t83 (V.int .i64 8)) s13 fun t84 s13 => (condV t84
 (K (V.bool false) s13)
 (optK (nilV (V.ptr (some ⟨.new kv, 0⟩))) s13 fun t87 s13 => (optK (fp 3 t87) s13 fun t88 s13 => ((st 1 t88 t81) s13 fun _ s13 =>
 (K (V.bool true) s13))))))))) := by
    intro hB
    refine tail i hi _ rfl (up_mid (by rw [← hwsi]; exact hu) hlow' hB) ?_ fun r' s9 h9 => ?_
    · have := putVo_mid hlow' hB
      rw [← hwsi] at this
      exact this
    · rw [hLi, List.map_append] at h9
      have := all_unmid h9
      rw [hLL, List.append_assoc, List.map_append]
      exact this
  rw [nilV_ptr, optK_some, fp_ptr, optK_some, lvl8, hlv, optK_some, bin_lss, optK_some]
  by_cases hi2 : i < L.length
  · have d : decide ((i : Int) < (L.length : Int)) = true := decide_eq_true (by omega)
    obtain ⟨t, ht⟩ : ∃ t, L[i]? = some t := ⟨_, List.getElem?_eq_getElem hi2⟩
    obtain ⟨ke, o, e1, e2, e3, _⟩ := elemC4 (h8.pull 2) ht .i64
    have e2' : ∀ K, ld1 (.ptr (some ⟨.new ke, o + 1 + 0⟩)) s7 K = K (.int .i64 t.1.c.num) s7 := fun K => e2 1 _ K rfl
    have hge := hstop t ht
    have hdr : L.drop i = t :: L.drop (i + 1) := by
      rw [List.drop_eq_getElem_cons hi2]
      congr 1
      have := List.getElem?_eq_getElem hi2
      rw [ht] at this; exact (Option.some.inj this).symm
    have hwd : ws.drop i = t.1 :: ws.drop (i + 1) := by rw [← hL, ← List.map_drop, hdr, List.map_cons, List.map_drop]
    have hu' : Up (ws.take i ++ t.1 :: ws.drop (i + 1)) := by rw [← hwd, ← hwsi]; exact hu
    rw [d, grd_true, optK_some, fp_ptr, optK_some, lvl8, e1, optK_some, fp_ptr, optK_some, fp_ptr, optK_some, e2', optK_some, fp_ptr, optK_some, lxn8, bin_eql, optK_some]
    by_cases heq : numOf t.1 = numOf x
    · have d2 : ((t.1.c.num : Int) == (x.c.num : Int)) = true := by have : t.1.c.num = x.c.num := heq; rw [this]; simp
      have wi : IntKind.i64.wrap ((i : Int) + 1) = ((i + 1 : Nat) : Int) := by rw [wrap64 (by omega) (by omega)]; omega
      rw [d2, condV_true, bin_add, optK_some, wi, optK_some, fp_ptr, optK_some, lvl8]
      refine tail (i + 1) hi2 _ rfl (up_swap hu' heq) ?_ fun r' s9 h9 => ?_
      · have := putVo_at hu' heq
        rw [← hwd, ← hwsi] at this
        rw [this]
      · rw [hLi, hdr, List.map_append, List.map_cons] at h9
        have h10 := (all_mid h9.swap).tail.swap
        have := all_unmid h10
        rw [hLL, List.append_assoc, List.map_append]
        exact this
    · have d2 : ((t.1.c.num : Int) == (x.c.num : Int)) = false := by
        have : t.1.c.num ≠ x.c.num := heq
        simp; omega
      rw [d2, condV_false, optK_some, fp_ptr, optK_some, lvl8]
      refine mid fun y hy => ?_
      have hlt : numOf x < numOf t.1 := by omega
      rw [hwd] at hy
      rcases List.mem_cons.1 hy with rfl | hy
      · exact hlt
      · have := (List.pairwise_cons.1 (List.pairwise_append.1 hu').2.1).1 y hy
        omega
  · have d : decide ((i : Int) < (L.length : Int)) = false := decide_eq_false (by omega)
    rw [d, grd_false, optK_some, fp_ptr, optK_some, lvl8]
    refine mid fun y hy => ?_
    rw [List.drop_of_length_le (by omega)] at hy
    cases hy
end Go.Proofs.Vt
end
section
/- The document's voter: votes are copied, and told from a number on. -/
namespace Go.Proofs.Vt
open Go Go.Rx Go.Proofs
variable {G : Nat → Option (List V)}

theorem elemH4 {v : V} {L : List VC} {r : List HP} {s : AS} (h : Hs G (SlH 4 v L.length (L.flatMap cells4) :: r) s) {i : Nat} {t : VC} (ht : L[i]? = some t) {q : IntKind} {k o : Nat}
    (e : elemPtr none 4 v (.int q (i : Nat)) = some (.ptr (some ⟨.new k, o⟩))) : Rx.holds ti3 (.ptr (some ⟨.new k, o + 0⟩)) s (.int .i64 t.1.b) = true := by
  have hi : i < L.length := (List.getElem?_eq_some_iff.1 ht).1
  rcases slH_ob h with ⟨h0, ex, rfl⟩ | ⟨k2, c, ex, cs, u', rfl, htk, hn, hc, he, h'⟩
  · omega
  · have e1 := flat4_get L i t ht
    rw [← htk, List.drop_take, List.take_take] at e1
    have e2 : min 4 (L.length * 4 - i * 4) = 4 := by omega
    rw [e2] at e1
    rw [elem_ok hi (he.imp id (·.1))] at e
    simp only [Option.some.injEq, V.ptr.injEq, Ad.mk.injEq, Blk.new.injEq] at e
    obtain ⟨rfl, rfl⟩ := e
    have e3 : cs[0 + i * 4 + 0]? = some (.int .i64 t.1.b) := by
      have h5 : ((cs.drop (i * 4)).take 4)[0]? = (cells4 t)[0]? := by rw [e1]
      rw [List.getElem?_take_of_lt (by omega), List.getElem?_drop] at h5
      rw [Nat.zero_add, h5]; rfl
    exact holds_t (ti := ti3) rfl h' e3 (by simp [sameV, same0])
theorem chain_src {L : List VC} {t : VC} (ht : t ∈ L) {r : List HP} {s : AS} (h : Hs G (HP.all (L.map chC) :: r) s) : SrcI G (HP.all (L.map chC) :: r) t.2 t.1.c.chain :=
  srcI_all (List.mem_map.2 ⟨t, ht, rfl⟩) h

set_option maxHeartbeats 1000000 in
theorem qCopyVotes_t {v : V} {L L2 : List VC} {r : List HP} {s : AS} (hsub : ∀ t ∈ L2, t ∈ L) (hch : ∀ t ∈ L, t.1.c.chain.length ≤ 4) (hl : L2.length ≤ 8)
    (h : Hs G (SlH 4 v L2.length (L2.flatMap cells4) :: HP.all (L.map chC) :: r) s) :
    Ens (fn151 v) s fun u s' => Hs G (VotesH u (L2.map (·.1)) :: HP.all (L.map chC) :: r) s' := by
  intro K hK
  obtain ⟨va, vc, vex, hvl⟩ := slH_slice h
  have hlv : lenV (some (Kd.slice 43)) v = some (.int .i64 L2.length) := by rw [hvl]; rfl
  unfold fn151 fn151_q
  refine loop_rule (fun m tm s1 => ∃ (i : Nat) (u : V) (Lo : List VC), m + i = L2.length ∧ Lo.map (·.1) = (L2.take i).map (·.1) ∧
    Hs G (SlH 4 u Lo.length (Lo.flatMap cells4) :: HP.all (Lo.map chC) :: SlH 4 v L2.length (L2.flatMap cells4) :: HP.all (L.map chC) :: r) s1 ∧
    tm.getD 0 .junk = v ∧ tm.getD 3 .junk = u ∧ tm.getD 4 .junk = .int .i64 (i : Nat)) ?_ (m := L2.length) (by omega)
    ⟨0, .slice none 0 0 true, [], by omega, rfl, (all_nil h).slNil 4 true, rfl, rfl, rfl⟩
  rintro m tm s1 Kn ⟨i, u, Lo, hm, hLo, h1, t0, t3, t4⟩ hnext
  simp only [t0, t3, t4]
  unfold fn151_L1
  rw [hlv, optK_some, bin_lss, optK_some]
  have hLol : Lo.length ≤ 8 := by
    have := congrArg List.length hLo
    rw [List.length_map, List.length_map, List.length_take] at this; omega
  by_cases hi : i < L2.length
  · have d : decide ((i : Int) < (L2.length : Int)) = true := decide_eq_true (by omega)
    have w : IntKind.i64.wrap ((i : Int) + 1) = ((i + 1 : Nat) : Int) := by rw [wrap64 (by omega) (by omega)]; omega
    obtain ⟨t, ht⟩ : ∃ t, L2[i]? = some t := ⟨_, List.getElem?_eq_getElem hi⟩
    have htL : t ∈ L := hsub t (List.mem_of_getElem? ht)
    obtain ⟨ke, o, e1, e2, e3, e4⟩ := elemC4 (h1.pull 2) ht .i64
    have e2' : ∀ K, ld1 (.ptr (some ⟨.new ke, o + 0⟩)) s1 K = K (.int .i64 t.1.b) s1 := fun K => e2 0 _ K rfl
    rw [d, condV_true, e1, optK_some, fp_ptr, optK_some, e2', optK_some, fp_ptr, optK_some, e4]
    refine qCopyConf_t (c := t.1.c) (v := t.2) (by have := hch t htL; omega) (chain_src htL h1.tail.tail.tail).cons.cons.cons h1 _ ?_
    rintro _ s5 ⟨w2, rfl, h5⟩
    have hw2 : flatV w2 = true := nats_flat h5
    have hh := elemH4 (h5.pull 3) ht e1
    have hag : aggO (fillV (placeS [(0, 3), (1, 37)] ty) [V.int .i64 0, .int .i64 0, .int .i64 0, .slice none 0 0 true] [(0, .int .i64 t.1.b), (1, cfV t.1.c w2)]) = some (.agg (cells4 (t.1, w2))) := by
      simp [fillV, placeS, cellsV, spl, aggO, cfV, cells4]
    rw [hh, chkB_true, hag, optK_some]
    refine bsl4_t hw2 h5 fun y s6 k6 hy hyl h6 => ?_
    refine push4_t (t := (t.1, w2)) hw2 (h6.ord [2, 0]) hy hyl (by omega) fun v7 s7 h7 => ?_
    rw [bin_add, optK_some, w, nx_nrm]
    refine hnext (m - 1) _ _ (by omega) ⟨i + 1, v7, Lo ++ [(t.1, w2)], by omega, ?_, ?_, rfl, rfl, rfl⟩
    · rw [List.take_add_one, ht, List.map_append, List.map_append, hLo]; rfl
    · have h8 : Hs G (HP.all (Lo.map chC) :: chC (t.1, w2) :: SlH 4 v7 (Lo ++ [(t.1, w2)]).length ((Lo ++ [(t.1, w2)]).flatMap cells4) :: SlH 4 v L2.length (L2.flatMap cells4) :: HP.all (L.map chC) :: r) s7 := h7.ord [2, 1, 0]
      have h9 := all_unmid (l := Lo.map chC) (r := []) (by rw [List.append_nil]; exact h8.swap)
      rw [List.map_append]
      exact h9.swap
  · have d : decide ((i : Int) < (L2.length : Int)) = false := decide_eq_false (by omega)
    rw [d, condV_false, nx_exit, exX_exit]
    show exB true _ _
    rw [exB_true]
    refine hK _ _ (VotesH.iff.2 ⟨Lo, by rw [hLo, List.take_of_length_le (by omega)], (h1.drop 2)⟩)

set_option maxHeartbeats 1000000 in
theorem qAbove_t {kv kl p f from' : Nat} {ws : List Vo} {r : List HP} {s : AS} (h : Hs G (RVH kv kl p f ws :: r) s) :
    Ens (fn138 (.ptr (some ⟨.new kv, 0⟩)) (.int .i64 from')) s fun u s' => Hs G (VotesH u (ws.filter fun y => decide (from' ≤ numOf y)) :: RVH kv kl p f ws :: r) s' := by
  intro K hK
  obtain ⟨vl, hok, h1⟩ := RVH.iff.1 h
  obtain ⟨L, hL, h2⟩ := VotesH.iff.1 (h1.pull 1)
  have hLl : L.length = ws.length := by rw [← hL, List.length_map]
  have hl8 := hok.len
  obtain ⟨va, vc, vex, hvl⟩ := slH_slice h2
  have hlv : lenV (some (Kd.slice 43)) vl = some (.int .i64 L.length) := by rw [hvl]; rfl
  have hch : ∀ t ∈ L, t.1.c.chain.length ≤ 4 := fun t ht => hok.ch t.1 (by rw [← hL]; exact List.mem_map.2 ⟨t, ht, rfl⟩)
  unfold fn138 fn138_q
  refine loop_rule (fun m tm s1 => ∃ (i : Nat) (u : V) (Lo : List VC), m + i = L.length ∧ Lo = (L.take i).filter (fun t => decide (from' ≤ numOf t.1)) ∧
    Hs G (SlH 4 u Lo.length (Lo.flatMap cells4) :: HP.all (L.map chC) :: SlH 4 vl L.length (L.flatMap cells4) :: Ob kv (.cells [.ptr (some ⟨.new kl, 0⟩), .int .i64 p, .int .i64 f, vl] 0) :: r) s1 ∧
    tm.getD 0 .junk = .ptr (some ⟨.new kv, 0⟩) ∧ tm.getD 1 .junk = .int .i64 from' ∧ tm.getD 5 .junk = u ∧ tm.getD 6 .junk = .int .i64 (i : Nat)) ?_ (m := L.length) (by omega)
    ⟨0, .slice none 0 0 true, [], by omega, rfl, (h2.slNil 4 true).ord [0, 2, 1, 3], rfl, rfl, rfl, rfl⟩
  rintro m tm s1 Kn ⟨i, u, Lo, hm, hLo, h1, t0, t1, t5, t6⟩ hnext
  simp only [t0, t1, t5, t6]
  unfold fn138_L1
  have lvl : ∀ K, ld1 (.ptr (some ⟨.new kv, 0 + 3⟩)) s1 K = K vl s1 := fun K => (ld_t (h1.pull 3) K).trans (by rw [Nat.zero_add, List.getElem?_cons_succ, List.getElem?_cons_succ, List.getElem?_cons_succ, List.getElem?_cons_zero, optK_some])
  have hLol : Lo.length ≤ 8 := by
    rw [hLo]
    have h2 := List.length_filter_le (fun t : VC => decide (from' ≤ numOf t.1)) (L.take i)
    rw [List.length_take] at h2; omega
  rw [nilV_ptr, optK_some, fp_ptr, optK_some, lvl, hlv, optK_some, bin_lss, optK_some]
  by_cases hi : i < L.length
  · have d : decide ((i : Int) < (L.length : Int)) = true := decide_eq_true (by omega)
    have w : IntKind.i64.wrap ((i : Int) + 1) = ((i + 1 : Nat) : Int) := by rw [wrap64 (by omega) (by omega)]; omega
    obtain ⟨t, ht⟩ : ∃ t, L[i]? = some t := ⟨_, List.getElem?_eq_getElem hi⟩
    obtain ⟨ke, o, e1, e2, e3, e4⟩ := elemC4 (h1.pull 2) ht .i64
    have hf : flatV t.2 = true := chains_flat (h1.pull 1) t (List.mem_of_getElem? ht)
    have e2' : ∀ K, ld1 (.ptr (some ⟨.new ke, o + 1 + 0⟩)) s1 K = K (.int .i64 t.1.c.num) s1 := fun K => e2 1 _ K rfl
    have et : (L.take (i + 1)).filter (fun t => decide (from' ≤ numOf t.1)) = Lo ++ if from' ≤ numOf t.1 then [t] else [] := by
      rw [List.take_add_one, ht, List.filter_append, ← hLo]
      congr 1
      show List.filter _ [t] = _
      by_cases hh : from' ≤ numOf t.1 <;> simp [hh]
    rw [d, condV_true, optK_some, fp_ptr, optK_some, lvl, e1, optK_some, fp_ptr, optK_some, fp_ptr, optK_some, e2', bin_geq, optK_some]
    by_cases hge : from' ≤ numOf t.1
    · have d2 : decide ((t.1.c.num : Int) ≥ (from' : Int)) = true := decide_eq_true (by have : from' ≤ t.1.c.num := hge; omega)
      rw [if_pos hge] at et
      rw [d2, condV_true, optK_some, fp_ptr, optK_some, lvl, e1, optK_some, e3]
      refine bsl4_t hf h1 fun y s6 k6 hy hyl h6 => ?_
      refine push4_t (t := t) hf (h6.swap) hy hyl (by omega) fun v7 s7 h7 => ?_
      rw [bin_add, optK_some, w, nx_nrm]
      exact hnext (m - 1) _ _ (by omega) ⟨i + 1, v7, _, by omega, et.symm, h7, rfl, rfl, rfl, rfl⟩
    · have d2 : decide ((t.1.c.num : Int) ≥ (from' : Int)) = false := decide_eq_false (by have : ¬ from' ≤ t.1.c.num := hge; omega)
      rw [if_neg hge, List.append_nil] at et
      rw [d2, condV_false, bin_add, optK_some, w, nx_nrm]
      exact hnext (m - 1) _ _ (by omega) ⟨i + 1, u, _, by omega, et.symm, h1, rfl, rfl, rfl, rfl⟩
  · have d : decide ((i : Int) < (L.length : Int)) = false := decide_eq_false (by omega)
    rw [d, condV_false, nx_exit, exX_exit]
    show exB true _ _
    rw [exB_true]
    show fn151 u s1 _
    rw [List.take_of_length_le (by omega)] at hLo
    refine qCopyVotes_t (L := L) (fun t ht => by rw [hLo] at ht; exact (List.mem_filter.1 ht).1) hch hLol h1 _ ?_
    intro u2 s2 h2
    have e : Lo.map (·.1) = ws.filter fun y => decide (from' ≤ numOf y) := by rw [hLo, ← hL, List.filter_map]; rfl
    rw [e] at h2
    refine hK _ _ ?_
    have h3 := (RVH.iff.2 ⟨vl, hok, ((VotesH.iff.2 ⟨L, hL, h2.ord [2, 1, 3, 0]⟩ : Hs G (VotesH vl ws :: _) s2).swap)⟩ : Hs G (RVH kv kl p f ws :: VotesH u2 _ :: r) s2)
    exact h3.swap
end Go.Proofs.Vt
end
section
/- The document's voter: a row is done; a voter is opened. -/
namespace Go.Proofs.Vt
open Go Go.Rx Go.Proofs
variable {G : Nat → Option (List V)}

theorem max64 (a b : Nat) : foldV max2V (.int .i64 (a : Nat)) [.int .i64 (b : Nat)] = some (.int .i64 ((max a b : Nat) : Int)) := by
  simp only [foldV, max2V]; congr 2; split <;> omega
theorem eqNat (k q : Nat) : ((k : Int) == (q : Int)) = decide (k = q) := by
  by_cases h : k = q
  · rw [h]; simp
  · rw [decide_eq_false h]; simp; omega
theorem up_filter {ws : List Vo} (h : Up ws) (P : Vo → Bool) : Up (ws.filter P) := h.sublist List.filter_sublist
/-- What a row does to the document's voter. -/
abbrev DoneP (G : Nat → Option (List V)) (kv kl : Nat) (t : Vst) (o : Option Deed) (r : List HP) (u : V) (s' : AS) : Prop :=
  (u = .bool false ∧ o.bind t.step = none ∧ Hs G r s') ∨ (∃ t' ws', o.bind t.step = some t' ∧ u = .bool true ∧ ws'.Perm t'.v ∧ Up ws' ∧ Hs G (RVH kv kl t'.p t'.f ws' :: r) s')

set_option maxHeartbeats 1000000 in
theorem qDone_t {row : List UInt8} (hrl : row.length ≤ 1099511627776) {t : Vst} {ws : List Vo} (hp : ws.Perm t.v) (hu : Up ws) {kv kl : Nat} {v : V} {r : List HP} {s : AS} (hr : Reads G r v row) (h : Hs G (RVH kv kl t.p t.f ws :: r) s) :
    Ens (fn103 (.ptr (some ⟨.new kv, 0⟩)) v) s fun u s' => DoneP G kv kl t (rowD row) r u s' := by
  intro K hK
  obtain ⟨hl1, hl2, hl3⟩ := rd_len row
  unfold fn103 fn103_q
  refine qRead_t hr.cons h hrl _ ?_
  rintro _ s1 ⟨kr, rfl, h1⟩
  refine qNum_t (w := 1) (by omega) hrl h1 _ ?_
  rintro _ s2 ⟨rfl, h2⟩
  rw [rdK_e] at h2 ⊢
  refine qCount_t (most := 9007199254740991) (by omega) h2 _ ?_
  rintro _ s3 ⟨rfl, h3⟩
  rw [rdN_e] at h3 ⊢
  have hnn : (rdN row).1 ≤ 9007199254740991 := by rw [← rdN_e]; exact count_le _ _
  have hD : rowD row = if (rdK row).1 = 2 then (if confE (rdT row).1 ≠ 0 ∨ (rdT row).2.fin ≠ 0 ∨ (rdN row).1 < 1 then none else some (.V ⟨(rdN row).1, confC (rdT row).1⟩))
      else if (rdN row).2.fin ≠ 0 ∨ (rdN row).1 < 1 then none
      else if (rdK row).1 = 1 then some (.P (rdN row).1) else if (rdK row).1 = 3 then some (.F (rdN row).1) else none := rfl
  have hT := rdT_e row
  have htl : (rdT row).1.length ≤ 1099511627776 := by
    rw [← rdT_e]
    unfold RS.text
    split
    · have h3 := (raw_len ((rdN row).2.count 2048).2 (((rdN row).2.count 2048).1 : Nat)).2
      have h4 : ((rdN row).2.count 2048).1 ≤ 2048 := count_le _ _
      rw [Int.toNat_natCast] at h3
      omega
    · simp
  obtain ⟨o, ho⟩ : ∃ o, o = rowD row := ⟨_, rfl⟩
  rw [← ho] at hD hK
  obtain ⟨kk, hkk⟩ : ∃ kk, kk = (rdK row).1 := ⟨_, rfl⟩
  obtain ⟨nn, hn⟩ : ∃ nn, nn = (rdN row).1 := ⟨_, rfl⟩
  obtain ⟨R3, hR3⟩ : ∃ R3, R3 = (rdN row).2 := ⟨_, rfl⟩
  obtain ⟨T, hTT⟩ : ∃ T, T = rdT row := ⟨_, rfl⟩
  rw [← hkk, ← hn, ← hR3, ← hTT] at hD
  rw [← hn] at hnn
  rw [← hR3] at hl2 h3
  rw [← hR3, ← hTT] at hT
  rw [← hTT] at htl
  rw [← hkk, ← hn]
  clear hkk hn hR3 hTT ho
  have e2 : ((kk : Int) == 2) = decide (kk = 2) := eqNat _ 2
  have e1 : ((kk : Int) == 1) = decide (kk = 1) := eqNat _ 1
  have e3 : ((kk : Int) == 3) = decide (kk = 3) := eqNat _ 3
  have d00 : (((0 : Nat) : Int) != 0) = false := by decide
  rw [bin_eql, optK_some, e2]
  by_cases k2 : kk = 2
  · rw [if_pos k2] at hD
    rw [decide_eq_true k2, condV_true]
    refine qText_t (most := 2048) (by omega) h3 _ ?_
    intro u4 s4 h4
    rw [hT] at h4
    refine qParseConf_t htl reads_bytes h4 _ ?_
    rintro u5 s5 (⟨he, hcok, w, rfl, h5⟩ | ⟨he, rfl, h5⟩)
    · rw [he] at hD
      obtain ⟨c, hc⟩ : ∃ c, c = confC T.1 := ⟨_, rfl⟩
      rw [← hc] at hD hcok h5 ⊢
      have hwf : flatV w = true := nats_flat h5
      rw [ext0, List.getElem?_cons_zero, optK_some, ext0, List.getElem?_cons_succ, List.getElem?_cons_zero, optK_some]
      refine newC_t h5 fun k9 s6 h6 => ?_
      unfold cfV
      refine stAll_t h6 rfl rfl (flat3 hwf) fun s7 h7 => ?_
      have h8 := (h7.ord [3, 0, 1, 4]).drop 4
      rw [qEnd_t h8, bin_neq, optK_some]
      by_cases hf : T.2.fin = 0
      · have d1 : ((T.2.fin : Int) != 0) = false := by rw [hf]; rfl
        rw [d1, grd_false, bin_neq, optK_some, d00, grd_false, bin_lss, optK_some]
        by_cases hn1 : nn < 1
        · have d2 : decide ((nn : Int) < 1) = true := decide_eq_true (by omega)
          rw [if_pos (by omega)] at hD
          rw [d2, grd_true]
          exact hK _ _ (.inl ⟨rfl, by rw [hD]; rfl, h8.tail.tail.tail.tail⟩)
        · have d2 : decide ((nn : Int) < 1) = false := decide_eq_false (by omega)
          rw [if_neg (by omega)] at hD
          obtain ⟨vl, hok, h9⟩ := RVH.iff.1 (h8.pull 3)
          rw [d2, grd_false, fp_ptr, optK_some, ld_t (h9.pull 3), Nat.zero_add, List.getElem?_cons_zero, optK_some, nilV_ptr, optK_some, fp_ptr, optK_some, ld_t h9, Nat.zero_add, List.getElem?_cons_succ, List.getElem?_cons_succ, List.getElem?_cons_zero, optK_some, bin_lss, optK_some]
          have estep : t.step (.V ⟨nn, c⟩) = if t.f ≤ numOf ⟨nn, c⟩ ∧ roomF t.v (numOf ⟨nn, c⟩) = true then some (⟨max t.p nn, t.f, putVo t.v ⟨nn, c⟩⟩ : Vst) else none := rfl
          by_cases hfl : c.num < t.f
          · have d3 : decide ((c.num : Int) < (t.f : Int)) = true := decide_eq_true (by omega)
            rw [if_neg (by rintro ⟨hh, _⟩; have : t.f ≤ c.num := hh; omega)] at estep
            rw [d3, grd_true]
            exact hK _ _ (.inl ⟨rfl, by rw [hD]; exact estep, h9.tail.tail.tail.tail.tail⟩)
          · have d3 : decide ((c.num : Int) < (t.f : Int)) = false := decide_eq_false (by omega)
            have hag : aggO (fillV (placeS [(0, 3), (1, 37)] ty) [V.int .i64 0, .int .i64 0, .int .i64 0, .slice none 0 0 true] [(0, .int .i64 nn), (1, .agg [.int .i64 c.num, .int .i64 c.full, w])]) = some (voV ⟨nn, c⟩ w) := by
              simp [fillV, placeS, cellsV, spl, aggO, voV]
            rw [d3, grd_false, ldAll_t (n := 3) (h9.pull 3) rfl, hag, optK_some]
            have h10 : Hs G (RVH kv kl t.p t.f ws :: NatsH w c.chain :: r) s7 := RVH.iff.2 ⟨vl, hok, ((h9.drop 2).drop 2)⟩
            refine lay_t (x := ⟨nn, c⟩) hcok.len.2 hu h10 _ ?_
            rintro _ s11 (⟨rfl, hroom, h11⟩ | ⟨rfl, hroom, ws', hu', hp', h11⟩)
            · rw [room_perm' hp] at hroom
              rw [if_neg (by rintro ⟨_, hh⟩; rw [hroom] at hh; cases hh)] at estep
              rw [un_not, optK_some]
              show condV (.bool true) _ _
              rw [condV_true]
              exact hK _ _ (.inl ⟨rfl, by rw [hD]; exact estep, h11⟩)
            · rw [room_perm' hp] at hroom
              rw [if_pos ⟨by show t.f ≤ c.num; omega, hroom⟩] at estep
              rw [un_not, optK_some]
              show condV (.bool false) _ _
              obtain ⟨vl2, hok2, h12⟩ := RVH.iff.1 h11
              rw [condV_false, optK_some, fp_ptr, optK_some, ld_t h12, Nat.zero_add, List.getElem?_cons_succ, List.getElem?_cons_zero, optK_some, max64, optK_some, optK_some, fp_ptr, optK_some, Nat.zero_add]
              refine st_t h12 (by simp) rfl fun s13 h13 => ?_
              exact hK _ _ (.inr ⟨⟨max t.p nn, t.f, putVo t.v ⟨nn, c⟩⟩, ws', by rw [hD]; exact estep, rfl, hp'.trans (putVo_perm' hp _), hu', RVH.iff.2 ⟨vl2, hok2, h13⟩⟩)
      · have d1 : ((T.2.fin : Int) != 0) = true := by simp [hf]
        rw [if_pos (by omega)] at hD
        rw [d1, grd_true]
        exact hK _ _ (.inl ⟨rfl, by rw [hD]; rfl, h8.tail.tail.tail.tail⟩)
    · rw [if_pos (.inl he)] at hD
      have de : ((confE T.1 : Int) != 0) = true := by simp [he]
      rw [ext0, List.getElem?_cons_zero, optK_some, ext0, List.getElem?_cons_succ, List.getElem?_cons_zero, optK_some]
      refine newC_t h5 fun k9 s6 h6 => ?_
      unfold cf0
      refine stAll_t h6 rfl rfl rfl fun s7 h7 => ?_
      have h8 := h7.ord [2, 0, 1]
      rw [qEnd_t h8, bin_neq, optK_some]
      by_cases hf : T.2.fin = 0
      · have d1 : ((T.2.fin : Int) != 0) = false := by rw [hf]; rfl
        rw [d1, grd_false, bin_neq, optK_some, de, grd_true]
        exact hK _ _ (.inl ⟨rfl, by rw [hD]; rfl, h8.tail.tail.tail.tail⟩)
      · have d1 : ((T.2.fin : Int) != 0) = true := by simp [hf]
        rw [d1, grd_true]
        exact hK _ _ (.inl ⟨rfl, by rw [hD]; rfl, h8.tail.tail.tail.tail⟩)
  · rw [if_neg k2] at hD
    rw [decide_eq_false k2, condV_false, qEnd_t h3, bin_neq, optK_some]
    by_cases hf : R3.fin = 0
    · have d1 : ((R3.fin : Int) != 0) = false := by rw [hf]; rfl
      rw [d1, grd_false, bin_lss, optK_some]
      by_cases hn1 : nn < 1
      · have d2 : decide ((nn : Int) < 1) = true := decide_eq_true (by omega)
        rw [if_pos (by omega)] at hD
        rw [d2, condV_true]
        exact hK _ _ (.inl ⟨rfl, by rw [hD]; rfl, h3.tail.tail⟩)
      · have d2 : decide ((nn : Int) < 1) = false := decide_eq_false (by omega)
        rw [if_neg (by omega)] at hD
        obtain ⟨vl, hok, h9⟩ := RVH.iff.1 (h3.pull 1)
        rw [d2, condV_false, bin_eql, optK_some, e1]
        by_cases k1 : kk = 1
        · rw [if_pos k1] at hD
          rw [decide_eq_true k1, condV_true, nilV_ptr, optK_some, fp_ptr, optK_some, ld_t h9, Nat.zero_add, List.getElem?_cons_succ, List.getElem?_cons_zero, optK_some, max64, optK_some, optK_some, fp_ptr, optK_some, Nat.zero_add]
          refine st_t h9 (by simp) rfl fun s13 h13 => ?_
          exact hK _ _ (.inr ⟨⟨max t.p nn, t.f, t.v⟩, ws, by rw [hD]; rfl, rfl, hp, hu, RVH.iff.2 ⟨vl, hok, h13.drop 2⟩⟩)
        · rw [if_neg k1] at hD
          rw [decide_eq_false k1, condV_false, bin_eql, optK_some, e3]
          by_cases k3 : kk = 3
          · rw [if_pos k3] at hD
            rw [decide_eq_true k3, condV_true, nilV_ptr, optK_some, fp_ptr, optK_some, ld_t h9, Nat.zero_add, List.getElem?_cons_succ, List.getElem?_cons_succ, List.getElem?_cons_zero, optK_some, max64, optK_some, optK_some, fp_ptr, optK_some, Nat.zero_add]
            refine st_t h9 (by simp) rfl fun s13 h13 => ?_
            have e4 : ([V.ptr (some ⟨.new kl, 0⟩), .int .i64 t.p, .int .i64 t.f, vl].set 2 (V.int .i64 ((max t.f nn : Nat) : Int))) = [V.ptr (some ⟨.new kl, 0⟩), .int .i64 t.p, .int .i64 ((max t.f nn : Nat) : Int), vl] := rfl
            rw [e4] at h13
            rw [optK_some, fp_ptr, optK_some, ld_t h13, Nat.zero_add, List.getElem?_cons_succ, List.getElem?_cons_succ, List.getElem?_cons_zero, optK_some]
            have h14 : Hs G (RVH kv kl t.p (max t.f nn) ws :: r) s13 := RVH.iff.2 ⟨vl, hok, h13.drop 2⟩
            refine qAbove_t (from' := max t.f nn) h14 _ ?_
            intro u15 s15 h15
            obtain ⟨vl2, hok2, h16⟩ := RVH.iff.1 h15.swap
            rw [optK_some, fp_ptr, optK_some, Nat.zero_add]
            refine st_t h16 (by simp) (votes_flat h15) fun s17 h17 => ?_
            refine hK _ _ (.inr ⟨⟨t.p, max t.f nn, t.v.filter fun x => decide (max t.f nn ≤ numOf x)⟩, ws.filter fun x => decide (max t.f nn ≤ numOf x), by rw [hD]; rfl, rfl, hp.filter _, up_filter hu _, RVH.iff.2 ⟨u15, ⟨?_, fun y hy => hok.ch y (List.mem_filter.1 hy).1⟩, (h17.drop 1)⟩⟩)
            have := List.length_filter_le (fun x : Vo => decide (max t.f nn ≤ numOf x)) ws
            have := hok.len
            omega
          · rw [if_neg k3] at hD
            rw [decide_eq_false k3, condV_false]
            exact hK _ _ (.inl ⟨rfl, by rw [hD]; rfl, h3.tail.tail⟩)
    · have d1 : ((R3.fin : Int) != 0) = true := by simp [hf]
      rw [if_pos (by omega)] at hD
      rw [d1, grd_true]
      exact hK _ _ (.inl ⟨rfl, by rw [hD]; rfl, h3.tail.tail⟩)
end Go.Proofs.Vt
end
