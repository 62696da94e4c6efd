/- A part of the proofs of the Vote laws: what VoteTells computes; arguments that are rows of ints. -/
import Derived.Test.YtlmjmjpohjdogaaGreatDoorCE
import Derived.Test.YtlmjmjpohjdogaaGreatDoorRxD
set_option linter.unusedVariables false
set_option linter.unusedSimpArgs false
section
/- VoteTells, on the abstract side. -/
namespace Go.Proofs.Vt
open Go Go.Rx Go.Proofs
variable {G : Nat → Option (List V)}

theorem old_ld {s : AS} {b o : Nat} {cs : List V} {v : V} {l : List HP} (h : Hs G l s) (hb : G b = some cs) (hv : cs[o]? = some v) (K : K0) : ld1 (.ptr (some ⟨.old b, o⟩)) s K = K v s := by
  simp only [ld1, ldC, cellsAt, h.old, hb, hv, optK_some]
theorem old_holds {ti : TI} (hti : isAggK ti.kind = false) {s : AS} {b o : Nat} {cs : List V} {v : V} {l : List HP} (h : Hs G l s) (hb : G b = some cs) (hv : cs[o]? = some v) (hs : sameV v v = true) : Rx.holds ti (.ptr (some ⟨.old b, o⟩)) s v = true := by
  simp [Rx.holds, peek, hti, ldC, cellsAt, h.old, hb, hv, hs]
theorem bin_bool_neq (c : Bool) (a b : Bool) : binV .neq (some Kd.bool) c (.bool a) (.bool b) = some (.bool (a != b)) := by simp [binV, eqV, bothNil]; cases a <;> cases b <;> rfl

/-- Rows of ints that were there ahead of the call. -/
structure ArgRows (G : Nat → Option (List V)) (w : Nat) (t : V) (rows : List (List Int)) : Prop where
  sl : ∃ a c, t = .slice a rows.length c true
  el : ∀ i row, rows[i]? = some row → row.length = w ∧ ∃ b o cs, elemPtr none w t (.int .i64 (i : Nat)) = some (.ptr (some ⟨.old b, o⟩)) ∧ G b = some cs ∧ ∀ j z, row[j]? = some z → cs[o + j]? = some (iV z)

def nV (n : Nat) : V := .int .i64 n
abbrev arr (B : List Nat) : AObj := .cells (B.map nV) 0
theorem elem9 {k n : Nat} (hn : n < 9) : elemPtr (some 9) 1 (.ptr (some ⟨.new k, 0⟩)) (.int .i64 (n : Nat)) = some (.ptr (some ⟨.new k, n⟩)) := by rw [elemA_ok hn]; simp
theorem arr_get {B : List Nat} (hB : B.length = 9) {n : Nat} (hn : n < 9) : (B.map nV)[n]? = some (.int .i64 (B.getD n 0 : Nat)) := by
  rw [List.getElem?_map, List.getD_eq_getElem?_getD, List.getElem?_eq_getElem (by omega)]; rfl
theorem getD_set {B : List Nat} (hB : B.length = 9) {n m v : Nat} (hn : n < 9) : (B.set n v).getD m 0 = if m = n then v else B.getD m 0 := by
  rw [List.getD_eq_getElem?_getD, List.getElem?_set, List.getD_eq_getElem?_getD]
  by_cases h : n = m
  · subst h; rw [if_pos rfl, if_pos rfl, if_pos (by omega)]; rfl
  · rw [if_neg h, if_neg (fun e => h e.symm)]

theorem nodup_le {α : Type} [DecidableEq α] : ∀ (l k : List α), l.Nodup → (∀ x ∈ l, x ∈ k) → l.length ≤ k.length
  | [], _, _, _ => Nat.zero_le _
  | a :: l, k, hn, hs => by
    rw [List.nodup_cons] at hn
    have ha := hs a (List.mem_cons_self ..)
    have := nodup_le l (k.erase a) hn.2 fun x hx => (List.mem_erase_of_ne (fun e => hn.1 (by rw [← e]; exact hx))).2 (hs x (List.mem_cons_of_mem _ hx))
    rw [List.length_erase_of_mem ha] at this
    have := List.length_pos_of_mem ha
    rw [List.length_cons]; omega

theorem good_nodup {kv kd p f m : Nat} {vs : List Vo} {r : List HP} {s : AS} (h : Hs G (GoodH kv kd p f vs m :: r) s) : (vs.map numOf).Nodup ∧ ∀ x ∈ vs, x.ok := by
  obtain ⟨S, d, hg, h1⟩ := GoodH.iff.1 h
  obtain ⟨kl, km, hok, h2⟩ := VoterH.iff.1 h1
  obtain ⟨L, clock, ⟨hm, hL⟩, _⟩ := MapH.iff.1 (h2.pull 1)
  have := hm.num
  have e : L.map (fun t => numOf t.1) = vs.map numOf := by rw [← hg.v, ← hL, List.map_map]; rfl
  rw [e] at this
  exact ⟨this, fun x hx => hok.vo x (by rw [hg.v]; exact hx)⟩

theorem room8 {vs : List Vo} (hn : (vs.map numOf).Nodup) (hr : ∀ x ∈ vs, 1 ≤ numOf x ∧ numOf x ≤ 8) {n : Nat} (h : 1 ≤ n ∧ n ≤ 8) : roomF vs n = true := by
  unfold roomF
  by_cases hp : vs.any (fun y => numOf y == n) = true
  · rw [hp]; rfl
  · have hne : ∀ x ∈ vs, numOf x ≠ n := fun x hx e => hp (List.any_eq_true.2 ⟨x, hx, by simpa using e⟩)
    have hl := nodup_le (vs.map numOf) (([1, 2, 3, 4, 5, 6, 7, 8] : List Nat).erase n) hn fun z hz => by
      obtain ⟨x, hx, rfl⟩ := List.mem_map.1 hz
      have h1 := hr x hx
      refine (List.mem_erase_of_ne (hne x hx)).2 ?_
      have : numOf x = 1 ∨ numOf x = 2 ∨ numOf x = 3 ∨ numOf x = 4 ∨ numOf x = 5 ∨ numOf x = 6 ∨ numOf x = 7 ∨ numOf x = 8 := by omega
      rcases this with e | e | e | e | e | e | e | e <;> rw [e] <;> decide
    have hin : n ∈ ([1, 2, 3, 4, 5, 6, 7, 8] : List Nat) := by
      have : n = 1 ∨ n = 2 ∨ n = 3 ∨ n = 4 ∨ n = 5 ∨ n = 6 ∨ n = 7 ∨ n = 8 := by omega
      rcases this with e | e | e | e | e | e | e | e <;> rw [e] <;> decide
    rw [List.length_erase_of_mem hin, List.length_map] at hl
    simp at hl
    rw [decide_eq_true (by omega), Bool.or_true]

/-- What the law's arrays say of the votes. -/
structure Sees (vs : List Vo) (B W : List Nat) (p : Nat) : Prop where
  b : B.length = 9
  w : W.length = 9
  num : ∀ x ∈ vs, 1 ≤ numOf x ∧ numOf x ≤ 8
  to : ∀ x ∈ vs, B.getD (numOf x) 0 = x.b ∧ x.c.chain = [W.getD (numOf x) 0]
  from' : ∀ n, B.getD n 0 ≠ 0 → ∃ x ∈ vs, numOf x = n
  p : p ≤ 50

theorem Sees.put {vs : List Vo} {B W : List Nat} {p : Nat} (h : Sees vs B W p) {x : Vo} (hx : x.ok) (hb : x.b ≤ 50) (hn : 1 ≤ numOf x ∧ numOf x ≤ 8) {w : Nat} (hw : x.c.chain = [w]) : Sees (putVo vs x) (B.set (numOf x) x.b) (W.set (numOf x) w) x.b := by
  have hmem : x ∈ putVo vs x := by
    unfold putVo; split
    · rename_i hex; obtain ⟨y, hy, e⟩ := hex
      exact List.mem_map.2 ⟨y, hy, by rw [if_pos e]⟩
    · simp
  have hmem2 : ∀ y ∈ putVo vs x, y = x ∨ (y ∈ vs ∧ numOf y ≠ numOf x) := by
    intro y hy
    unfold putVo at hy
    split at hy
    · obtain ⟨z, hz, rfl⟩ := List.mem_map.1 hy
      by_cases e : numOf z = numOf x
      · rw [if_pos e]; exact .inl rfl
      · rw [if_neg e]; exact .inr ⟨hz, e⟩
    · rename_i hno
      rcases List.mem_append.1 hy with hy | hy
      · exact .inr ⟨hy, fun e => hno ⟨y, hy, e⟩⟩
      · exact .inl (by simpa using hy)
  have hmem3 : ∀ y ∈ vs, numOf y ≠ numOf x → y ∈ putVo vs x := by
    intro y hy e
    unfold putVo; split
    · exact List.mem_map.2 ⟨y, hy, by rw [if_neg e]⟩
    · exact List.mem_append_left _ hy
  refine ⟨by rw [List.length_set]; exact h.b, by rw [List.length_set]; exact h.w, fun y hy => ?_, fun y hy => ?_, fun n hnz => ?_, hb⟩
  · rcases hmem2 y hy with rfl | ⟨hy, _⟩
    · exact hn
    · exact h.num y hy
  · rw [getD_set h.b (by omega), getD_set h.w (by omega)]
    rcases hmem2 y hy with rfl | ⟨hy, e⟩
    · rw [if_pos rfl, if_pos rfl]; exact ⟨rfl, hw⟩
    · rw [if_neg e, if_neg e]; exact h.to y hy
  · rw [getD_set h.b (by omega)] at hnz
    by_cases e : n = numOf x
    · exact ⟨x, hmem, e.symm⟩
    · rw [if_neg e] at hnz
      obtain ⟨y, hy, e2⟩ := h.from' n hnz
      exact ⟨y, hmem3 y hy (by rw [e2]; exact e), e2⟩

set_option maxHeartbeats 1000000 in
theorem tells_loop1 (hG : ShaG G) {K : KX} {kv kd k7 k8 from' : Nat} {t0 : V} {rows : List (List Int)} (ha : ArgRows G 3 t0 rows) {tm : Tm} {s : AS}
    (h : Hs G [GoodH kv kd 0 0 [] 0, Ob k7 (arr (List.replicate 9 0)), Ob k8 (arr (List.replicate 9 0))] s)
    (e0 : tm.getD 0 .junk = t0) (e1 : tm.getD 1 .junk = .int .i64 from') (e5 : tm.getD 5 .junk = .ptr (some ⟨.new kv, 0⟩)) (e7 : tm.getD 7 .junk = .ptr (some ⟨.new k7, 0⟩)) (e8 : tm.getD 8 .junk = .ptr (some ⟨.new k8, 0⟩)) (e9 : tm.getD 9 .junk = .int .i64 0)
    (hK : ∀ tm' s' p vs m B W, m ≤ 30 → Sees vs B W p → Hs G [GoodH kv kd p 0 vs m, Ob k7 (arr B), Ob k8 (arr W)] s' → tm'.getD 1 .junk = .int .i64 from' → tm'.getD 5 .junk = .ptr (some ⟨.new kv, 0⟩) → tm'.getD 7 .junk = .ptr (some ⟨.new k7, 0⟩) → tm'.getD 8 .junk = .ptr (some ⟨.new k8, 0⟩) → K (.exit 0) tm' s') :
    loopN LOOPS (fun tm s K => sealchainlaw15_VoteTells_L1 disk_New vote_Open sealchainref00_Bring vote_Voter_Promised sealchainlaw15_conf vote_Voter_Accept vote_Voter_Prepare sealchainlaw15_works (tm.getD 0 .junk) (tm.getD 1 .junk) (tm.getD 5 .junk) (tm.getD 7 .junk) (tm.getD 8 .junk) (tm.getD 9 .junk) s K) tm s K := by
  obtain ⟨a, c, rfl⟩ := ha.sl
  refine loop_rule (fun mm tm s1 => ∃ (i p : Nat) (vs : List Vo) (B W : List Nat), mm + i = 30 ∧ i ≤ rows.length + 30 ∧ Sees vs B W p ∧ Hs G [GoodH kv kd p 0 vs i, Ob k7 (arr B), Ob k8 (arr W)] s1 ∧
      tm.getD 0 .junk = .slice a rows.length c true ∧ tm.getD 1 .junk = .int .i64 from' ∧ tm.getD 5 .junk = .ptr (some ⟨.new kv, 0⟩) ∧ tm.getD 7 .junk = .ptr (some ⟨.new k7, 0⟩) ∧ tm.getD 8 .junk = .ptr (some ⟨.new k8, 0⟩) ∧ tm.getD 9 .junk = .int .i64 (i : Nat)) ?_ (m := 30) (by omega)
      ⟨0, 0, [], List.replicate 9 0, List.replicate 9 0, rfl, by omega, ⟨rfl, rfl, by simp, by simp, fun n hn => by
        exfalso; apply hn
        rw [List.getD_eq_getElem?_getD, List.getElem?_replicate]; split <;> rfl, by omega⟩, h, e0, e1, e5, e7, e8, e9⟩
  rintro mm tm s1 Kn ⟨i, p, vs, B, W, hmi, hil, hsee, h1, t0, t1, t5, t7, t8, t9⟩ hnext
  simp only [t0, t1, t5, t7, t8, t9]
  unfold sealchainlaw15_VoteTells_L1
  rw [lenV_slice, optK_some, bin_lss, optK_some]
  by_cases hi : i < rows.length
  · have d1 : decide ((i : Int) < (rows.length : Int)) = true := by simp; omega
    rw [d1, grd_true, bin_lss, optK_some]
    by_cases hi30 : i < 30
    · have d2 : decide ((i : Int) < 30) = true := by simp; omega
      rw [d2, condV_true]
      obtain ⟨row, hrow⟩ : ∃ row, rows[i]? = some row := ⟨rows[i], by simp [hi]⟩
      obtain ⟨hrl, ob, oo, cs, hep, hGb, hcs⟩ := ha.el i row hrow
      obtain ⟨z0, z1, z2, rfl⟩ : ∃ z0 z1 z2, row = [z0, z1, z2] := by
        match row, hrl with
        | [z0, z1, z2], _ => exact ⟨z0, z1, z2, rfl⟩
      have c0 := hcs 0 z0 rfl; have c1 := hcs 1 z1 rfl; have c2 := hcs 2 z2 rfl
      have p0 : elemPtr (some 3) 1 (.ptr (some ⟨.old ob, oo⟩)) (.int .i64 0) = some (.ptr (some ⟨.old ob, oo + 0⟩)) := rfl
      have p1 : elemPtr (some 3) 1 (.ptr (some ⟨.old ob, oo⟩)) (.int .i64 1) = some (.ptr (some ⟨.old ob, oo + 1⟩)) := rfl
      have p2 : elemPtr (some 3) 1 (.ptr (some ⟨.old ob, oo⟩)) (.int .i64 2) = some (.ptr (some ⟨.old ob, oo + 2⟩)) := rfl
      have b50 := bring_lt z0 (n := 50) (by omega)
      have b8 := bring_lt z1 (n := 8) (by omega)
      have b4 := bring_lt z2 (n := 4) (by omega)
      have hb50 : ∀ s K, sealchainref00_Bring (iV z0) (.int .i64 50) s K = K (.int .i64 (bring z0 50)) s := fun s K => Bring_t z0 (n := 50) (by omega) (by omega) s K
      have hb8 : ∀ s K, sealchainref00_Bring (iV z1) (.int .i64 8) s K = K (.int .i64 (bring z1 8)) s := fun s K => Bring_t z1 (n := 8) (by omega) (by omega) s K
      have hb4 : ∀ s K, sealchainref00_Bring (iV z2) (.int .i64 4) s K = K (.int .i64 (bring z2 4)) s := fun s K => Bring_t z2 (n := 4) (by omega) (by omega) s K
      have w1 : IntKind.i64.wrap (1 + (bring z0 50 : Int)) = ((1 + bring z0 50 : Nat) : Int) := by rw [wrap64 (by omega) (by omega)]; omega
      have w2 : IntKind.i64.wrap (1 + (bring z1 8 : Int)) = ((1 + bring z1 8 : Nat) : Int) := by rw [wrap64 (by omega) (by omega)]; omega
      have w3 : IntKind.i64.wrap (10 + (bring z2 4 : Int)) = ((10 + bring z2 4 : Nat) : Int) := by rw [wrap64 (by omega) (by omega)]; omega
      have w4 : IntKind.i64.wrap ((i : Int) + 1) = ((i + 1 : Nat) : Int) := by rw [wrap64 (by omega) (by omega)]; omega
      rw [hep, optK_some, p0, optK_some, old_ld h1 hGb c0, hb50, bin_add, optK_some, w1, optK_some, p1, optK_some, old_ld h1 hGb c1, old_holds rfl h1 hGb c1 (by simp [iV, sameV, same0]), chkB_true, hb8, bin_add, optK_some, w2,
        gPromised h1, optK_some, p2, optK_some, old_ld h1 hGb c2]
      refine conf_t (n := 1 + bring z1 8) (by omega) z2 h1 _ ?_
      rintro _ s2 ⟨cv, rfl, h2⟩
      obtain ⟨x, hx⟩ : ∃ x : Vo, x = ⟨1 + bring z0 50, ⟨1 + bring z1 8, 1, [10 + bring z2 4]⟩⟩ := ⟨_, rfl⟩
      have hxok : x.ok := by rw [hx]; exact conf_ok (by omega) (by omega) z2
      have xb : x.b = 1 + bring z0 50 := by rw [hx]
      have xn : numOf x = 1 + bring z1 8 := by rw [hx]; rfl
      have xc : x.c = ⟨1 + bring z1 8, 1, [10 + bring z2 4]⟩ := by rw [hx]
      obtain ⟨hnd, _⟩ := good_nodup (h2.pull 1)
      have hroom : roomF vs (numOf x) = true := room8 hnd hsee.num (by omega)
      rw [← xc, ← xb]
      have h2' : Hs G (GoodH kv kd p 0 vs i :: NatsH cv x.c.chain :: [Ob k7 (arr B), Ob k8 (arr W)]) s2 := by rw [xc]; exact h2.ord [1, 0]
      refine gAccept hG hxok (by omega) h2' _ ?_
      rintro _ s3 ⟨rfl, h3⟩
      have eAcc : gAcc p 0 vs x = decide (p ≤ x.b) := by unfold gAcc; rw [hroom, Bool.and_true]; congr 1; simp
      have eErr : (if p ≤ x.b ∧ 0 ≤ numOf x ∧ roomF vs (numOf x) = false then (5 : Int) else 0) = 0 := if_neg (by rw [hroom]; simp)
      rw [eAcc] at h3
      rw [eErr, eAcc]
      have dge : decide ((x.b : Int) ≥ (p : Int)) = decide (p ≤ x.b) := by by_cases hh : p ≤ x.b <;> simp [hh]
      have dne : ((0 : Int) != 0) = false := by decide
      rw [ext0, List.getElem?_cons_zero, optK_some, ext0, List.getElem?_cons_succ, List.getElem?_cons_zero, optK_some, bin_neq, optK_some, dne, grd_false, bin_geq, optK_some, dge, bin_bool_neq, optK_some, bne_self_eq_false, condV_false]
      by_cases hpb : p ≤ x.b
      · have dp : decide (p ≤ x.b) = true := by simp [hpb]
        rw [dp] at h3 ⊢
        rw [if_pos rfl, if_pos rfl] at h3
        have hsee' := hsee.put hxok (by omega) (by omega) (w := 10 + bring z2 4) (by rw [xc])
        have en : (1 + bring z1 8) = numOf x := xn.symm
        rw [condV_true, en, elem9 (by omega), optK_some]
        refine st_t (h3.pull 1) (by simp [hsee.b]; omega) rfl fun s4 h4 => ?_
        have eB : (B.map nV).set (numOf x) (.int .i64 (x.b : Nat)) = (B.set (numOf x) x.b).map nV := by rw [List.map_set]; rfl
        rw [eB] at h4
        rw [optK_some, p2, optK_some, old_ld h4 hGb c2, hb4, bin_add, optK_some, w3, elem9 (by omega), optK_some]
        refine st_t (h4.pull 2) (by simp [hsee.w]; omega) rfl fun s5 h5 => ?_
        have eW : (W.map nV).set (numOf x) (.int .i64 ((10 + bring z2 4 : Nat) : Int)) = (W.set (numOf x) (10 + bring z2 4)).map nV := by rw [List.map_set]; rfl
        rw [eW] at h5
        rw [bin_add, optK_some, w4, nx_nrm]
        exact hnext (30 - (i + 1)) _ _ (by omega) ⟨i + 1, x.b, putVo vs x, _, _, by omega, by omega, hsee', h5.ord [2, 1, 0], rfl, rfl, rfl, rfl, rfl, rfl⟩
      · have dp : decide (p ≤ x.b) = false := by simp [hpb]
        rw [dp] at h3 ⊢
        rw [if_neg (by simp), if_neg (by simp)] at h3
        rw [condV_false, bin_add, optK_some, w4, nx_nrm]
        exact hnext (30 - (i + 1)) _ _ (by omega) ⟨i + 1, p, vs, B, W, by omega, by omega, hsee, h3, rfl, rfl, rfl, rfl, rfl, rfl⟩
    · have d2 : decide ((i : Int) < 30) = false := by simp; omega
      rw [d2, condV_false, nx_exit]
      exact hK _ _ p vs i B W (by omega) hsee h1 rfl rfl rfl rfl
  · have d1 : decide ((i : Int) < (rows.length : Int)) = false := by simp; omega
    rw [d1, grd_false, nx_exit]
    exact hK _ _ p vs i B W (by omega) hsee h1 rfl rfl rfl rfl
end Go.Proofs.Vt
end
section
/- VoteTells, on the abstract side: what is told. -/
namespace Go.Proofs.Vt
open Go Go.Rx Go.Proofs
variable {G : Nat → Option (List V)}

/-- How many of the told ones are of numbers ahead of one. -/
structure Cur (ws : List Vo) (k n : Nat) : Prop where
  le : k ≤ ws.length
  lo : ∀ x ∈ ws.take k, numOf x < n
  hi : ∀ x ∈ ws.drop k, n ≤ numOf x

theorem Cur.skip {ws : List Vo} {k n : Nat} (h : Cur ws k n) (hno : ∀ x ∈ ws, numOf x ≠ n) : Cur ws k (n + 1) :=
  ⟨h.le, fun x hx => by have := h.lo x hx; omega, fun x hx => by
    have h1 := h.hi x hx
    have h2 := hno x (List.mem_of_mem_drop hx)
    omega⟩
theorem Cur.here {ws : List Vo} {k n : Nat} (h : Cur ws k n) (hup : ws.Pairwise (fun a b => numOf a < numOf b)) {x : Vo} (hx : x ∈ ws) (hn : numOf x = n) : ws[k]? = some x ∧ Cur ws (k + 1) (n + 1) := by
  have hxd : x ∈ ws.drop k := by
    have : x ∈ ws.take k ++ ws.drop k := by rw [List.take_append_drop]; exact hx
    rcases List.mem_append.1 this with h1 | h1
    · have := h.lo x h1; omega
    · exact h1
  have hdp : (ws.drop k).Pairwise (fun a b => numOf a < numOf b) := hup.sublist (List.drop_sublist _ _)
  cases hd : ws.drop k with
  | nil => rw [hd] at hxd; simp at hxd
  | cons y l =>
    rw [hd] at hxd hdp
    have hyx : y = x := by
      rcases List.mem_cons.1 hxd with e | e
      · exact e.symm
      · have h1 := (List.pairwise_cons.1 hdp).1 x e
        have h2 := h.hi y (by rw [hd]; simp)
        omega
    subst hyx
    have hk : ws[k]? = some y := by
      have : (ws.drop k)[0]? = some y := by rw [hd]; rfl
      rw [List.getElem?_drop] at this; simpa using this
    have hlt := (List.getElem?_eq_some_iff.1 hk).1
    refine ⟨hk, ⟨by omega, fun z hz => ?_, fun z hz => ?_⟩⟩
    · rw [List.take_add_one, hk] at hz
      rcases List.mem_append.1 hz with hz | hz
      · have := h.lo z hz; omega
      · simp at hz; rw [hz]; omega
    · have e : ws.drop (k + 1) = l := by rw [← List.drop_drop, hd]; rfl
      rw [e] at hz
      have := (List.pairwise_cons.1 hdp).1 z hz; omega

set_option maxHeartbeats 1000000 in
theorem tells_loop2 {K : KX} {k7 k8 from' p : Nat} {u : V} {vs ws : List Vo} {B W : List Nat} (hsee : Sees vs B W p) (hw : Told vs from' ws) (hvo : ∀ x ∈ vs, x.ok) (hwl : ws.length ≤ 1000) (hfr : 1 ≤ from' ∧ from' ≤ 9) {tm : Tm} {s : AS} {r : List HP}
    (h : Hs G (VotesH u ws :: Ob k7 (arr B) :: Ob k8 (arr W) :: r) s)
    (e7 : tm.getD 7 .junk = .ptr (some ⟨.new k7, 0⟩)) (e8 : tm.getD 8 .junk = .ptr (some ⟨.new k8, 0⟩)) (e15 : tm.getD 15 .junk = u) (e18 : tm.getD 18 .junk = .int .i64 0) (e19 : tm.getD 19 .junk = .int .i64 from')
    (hK : ∀ tm', tm'.getD 15 .junk = u → tm'.getD 18 .junk = .int .i64 ws.length → K (.exit 2) tm' s) :
    loopN LOOPS (fun tm s K => sealchainlaw15_VoteTells_L2 disk_New vote_Open sealchainref00_Bring vote_Voter_Promised sealchainlaw15_conf vote_Voter_Accept vote_Voter_Prepare sealchainlaw15_works (tm.getD 7 .junk) (tm.getD 8 .junk) (tm.getD 15 .junk) (tm.getD 18 .junk) (tm.getD 19 .junk) s K) tm s K := by
  obtain ⟨ua, uc, uex, rfl⟩ := VotesH.slice h
  have hmem : ∀ x, x ∈ ws ↔ x ∈ vs ∧ from' ≤ numOf x := fun x => by rw [hw.perm.mem_iff, List.mem_filter]; simp
  refine loop_rule (fun mm tm s1 => ∃ (n k : Nat), mm + n = 9 ∧ from' ≤ n ∧ Cur ws k n ∧ s1 = s ∧ tm.getD 7 .junk = .ptr (some ⟨.new k7, 0⟩) ∧ tm.getD 8 .junk = .ptr (some ⟨.new k8, 0⟩) ∧ tm.getD 15 .junk = .slice ua ws.length uc uex ∧ tm.getD 18 .junk = .int .i64 (k : Nat) ∧ tm.getD 19 .junk = .int .i64 (n : Nat)) ?_
    (m := 9 - from') (by omega) ⟨from', 0, by omega, Nat.le_refl _, ⟨Nat.zero_le _, by simp, fun x hx => ((hmem x).1 (by simpa using hx)).2⟩, rfl, e7, e8, e15, e18, e19⟩
  rintro mm tm s1 Kn ⟨n, k, hmn, hfn, hc, rfl, t7, t8, t15, t18, t19⟩ hnext
  simp only [t7, t8, t15, t18, t19]
  unfold sealchainlaw15_VoteTells_L2
  rw [bin_lss, optK_some]
  by_cases hn9 : n < 9
  · have d1 : decide ((n : Int) < 9) = true := by simp; omega
    have w1 : IntKind.i64.wrap ((n : Int) + 1) = ((n + 1 : Nat) : Int) := by rw [wrap64 (by omega) (by omega)]; omega
    have hk' := hc.le
    rw [d1, condV_true, elem9 hn9, optK_some, ld_t (h.pull 1), arr_get hsee.b hn9, optK_some, bin_eql, optK_some]
    by_cases hz : B.getD n 0 = 0
    · have d2 : (((B.getD n 0 : Nat) : Int) == 0) = true := by rw [hz]; rfl
      rw [d2, condV_true, bin_add, optK_some, w1, nx_nrm]
      refine hnext (9 - (n + 1)) _ _ (by omega) ⟨n + 1, k, by omega, by omega, hc.skip fun x hx e => ?_, rfl, rfl, rfl, rfl, rfl, rfl⟩
      have hxv := ((hmem x).1 hx).1
      have h1 := (hsee.to x hxv).1
      have h2 := (hvo x hxv).b
      rw [e, hz] at h1; omega
    · have d2 : (((B.getD n 0 : Nat) : Int) == 0) = false := by simp; exact hz
      obtain ⟨x, hxv, hxn⟩ := hsee.from' n hz
      obtain ⟨hxk, hc'⟩ := hc.here hw.up ((hmem x).2 ⟨hxv, by omega⟩) hxn
      have hlt := (List.getElem?_eq_some_iff.1 hxk).1
      obtain ⟨xb, xch⟩ := hsee.to x hxv
      rw [hxn] at xb xch
      obtain ⟨bb, oo, vv, r', ee, ll, hfl, hch⟩ := votes_elem h hxk .i64
      have xn : (x.c.num : Int) = (n : Int) := by rw [← hxn]; rfl
      have d3 : decide ((k : Int) ≥ (ws.length : Int)) = false := by simp; omega
      have w2 : IntKind.i64.wrap ((k : Int) + 1) = ((k + 1 : Nat) : Int) := by rw [wrap64 (by omega) (by omega)]; omega
      obtain ⟨va, vc, vex, rfl⟩ := slH_slice hch
      have hzl : (zs x.c.chain).length = 1 := by rw [xch]; rfl
      have g0 : ((zs x.c.chain).map iV)[0]? = some (.int .i64 (W.getD n 0 : Nat)) := by rw [xch]; rfl
      obtain ⟨pc, ec, lc⟩ := elem1_t hch g0 .i64
      rw [hzl] at ec ll
      have ec' : elemPtr none 1 (.slice va 1 vc vex) (.int .i64 0) = some (.ptr (some pc)) := ec
      have ln : ∀ K : K0, ld1 (.ptr (some ⟨bb, oo + 1 + 0⟩)) s1 K = K (.int .i64 x.c.num) s1 := fun K => ll 1 _ K rfl
      have lb : ∀ K : K0, ld1 (.ptr (some ⟨bb, oo + 0⟩)) s1 K = K (.int .i64 x.b) s1 := fun K => ll 0 _ K rfl
      have lv : ∀ K : K0, ld1 (.ptr (some ⟨bb, oo + 1 + 2⟩)) s1 K = K (.slice va 1 vc vex) s1 := fun K => ll 3 _ K rfl
      have f11 : (((1 : Nat) : Int) != 1) = false := by decide
      have f1 : ∀ z : Int, (z != z) = false := fun z => by simp
      rw [d2, condV_false, lenV_slice, optK_some, bin_geq, optK_some, d3, grd_false, ee, optK_some, fp_ptr, optK_some, fp_ptr, optK_some, ln, bin_neq, optK_some, xn, f1, grd_false]
      rw [optK_some, fp_ptr, optK_some, lb, optK_some, ld_t (h.pull 1), arr_get hsee.b hn9, optK_some, bin_neq, optK_some, xb, f1, grd_false]
      rw [optK_some, fp_ptr, optK_some, fp_ptr, optK_some, lv, lenV_slice, optK_some, bin_neq, optK_some, f11, grd_false]
      rw [optK_some, fp_ptr, optK_some, fp_ptr, optK_some, lv, ec', optK_some, lc, elem9 hn9, optK_some, ld_t (h.pull 2), arr_get hsee.w hn9, optK_some, bin_neq, optK_some, f1, condV_false, bin_add, optK_some, w2, bin_add, optK_some, w1, nx_nrm]
      exact hnext (9 - (n + 1)) _ _ (by omega) ⟨n + 1, k + 1, by omega, by omega, hc', rfl, rfl, rfl, rfl, rfl, rfl⟩
  · have d1 : decide ((n : Int) < 9) = false := by simp; omega
    rw [d1, condV_false, nx_exit]
    have hkl : k = ws.length := by
      have h1 := hc.le
      cases hd : ws.drop k with
      | nil => have := congrArg List.length hd; simp at this; omega
      | cons y l =>
        have h2 := hc.hi y (by rw [hd]; simp)
        have hy : y ∈ ws := List.mem_of_mem_drop (by rw [hd]; simp)
        have := (hsee.num y ((hmem y).1 hy).1).2
        omega
    subst hkl
    exact hK _ rfl rfl

theorem good_len {kv kd p f m : Nat} {vs : List Vo} {r : List HP} {s : AS} (h : Hs G (GoodH kv kd p f vs m :: r) s) : vs.length ≤ 8 := by
  obtain ⟨S, d, hg, h1⟩ := GoodH.iff.1 h
  obtain ⟨kl, km, hok, h2⟩ := VoterH.iff.1 h1
  have := hok.v; rw [hg.v] at this; exact this

set_option maxHeartbeats 1000000 in
theorem VoteTells_law (hG : ShaG G) {t0 : V} {rows : List (List Int)} (ha : ArgRows G 3 t0 rows) (z : Int) {s : AS} (h : Hs G [] s) : Ens (sealchainlaw15_VoteTells t0 (.int .i64 z)) s fun u _ => u = .bool true := by
  intro K hK
  unfold sealchainlaw15_VoteTells sealchainlaw15_VoteTells_q
  refine gOpen h _ ?_
  rintro _ s1 ⟨kv, kd, rfl, h1⟩
  have d0 : ((0 : Int) != 0) = false := by decide
  have b9 := bring_lt z (n := 9) (by omega)
  have hb9 : ∀ s K, sealchainref00_Bring (.int .i64 z) (.int .i64 9) s K = K (.int .i64 (bring z 9)) s := fun s K => Bring_t z (n := 9) (by omega) (by omega) s K
  have w1 : IntKind.i64.wrap (1 + (bring z 9 : Int)) = ((1 + bring z 9 : Nat) : Int) := by rw [wrap64 (by omega) (by omega)]; omega
  rw [ext0, List.getElem?_cons_zero, optK_some, ext0, List.getElem?_cons_succ, List.getElem?_cons_zero, optK_some, bin_neq, optK_some, d0, grd_false, bin_ptr_nil, Option.isNone_some, optK_some, condV_false, hb9, bin_add, optK_some, w1]
  refine newC_t h1 fun k7 s2 h2 => ?_
  refine newC_t h2 fun k8 s3 h3 => ?_
  refine tells_loop1 hG (kv := kv) (kd := kd) (k7 := k7) (k8 := k8) (from' := 1 + bring z 9) ha (h3.ord [2, 1, 0]) rfl rfl rfl rfl rfl rfl ?_
  intro tm s4 p vs m B W hm hsee h4 e1 e5 e7 e8
  simp only [exX_exit, beq_self_eq_true, exB_true, e1, e5, e7, e8]
  obtain ⟨_, hvo⟩ := good_nodup h4
  have hvl := good_len h4
  have hp50 := hsee.p
  refine gPrepare hG (b := 1000) (n := 1 + bring z 9) (by omega) (by omega) (by omega) h4 _ ?_
  rintro _ s5 ⟨v, ws, rfl, hw, _, h5⟩
  have hwt := hw (by omega)
  have hwl : ws.length ≤ 1000 := by
    have := hwt.perm.length_eq
    have := List.length_filter_le (fun x => decide (1 + bring z 9 ≤ numOf x)) vs
    omega
  have dp : decide (p ≤ 1000) = true := by simp; omega
  rw [ext0, List.getElem?_cons_zero, optK_some, ext0, List.getElem?_cons_succ, List.getElem?_cons_zero, optK_some, ext0, List.getElem?_cons_succ, List.getElem?_cons_succ, List.getElem?_cons_zero, optK_some, bin_neq, optK_some, d0, grd_false, dp, un_not, optK_some, Bool.not_true, condV_false]
  refine tells_loop2 hsee hwt hvo hwl (by omega) (h5.ord [0, 2, 3]) rfl rfl rfl rfl rfl ?_
  intro tm2 f15 f18
  simp only [exX_exit, beq_self_eq_true, exB_true, f15, f18]
  obtain ⟨a, c, ex, rfl⟩ := VotesH.slice h5
  simp only [lenV_slice, optK_some, bin_eql, beq_self_eq_true, grd_true]
  refine works_t hG h5 _ ?_
  rintro _ s6 ⟨rfl, _⟩
  exact hK _ _ rfl
end Go.Proofs.Vt
end
section
/- Arguments that are rows of ints. -/
namespace Go.Proofs.Vt
open Go Go.Rx Go.Proofs

def rowAt (W : World) (a : Addr) (w i : Nat) : List Int := (List.range w).map fun j => match W.cell? (a.add (i * w + j)) with | some (.int _ z) => z | _ => 0

theorem argRows_of {H : Type} {enc : TypeId × Value → H} {P : Program} {W : World} {t e ei : TypeId} {w : Nat} (hw : 0 < w) (ht : P.underlying t = some (.slice e)) (he : P.underlying e = some (.array w ei)) (hei : P.underlying ei = some (.int .i64)) (hce : P.cellsOf e = w) (hci : P.cellsOf ei = 1)
    {base b0 : Nat} {spare : Nat → Bool} {held : Bool} {v : Value} {d : DataW H} {ps : List MemPlace} {r : Reach} (hval : Value.okWide P W r b0 t v) (h : DataW.Trod enc P W base spare held t v d ps) : ∃ rows, ArgRows (oldOf W) w (cvV v) rows := by
  obtain ⟨fuel, h⟩ := h
  rcases DataW.trod_slice ht h with ⟨hc, _⟩ | ⟨a, len, cap, elems, rest, n, rfl, hc, _, hb, hl, hm, hlen, hel, _, _⟩
  · have hv : v = .slice none 0 0 := by
      cases v <;> simp [Value.cells] at hc <;> simp_all [Value.okWide, Cell.okWide, Cell.ok]
    subst hv
    exact ⟨[], ⟨none, 0, rfl⟩, fun i row hr => by simp at hr⟩
  · have hv : v = .slice (some a) len cap := by
      cases v <;> simp [Value.cells] at hc <;> simp_all [Value.okWide, Cell.okWide, Cell.ok]
    subst hv
    have hsp : a.spot = none := by
      unfold Value.okWide at hval
      rw [ht] at hval
      simp only [Cell.okWide, ht] at hval
      simp only [Cell.ok, ht] at hval
      exact hval.2.2.2.1
    obtain ⟨ab, ao, sp⟩ := a
    simp only at hsp
    subst hsp
    refine ⟨(List.range len).map (rowAt W ⟨ab, ao, none⟩ w), ⟨some ⟨.old ab, ao⟩, cap, by rw [List.length_map, List.length_range]; rfl⟩, fun i row hr => ?_⟩
    obtain ⟨hi, rfl⟩ : i < len ∧ row = rowAt W ⟨ab, ao, none⟩ w i := by
      rw [List.getElem?_map] at hr
      by_cases hi : i < len
      · simp [hi] at hr; exact ⟨hi, hr.symm⟩
      · rw [List.getElem?_eq_none (by simpa using hi)] at hr; simp at hr
    have hx := hel i hi
    obtain ⟨y, hy⟩ : ∃ y, elems[i]? = some y := ⟨elems[i]'(by omega), by simp [show i < elems.length by omega]⟩
    rw [hy, Option.bind_eq_some_iff, hce] at hx
    obtain ⟨l, hcl, htr⟩ := hx
    obtain ⟨_, hll, hcell⟩ := World.cells?_some hcl
    obtain ⟨xs, m, _, _, _, hxl, hxs⟩ := DataW.trod_array he htr
    have each : ∀ j, j < w → ∃ z, W.cell? ⟨ab, ao + (i * w + j), none⟩ = some (.int .i64 z) := by
      intro j hj
      have h1 := hxs j hj
      obtain ⟨q, hq⟩ : ∃ q, xs[j]? = some q := ⟨xs[j]'(by omega), by simp [show j < xs.length by omega]⟩
      rw [hq, hci] at h1
      obtain ⟨z, hz, _, _⟩ := DataW.trod_int hei h1
      have h2 := hcell j hj
      have e1 : (Addr.add (Addr.add ⟨ab, ao, none⟩ (i * w)) j) = ⟨ab, ao + (i * w + j), none⟩ := by rw [add_mk, add_mk, Nat.add_assoc]
      rw [e1] at h2
      refine ⟨z, h2.trans ?_⟩
      have := congrArg (·[0]?) hz
      simpa [List.getElem?_take, List.getElem?_drop] using this
    obtain ⟨z0, hz0⟩ := each 0 hw
    have hblk : ∃ cs e' fr, W.heap[ab]? = some (.cells cs e' fr) := by
      unfold World.cell? at hz0
      simp only at hz0
      split at hz0
      · rename_i cs e' fr hh; exact ⟨cs, e', fr, hh⟩
      · simp at hz0
    obtain ⟨cs, e', fr, hblk⟩ := hblk
    refine ⟨by simp [rowAt], ab, ao + i * w, cs.toList.map cvV, ?_, ?_, fun j z hz => ?_⟩
    · exact elem_ok hi (.inl rfl)
    · unfold oldOf; rw [hblk]
    · have hj : j < w := by
        have := (List.getElem?_eq_some_iff.1 hz).1; simpa [rowAt] using this
      obtain ⟨z', hz'⟩ := each j hj
      have hzz : z = z' := by
        unfold rowAt at hz
        rw [List.getElem?_map] at hz
        simp only [hj, List.getElem?_range, Option.map_some, Option.some.injEq] at hz
        have e1 : (Addr.add ⟨ab, ao, none⟩ (i * w + j)) = ⟨ab, ao + (i * w + j), none⟩ := by rw [add_mk]
        rw [e1, hz'] at hz
        exact hz.symm
      subst hzz
      unfold World.cell? at hz'
      simp only [hblk] at hz'
      have h3 : cs[ao + (i * w + j)]? = some (.int .i64 z) := by simpa using hz'
      rw [List.getElem?_map, Nat.add_assoc]
      have h4 : cs.toList[ao + (i * w + j)]? = some (.int .i64 z) := by simpa using h3
      rw [h4]; rfl
end Go.Proofs.Vt
end
