/- A part of the proof of VoteLasts: what the law's function computes; arguments that are calls. -/
import Derived.Test.YtlmjmjpohjdogaaGreatDoorLastsSem
import Derived.Test.YtlmjmjpohjdogaaGreatDoorLawGen
set_option linter.unusedVariables false
set_option linter.unusedSimpArgs false
section
/- VoteLasts: what follows each call. -/
namespace Go.Proofs.Vt
open Go Go.Rx Go.Proofs
variable {G : Nat → Option (List V)}

/-- What follows each call (as printed). -/
noncomputable def lastsTail (t0 t3 t4 t6 t7 t56 : V) : AS → KX → Prop := fun s4 K =>
 ((vote_Voter_Promised t4) s4 fun t143 s4 =>
 (optK (binV .lss (some (Kd.int .i64)) false t143 t56) s4 fun t145 s4 => (condV t145
 (K .ret (V.junk :: (V.junk :: ((V.bool false) :: (jk 163 [])))) s4)
 ((disk_Disk_Dead t3) s4 fun t147 s4 =>
 (condV t147
 ((disk_Disk_Revive t3) s4 fun t149 s4 =>
 ((vote_Open t3) s4 fun t152 s4 =>
 (optK (extractV t152 0) s4 fun t153 s4 => (optK (extractV t152 1) s4 fun t154 s4 => (optK (binV .neq (some (Kd.int .i64)) true t154 (V.int .i64 0)) s4 fun t156 s4 => (grd t156
 (K .ret (V.junk :: (V.junk :: ((V.bool false) :: (jk 163 [])))) s4)
 (optK (binV .eql (some (Kd.ptr 69)) true t153 (V.ptr none)) s4 fun t159 s4 => (condV t159
 (K .ret (V.junk :: (V.junk :: ((V.bool false) :: (jk 163 [])))) s4)
 ((ldA 13 t6) s4 fun t162 s4 =>
 ((sealchainlaw15_told_holds t162 t153) s4 fun t164 s4 =>
 (optK (unV .not t164) s4 fun t165 s4 => (condV t165
 (K .ret (V.junk :: (V.junk :: ((V.bool false) :: (jk 163 [])))) s4)
 (optK (binV .add (some (Kd.int .i64)) true t7 (V.int .i64 1)) s4 fun t42 s4 => (K .nrm (t0 :: (V.junk :: (V.junk :: (t3 :: (t153 :: (V.junk :: (t6 :: (t42 :: (jk 158 []))))))))) s4))))))))
 False))))))
 ((ldA 13 t6) s4 fun t162 s4 =>
 ((sealchainlaw15_told_holds t162 t4) s4 fun t164 s4 =>
 (optK (unV .not t164) s4 fun t165 s4 => (condV t165
 (K .ret (V.junk :: (V.junk :: ((V.bool false) :: (jk 163 [])))) s4)
 (optK (binV .add (some (Kd.int .i64)) true t7 (V.int .i64 1)) s4 fun t42 s4 => (K .nrm (t0 :: (V.junk :: (V.junk :: (t3 :: (t4 :: (V.junk :: (t6 :: (t42 :: (jk 158 []))))))))) s4)))))))))))

noncomputable def lastsTm (t0 t3 t4 t6 t42 : V) : Tm := (t0 :: (V.junk :: (V.junk :: (t3 :: (t4 :: (V.junk :: (t6 :: (t42 :: (jk 158 [])))))))))

theorem lasts_tail (hG : ShaG G) {K : KX} {Kn : Tm → AS → Prop} {S : VS} {d : DS} {T was m nt i kv kd k6 : Nat} {B : List Nat} {t0 : V} {r : List HP} {s : AS} (hmid : Mid S d T B was m) (hB : B.length = 12) (hm : m ≤ 900) (hi : i < 1000)
    (h : Hs G (VoterH kv kd S :: DiskH kd d nt :: Ob k6 (arr (T :: B)) :: r) s)
    (hK : ∀ kv' S' d' ds t s', LI S' d' ds t m → Said T B S'.p S'.f S'.votes → Hs G (VoterH kv' kd S' :: DiskH kd d' nt :: Ob k6 (arr (T :: B)) :: r) s' → Kn (lastsTm t0 (.ptr (some ⟨.new kd, 0⟩)) (.ptr (some ⟨.new kv', 0⟩)) (.ptr (some ⟨.new k6, 0⟩)) (.int .i64 ((i + 1 : Nat) : Int))) s') :
    lastsTail t0 (.ptr (some ⟨.new kd, 0⟩)) (.ptr (some ⟨.new kv, 0⟩)) (.ptr (some ⟨.new k6, 0⟩)) (.int .i64 (i : Nat)) (.int .i64 (was : Nat)) s (nx Kn K) := by
  obtain ⟨hwas, hcase⟩ := hmid
  have d1 : decide ((S.p : Int) < (was : Int)) = false := decide_eq_false (by omega)
  have w1 : IntKind.i64.wrap ((i : Int) + 1) = ((i + 1 : Nat) : Int) := by rw [wrap64 (by omega) (by omega)]; omega
  have ea : ((T :: B).map nV).length = 13 := by simp [hB]
  have d0 : ((0 : Int) != 0) = false := by decide
  unfold lastsTail
  rw [Promised_t h, bin_lss, optK_some, d1, condV_false, dDead_t (h.pull 1)]
  rcases hcase with ⟨ds, t, hli, hsaid⟩ | ⟨ds, t, hdi, hsaid, hwp⟩
  · rw [hli.dd, condV_false, ldAll_t (h.pull 2) ea]
    refine told_t hB hsaid h _ ?_
    rintro _ s2 ⟨rfl, h2⟩
    rw [un_not, optK_some]
    show condV (.bool false) _ _
    rw [condV_false, bin_add, optK_some, w1, nx_nrm]
    exact hK _ _ _ _ _ _ hli hsaid h2
  · rw [hdi.dd, condV_true]
    refine dRevive_t (h.pull 1) _ ?_
    rintro _ s2 ⟨rfl, h2⟩
    have hbig := hdi.big
    have hlen := hdi.len
    refine vOpen_t hG (d := ⟨d.bs, d.sy, false, .always⟩) rfl hdi.scan hdi.le (by show d.bs.length ≤ _; omega) hdi.ok (by omega) hdi.run h2 _ ?_
    rintro _ s3 ⟨kw, rfl, h3⟩
    rw [ext0, List.getElem?_cons_zero, optK_some, ext0, List.getElem?_cons_succ, List.getElem?_cons_zero, optK_some, bin_neq, optK_some, d0, grd_false, bin_ptr_nil, Option.isNone_some, optK_some, condV_false, ldAll_t (h3.pull 3) ea]
    have hli := hdi.opened
    refine told_t hB hsaid (S := t.with (ds.map Deed.row)) h3 _ ?_
    rintro _ s4 ⟨rfl, h4⟩
    rw [un_not, optK_some]
    show condV (.bool false) _ _
    rw [condV_false, bin_add, optK_some, w1, nx_nrm]
    exact hK _ _ _ _ _ _ hli hsaid (h4.ord [0, 1, 3, 2] |>.drop 3)
end Go.Proofs.Vt
end
section
/- VoteLasts, on the abstract side. (Printed by tools/lastsgen.py.) -/
namespace Go.Proofs.Vt
open Go Go.Rx Go.Proofs
variable {G : Nat → Option (List V)}

/-- Calls that were there ahead of the call: kind, A, B of each. -/
structure ArgDos (G : Nat → Option (List V)) (t : V) (dos : List (Int × Int × Int)) : Prop where
  sl : ∃ a c, t = .slice a dos.length c true
  el : ∀ i k a b, dos[i]? = some (k, a, b) → ∃ ob oo cs w3 w4 w5, elemPtr none 6 t (.int .i64 (i : Nat)) = some (.ptr (some ⟨.old ob, oo⟩)) ∧ G ob = some cs ∧ oo + 6 ≤ cs.length ∧ (cs.drop oo).take 6 = [iV k, iV a, iV b, w3, w4, w5] ∧ [iV k, iV a, iV b, w3, w4, w5].all flatV = true

theorem old_ldA {s : AS} {b o n : Nat} {cs : List V} {l : List HP} (h : Hs G l s) (hb : G b = some cs) (hn : o + n ≤ cs.length) (K : K0) : ldA n (.ptr (some ⟨.old b, o⟩)) s K = K (.agg ((cs.drop o).take n)) s := by
  simp [ldA, ldN, cellsAt, h.old, hb, hn]

set_option maxHeartbeats 4000000 in
theorem lasts_loop (hG : ShaG G) {K : KX} {kv kd k6 : Nat} {t0 : V} {dos : List (Int × Int × Int)} (ha : ArgDos G t0 dos) {tm : Tm} {s : AS} {S : VS} {d : DS} {ds : List Deed} {t : Vst} (hli : LI S d ds t 10) (hsaid : Said 0 (List.replicate 12 0) S.p S.f S.votes)
    (h : Hs G [VoterH kv kd S, DiskH kd d 0, Ob k6 (arr (0 :: List.replicate 12 0))] s)
    (e0 : tm.getD 0 .junk = t0) (e3 : tm.getD 3 .junk = .ptr (some ⟨.new kd, 0⟩)) (e4 : tm.getD 4 .junk = .ptr (some ⟨.new kv, 0⟩)) (e6 : tm.getD 6 .junk = .ptr (some ⟨.new k6, 0⟩)) (e7 : tm.getD 7 .junk = .int .i64 0)
    (hK : ∀ tm' s', K (.exit 0) tm' s') :
    loopN LOOPS (fun tm s K => sealchainlaw15_VoteLasts_L1 sealchainlaw15_works disk_New vote_Open sealchainref00_Bring vote_Voter_Promised vote_Voter_Prepare vote_Voter_Forget disk_Disk_Arm disk_Disk_Crash sealchainlaw15_conf vote_Voter_Accept vote_Voter_Floor disk_Disk_Dead disk_Disk_Revive sealchainlaw15_told_holds
      (tm.getD 0 .junk) (tm.getD 3 .junk) (tm.getD 4 .junk) (tm.getD 6 .junk) (tm.getD 7 .junk) s K) tm s K := by
  obtain ⟨a, c, rfl⟩ := ha.sl
  refine loop_rule (fun mm tm s1 => ∃ (i kv : Nat) (S : VS) (d : DS) (ds : List Deed) (t : Vst) (T : Nat) (B : List Nat), mm + i = 60 ∧ LI S d ds t (10 + i) ∧ Said T B S.p S.f S.votes ∧ B.length = 12 ∧ Hs G [VoterH kv kd S, DiskH kd d i, Ob k6 (arr (T :: B))] s1 ∧
      tm.getD 0 .junk = .slice a dos.length c true ∧ tm.getD 3 .junk = .ptr (some ⟨.new kd, 0⟩) ∧ tm.getD 4 .junk = .ptr (some ⟨.new kv, 0⟩) ∧ tm.getD 6 .junk = .ptr (some ⟨.new k6, 0⟩) ∧ tm.getD 7 .junk = .int .i64 (i : Nat)) ?_ (m := 60) (by omega)
      ⟨0, kv, S, d, ds, t, 0, List.replicate 12 0, rfl, hli, hsaid, rfl, h, e0, e3, e4, e6, e7⟩
  clear hli hsaid h e0 e3 e4 e6 e7
  rintro mm tm s1 Kn ⟨i, kv, S, d, ds, t, T, B, hmi, hli, hsaid, hB, h1, t0, t3, t4, t6, t7⟩ hnext
  simp only [t0, t3, t4, t6, t7]
  unfold sealchainlaw15_VoteLasts_L1
  rw [lenV_slice, optK_some, bin_lss, optK_some]
  by_cases hi : i < dos.length
  · have d1 : decide ((i : Int) < (dos.length : Int)) = true := decide_eq_true (by omega)
    rw [d1, grd_true, bin_lss, optK_some]
    by_cases hi60 : i < 60
    · have d2 : decide ((i : Int) < 60) = true := decide_eq_true (by omega)
      rw [d2, condV_true]
      obtain ⟨zk, za, zb, hdo⟩ : ∃ zk za zb, dos[i]? = some (zk, za, zb) := ⟨dos[i].1, dos[i].2.1, dos[i].2.2, by simp [hi]⟩
      obtain ⟨ob, oo, cs, w3, w4, w5, hep, hGb, hle, hcs, hfl⟩ := ha.el i zk za zb hdo
      have hok : S.ok := by
        obtain ⟨_, _, hok, _⟩ := VoterH.iff.1 h1
        exact hok
      have hrows : S.rows.length < 1000000 := by rw [hli.rows, List.length_map]; have := hli.len; omega
      have ba := bring_lt za (n := 30) (by omega)
      have bb := bring_lt zb (n := 11) (by omega)
      have bk := bring_lt zk (n := 9) (by omega)
      have b4 := bring_lt za (n := 4) (by omega)
      have ha30 : ∀ s K, sealchainref00_Bring (iV za) (.int .i64 30) s K = K (.int .i64 (bring za 30)) s := fun s K => Bring_t za (n := 30) (by omega) (by omega) s K
      have ha40 : ∀ s K, sealchainref00_Bring (iV za) (.int .i64 40) s K = K (.int .i64 (bring za 40)) s := fun s K => Bring_t za (n := 40) (by omega) (by omega) s K
      have hb11 : ∀ s K, sealchainref00_Bring (iV zb) (.int .i64 11) s K = K (.int .i64 (bring zb 11)) s := fun s K => Bring_t zb (n := 11) (by omega) (by omega) s K
      have hb9 : ∀ s K, sealchainref00_Bring (iV zb) (.int .i64 9) s K = K (.int .i64 (bring zb 9)) s := fun s K => Bring_t zb (n := 9) (by omega) (by omega) s K
      have hk9 : ∀ s K, sealchainref00_Bring (iV zk) (.int .i64 9) s K = K (.int .i64 (bring zk 9)) s := fun s K => Bring_t zk (n := 9) (by omega) (by omega) s K
      have wa : IntKind.i64.wrap (1 + (bring za 30 : Int)) = ((1 + bring za 30 : Nat) : Int) := by rw [wrap64 (by omega) (by omega)]; omega
      have wb : IntKind.i64.wrap (1 + (bring zb 11 : Int)) = ((1 + bring zb 11 : Nat) : Int) := by rw [wrap64 (by omega) (by omega)]; omega
      rw [hep, optK_some, old_ldA h1 hGb hle, hcs]
      refine newC_t h1 fun k8 s2 h2 => ?_
      refine stAll_t h2 rfl rfl hfl fun s3 h3 => ?_
      have f0 : fp 0 (.ptr (some ⟨.new k8, 0⟩)) = some (.ptr (some ⟨.new k8, 0⟩)) := rfl
      have f1 : fp 1 (.ptr (some ⟨.new k8, 0⟩)) = some (.ptr (some ⟨.new k8, 1⟩)) := rfl
      have f2 : fp 2 (.ptr (some ⟨.new k8, 0⟩)) = some (.ptr (some ⟨.new k8, 2⟩)) := rfl
      have g0 : fp 0 (.ptr (some ⟨.new k6, 0⟩)) = some (.ptr (some ⟨.new k6, 0⟩)) := rfl
      have g1 : fp 1 (.ptr (some ⟨.new k6, 0⟩)) = some (.ptr (some ⟨.new k6, 1⟩)) := rfl
      have q0 : ([iV zk, iV za, iV zb, w3, w4, w5] : List V)[0]? = some (iV zk) := rfl
      have q1 : ([iV zk, iV za, iV zb, w3, w4, w5] : List V)[1]? = some (iV za) := rfl
      have q2 : ([iV zk, iV za, iV zb, w3, w4, w5] : List V)[2]? = some (iV zb) := rfl
      have hh := Rx.holds_t (ti := ti3) rfl h3 (o := 2) (v := iV zb) rfl (by simp [iV, sameV, same0])
      rw [f1, optK_some, ld_t h3, q1, optK_some, ha30, bin_add, optK_some, wa, f2, optK_some, ld_t h3, q2, optK_some, hh, chkB_true, hb11, bin_add, optK_some, wb, Promised_t (h3.pull 1), f0, optK_some, ld_t h3, q0, optK_some, hk9]
      obtain ⟨bal, hbal⟩ : ∃ bal, bal = 1 + bring za 30 := ⟨_, rfl⟩
      obtain ⟨num, hnum⟩ : ∃ num, num = 1 + bring zb 11 := ⟨_, rfl⟩
      obtain ⟨kd9, hkd9⟩ : ∃ kd9, kd9 = bring zk 9 := ⟨_, rfl⟩
      rw [← hkd9] at bk ⊢
      rw [← hbal, ← hnum]
      have hb : 1 ≤ bal ∧ bal ≤ 9007199254740991 := by omega
      have hn : 1 ≤ num ∧ num ≤ 9007199254740991 := by omega
      have hT := hsaid.p
      have h4 := h3.ord [1, 2, 3, 0]
      have dge : decide ((bal : Int) ≥ (S.p : Int)) = decide (S.p ≤ bal) := by by_cases hh : S.p ≤ bal <;> simp [hh]
      have emax : foldV max2V (nV T) [.int .i64 bal] = some (nV (max T bal)) := by
        show some (V.int .i64 (if (bal : Int) > (T : Int) then bal else T)) = _
        unfold nV; congr 2; split <;> omega
      have eq0 : ((T :: B).map nV)[0]? = some (nV T) := rfl
      have nxt : ∀ T' B', B'.length = 12 → ∀ kv' S' d' ds t s', LI S' d' ds t (10 + i + 1) → Said T' B' S'.p S'.f S'.votes → Hs G [VoterH kv' kd S', DiskH kd d' (i + 1), Ob k6 (arr (T' :: B'))] s' → Kn (lastsTm (.slice a dos.length c true) (.ptr (some ⟨.new kd, 0⟩)) (.ptr (some ⟨.new kv', 0⟩)) (.ptr (some ⟨.new k6, 0⟩)) (.int .i64 ((i + 1 : Nat) : Int))) s' :=
        fun T' B' hB' kv' S' d' ds t s' g1 g2 g3 => hnext (60 - (i + 1)) _ _ (by omega) ⟨i + 1, kv', S', d', ds, t, T', B', by omega, g1, g2, hB', g3, rfl, rfl, rfl, rfl, rfl⟩
      have deq : ∀ q : Nat, (((kd9 : Nat) : Int) == ((q : Nat) : Int)) = decide (kd9 = q) := fun q => by
        by_cases hh : kd9 = q
        · rw [hh]; simp
        · rw [decide_eq_false hh]; simp; omega
      have deq0 := deq 0; have deq1 := deq 1; have deq5 := deq 5; have deq6 := deq 6; have deq7 := deq 7; have deq8 := deq 8
      have sq0 : ((kd9 : Int) == 0) = decide (kd9 = 0) := deq0
      have sq1 : ((kd9 : Int) == 1) = decide (kd9 = 1) := deq1
      have sq5 : ((kd9 : Int) == 5) = decide (kd9 = 5) := deq5
      have sq6 : ((kd9 : Int) == 6) = decide (kd9 = 6) := deq6
      have sq7 : ((kd9 : Int) == 7) = decide (kd9 = 7) := deq7
      have sq8 : ((kd9 : Int) == 8) = decide (kd9 = 8) := deq8
      have hkinds : kd9 = 0 ∨ kd9 = 1 ∨ kd9 = 5 ∨ kd9 = 6 ∨ kd9 = 7 ∨ kd9 = 8 ∨ (kd9 ≠ 0 ∧ kd9 ≠ 1 ∧ kd9 ≠ 5 ∧ kd9 ≠ 6 ∧ kd9 ≠ 7 ∧ kd9 ≠ 8) := by omega
      rw [bin_eql, optK_some, sq0]
      rcases hkinds with e | e | e | e | e | e | ⟨n0, n1, n5, n6, n7, n8⟩
      · rw [decide_eq_true e, condV_true, condV_true]
        refine Prepare_t hG (b := bal) (n := num) hb hn hli.sd hrows (by omega) h4 _ ?_
        rintro _ s5 ⟨v, ws, rfl, _, _, h5⟩
        have hmid := mid_prep hli hsaid hb (by omega)
        rw [ext0, List.getElem?_cons_zero, optK_some, ext0, List.getElem?_cons_succ, List.getElem?_cons_zero, optK_some, ext0, List.getElem?_cons_succ, List.getElem?_cons_succ, List.getElem?_cons_zero, optK_some, bin_eql, optK_some]
        have h6 := h5.ord [1, 2, 3] |>.drop 3 |>.drop 3
        by_cases hE : prepE S d bal = 0
        · have dE : (prepE S d bal == 0) = true := by rw [hE]; rfl
          have eOk : prepOk S d bal = decide (S.p ≤ bal) := by unfold prepOk; rw [hE]; simp
          rw [eOk] at hmid ⊢
          rw [dE, grd_true, bin_geq, optK_some, dge, bin_bool_neq, optK_some, bne_self_eq_false, condV_false]
          by_cases hp : S.p ≤ bal
          · rw [decide_eq_true hp, if_pos rfl] at hmid
            rw [decide_eq_true hp, condV_true, g0, optK_some, ld_t (h6.pull 2), eq0, optK_some, emax, optK_some, optK_some]
            refine st_t (h6.pull 2) (by simp) rfl fun s7 h7 => ?_
            exact lasts_tail hG (T := max T bal) (B := B) (r := []) hmid hB (by omega) (by omega) (h7.ord [1, 2, 0]) (nxt _ _ hB)
          · rw [decide_eq_false hp, if_neg (by simp)] at hmid
            rw [decide_eq_false hp, condV_false]
            exact lasts_tail hG (r := []) hmid hB (by omega) (by omega) h6 (nxt _ _ hB)
        · have dE : (prepE S d bal == 0) = false := by simp [hE]
          have eOk : prepOk S d bal = false := by unfold prepOk; rw [dE, Bool.and_false]
          rw [eOk, if_neg (by simp)] at hmid
          rw [eOk, dE, grd_false, bin_bool_neq, optK_some, bne_self_eq_false, condV_false, condV_false]
          exact lasts_tail hG (r := []) hmid hB (by omega) (by omega) h6 (nxt _ _ hB)
      · rw [decide_eq_false (show ¬ kd9 = 0 by omega), condV_false, bin_eql, optK_some, sq1, decide_eq_true e, condV_true]
        refine Prepare_t hG (b := bal) (n := num) hb hn hli.sd hrows (by omega) h4 _ ?_
        rintro _ s5 ⟨v, ws, rfl, _, _, h5⟩
        have hmid := mid_prep hli hsaid hb (by omega)
        rw [ext0, List.getElem?_cons_zero, optK_some, ext0, List.getElem?_cons_succ, List.getElem?_cons_zero, optK_some, ext0, List.getElem?_cons_succ, List.getElem?_cons_succ, List.getElem?_cons_zero, optK_some, bin_eql, optK_some]
        have h6 := h5.ord [1, 2, 3] |>.drop 3 |>.drop 3
        by_cases hE : prepE S d bal = 0
        · have dE : (prepE S d bal == 0) = true := by rw [hE]; rfl
          have eOk : prepOk S d bal = decide (S.p ≤ bal) := by unfold prepOk; rw [hE]; simp
          rw [eOk] at hmid ⊢
          rw [dE, grd_true, bin_geq, optK_some, dge, bin_bool_neq, optK_some, bne_self_eq_false, condV_false]
          by_cases hp : S.p ≤ bal
          · rw [decide_eq_true hp, if_pos rfl] at hmid
            rw [decide_eq_true hp, condV_true, g0, optK_some, ld_t (h6.pull 2), eq0, optK_some, emax, optK_some, optK_some]
            refine st_t (h6.pull 2) (by simp) rfl fun s7 h7 => ?_
            exact lasts_tail hG (T := max T bal) (B := B) (r := []) hmid hB (by omega) (by omega) (h7.ord [1, 2, 0]) (nxt _ _ hB)
          · rw [decide_eq_false hp, if_neg (by simp)] at hmid
            rw [decide_eq_false hp, condV_false]
            exact lasts_tail hG (r := []) hmid hB (by omega) (by omega) h6 (nxt _ _ hB)
        · have dE : (prepE S d bal == 0) = false := by simp [hE]
          have eOk : prepOk S d bal = false := by unfold prepOk; rw [dE, Bool.and_false]
          rw [eOk, if_neg (by simp)] at hmid
          rw [eOk, dE, grd_false, bin_bool_neq, optK_some, bne_self_eq_false, condV_false, condV_false]
          exact lasts_tail hG (r := []) hmid hB (by omega) (by omega) h6 (nxt _ _ hB)
      · rw [decide_eq_false (show ¬ kd9 = 0 by omega), condV_false, bin_eql, optK_some, sq1, decide_eq_false (show ¬ kd9 = 1 by omega), condV_false, bin_eql, optK_some, sq5, decide_eq_true e, condV_true]
        by_cases hbf : num ≤ S.f
        · refine ForgetLo_t hn hli.sd hbf h4 _ ?_
          have hmid := mid_same hli hsaid
          have h6 := (DiskH.mono (h4.pull 1) (Nat.le_succ i) (by omega)).ord [1, 0, 2] |>.drop 3
          exact lasts_tail hG (r := []) hmid hB (by omega) (by omega) h6 (nxt _ _ hB)
        · refine Forget_t hG hn hli.sd hbf (by omega) h4 _ ?_
          rintro _ s5 ⟨ws, hw, rfl, h5⟩
          have hmid := mid_forg hli hsaid hok hn hbf hw (by omega) (by omega)
          exact lasts_tail hG (r := []) hmid hB (by omega) (by omega) (h5.drop 3) (nxt _ _ hB)
      · rw [decide_eq_false (show ¬ kd9 = 0 by omega), condV_false, bin_eql, optK_some, sq1, decide_eq_false (show ¬ kd9 = 1 by omega), condV_false, bin_eql, optK_some, sq5, decide_eq_false (show ¬ kd9 = 5 by omega), condV_false, bin_eql, optK_some, sq6, decide_eq_true e, condV_true]
        rw [optK_some, ld_t (h4.pull 3), q1, optK_some, ha40]
        refine dArm_t (h4.pull 1) (bring za 40) _ ?_
        rintro _ s5 ⟨rfl, h5⟩
        have hmid := mid_arm hli hsaid (bring za 40)
        have h6 := (DiskH.mono h5 (Nat.le_succ i) (by omega)).ord [1, 0, 2] |>.drop 3
        exact lasts_tail hG (r := []) hmid hB (by omega) (by omega) h6 (nxt _ _ hB)
      · rw [decide_eq_false (show ¬ kd9 = 0 by omega), condV_false, bin_eql, optK_some, sq1, decide_eq_false (show ¬ kd9 = 1 by omega), condV_false, bin_eql, optK_some, sq5, decide_eq_false (show ¬ kd9 = 5 by omega), condV_false, bin_eql, optK_some, sq6, decide_eq_false (show ¬ kd9 = 6 by omega), condV_false, bin_eql, optK_some, sq7, decide_eq_true e, condV_true, condV_true]
        rw [optK_some, ld_t (h4.pull 3), q2, optK_some, hb9]
        refine dCrash_t (h4.pull 1) (bring zb 9) _ ?_
        rintro _ s5 ⟨rfl, h5⟩
        have hmid := mid_crash hli hsaid (by omega) (bring zb 9)
        have h6 := (DiskH.mono h5 (Nat.le_succ i) (by omega)).ord [1, 0, 2] |>.drop 3
        exact lasts_tail hG (r := []) hmid hB (by omega) (by omega) h6 (nxt _ _ hB)
      · rw [decide_eq_false (show ¬ kd9 = 0 by omega), condV_false, bin_eql, optK_some, sq1, decide_eq_false (show ¬ kd9 = 1 by omega), condV_false, bin_eql, optK_some, sq5, decide_eq_false (show ¬ kd9 = 5 by omega), condV_false, bin_eql, optK_some, sq6, decide_eq_false (show ¬ kd9 = 6 by omega), condV_false, bin_eql, optK_some, sq7, decide_eq_false (show ¬ kd9 = 7 by omega), condV_false, bin_eql, optK_some, sq8, decide_eq_true e, condV_true]
        rw [optK_some, ld_t (h4.pull 3), q2, optK_some, hb9]
        refine dCrash_t (h4.pull 1) (bring zb 9) _ ?_
        rintro _ s5 ⟨rfl, h5⟩
        have hmid := mid_crash hli hsaid (by omega) (bring zb 9)
        have h6 := (DiskH.mono h5 (Nat.le_succ i) (by omega)).ord [1, 0, 2] |>.drop 3
        exact lasts_tail hG (r := []) hmid hB (by omega) (by omega) h6 (nxt _ _ hB)
      · rw [decide_eq_false (show ¬ kd9 = 0 by omega), condV_false, bin_eql, optK_some, sq1, decide_eq_false (show ¬ kd9 = 1 by omega), condV_false, bin_eql, optK_some, sq5, decide_eq_false (show ¬ kd9 = 5 by omega), condV_false, bin_eql, optK_some, sq6, decide_eq_false (show ¬ kd9 = 6 by omega), condV_false, bin_eql, optK_some, sq7, decide_eq_false (show ¬ kd9 = 7 by omega), condV_false, bin_eql, optK_some, sq8, decide_eq_false (show ¬ kd9 = 8 by omega), condV_false]
        rw [optK_some, ld_t (h4.pull 3), q1, optK_some]
        refine conf_t (n := num) (by omega) za h4 _ ?_
        rintro _ s5 ⟨cv, rfl, h5⟩
        obtain ⟨x, hx⟩ : ∃ x : Vo, x = ⟨bal, ⟨num, 1, [10 + bring za 4]⟩⟩ := ⟨_, rfl⟩
        have hxok : x.ok := by rw [hx]; exact conf_ok (by omega) (by omega) za
        have xb : x.b = bal := by rw [hx]
        have xn : numOf x = num := by rw [hx]; rfl
        have xc : x.c = ⟨num, 1, [10 + bring za 4]⟩ := by rw [hx]
        have h5' : Hs G (VoterH kv kd S :: DiskH kd d i :: NatsH cv x.c.chain :: [Ob k6 (arr (T :: B)), Ob k8 (.cells [iV zk, iV za, iV zb, w3, w4, w5] 0)]) s5 := by rw [xc]; exact h5.ord [1, 2, 0]
        rw [← xc, ← xb]
        refine Accept_t hG hxok hli.sd hrows (by omega) h5' _ ?_
        rintro _ s6 ⟨rfl, h6⟩
        have hmid := mid_acc hli hsaid hB hxok (by omega)
        have h7 := h6.drop 3
        rw [ext0, List.getElem?_cons_zero, optK_some, ext0, List.getElem?_cons_succ, List.getElem?_cons_zero, optK_some]
        by_cases hOk : accOk S d x = true
        · have hgo : accGo S x = true ∧ accE S d x = 0 := by unfold accOk at hOk; simpa using hOk
          have hgo' : (S.p ≤ x.b ∧ S.f ≤ numOf x) ∧ roomF S.votes (numOf x) = true := by have := hgo.1; unfold accGo at this; simpa using this
          have eF : (accS S d x).f = S.f := by unfold accS; split <;> (try split) <;> rfl
          have d0 : ((0 : Int) != 0) = false := by decide
          have dl : decide ((x.b : Int) < (S.p : Int)) = false := decide_eq_false (by omega)
          have dn : decide ((num : Int) < (S.f : Int)) = false := decide_eq_false (by omega)
          rw [hOk, if_pos rfl, if_pos rfl] at hmid
          rw [hOk, grd_true, hgo.2, bin_neq, optK_some, d0, grd_false, bin_lss, optK_some, dl, grd_false, Floor_t h7, eF, bin_lss, optK_some, dn, condV_false, condV_true]
          rw [g0, optK_some, ld_t (h7.pull 2), eq0, optK_some, xb, emax, optK_some, optK_some]
          refine st_t (h7.pull 2) (by simp) rfl fun s8 h8 => ?_
          have eel : elemPtr (some 12) 1 (.ptr (some ⟨.new k6, 1⟩)) (.int .i64 (num : Nat)) = some (.ptr (some ⟨.new k6, 1 + num⟩)) := elemA_ok (by omega)
          rw [g1, optK_some, eel, optK_some]
          refine st_t h8 (by simp [hB]; omega) rfl fun s9 h9 => ?_
          have es : (((T :: B).map nV).set 0 (nV (max T bal))).set (1 + num) (.int .i64 (bal : Nat)) = (max T bal :: B.set num bal).map nV := by
            rw [Nat.add_comm 1 num, List.map_cons, List.set_cons_zero, List.set_cons_succ, List.map_cons, List.map_set]; rfl
          rw [es] at h9
          rw [xb, xn] at hmid
          exact lasts_tail hG (T := max T bal) (B := B.set num bal) (r := []) hmid (by rw [List.length_set]; exact hB) (by omega) (by omega) (h9.ord [1, 2, 0]) (nxt _ _ (by rw [List.length_set]; exact hB))
        · have hOk' : accOk S d x = false := Bool.eq_false_iff.2 hOk
          rw [hOk', if_neg (by simp), if_neg (by simp)] at hmid
          rw [hOk', grd_false, condV_false]
          exact lasts_tail hG (r := []) hmid hB (by omega) (by omega) h7 (nxt _ _ hB)
    · have d2 : decide ((i : Int) < 60) = false := decide_eq_false (by omega)
      rw [d2, condV_false, nx_exit]
      exact hK _ _
  · have d1 : decide ((i : Int) < (dos.length : Int)) = false := decide_eq_false (by omega)
    rw [d1, grd_false, nx_exit]
    exact hK _ _

set_option maxHeartbeats 1000000 in
theorem VoteLasts_law (hG : ShaG G) {t0 : V} {dos : List (Int × Int × Int)} (ha : ArgDos G t0 dos) {s : AS} (h : Hs G [] s) : Ens (sealchainlaw15_VoteLasts t0) s fun u _ => u = .bool true := by
  intro K hK
  unfold sealchainlaw15_VoteLasts sealchainlaw15_VoteLasts_q
  refine works_t hG h _ ?_
  rintro _ s1 ⟨rfl, h1⟩
  rw [un_not, optK_some]
  show condV (.bool false) _ _
  rw [condV_false]
  refine dNew_t h1 _ ?_
  rintro _ s2 ⟨kd, rfl, h2⟩
  refine vOpen0_t rfl rfl h2 _ ?_
  rintro _ s3 ⟨kv, rfl, h3⟩
  have d0 : ((0 : Int) != 0) = false := by decide
  rw [ext0, List.getElem?_cons_zero, optK_some, ext0, List.getElem?_cons_succ, List.getElem?_cons_zero, optK_some, bin_neq, optK_some, d0, grd_false, bin_ptr_nil, Option.isNone_some, optK_some, condV_false]
  refine newC_t h3 fun k6 s4 h4 => ?_
  have hli : LI ⟨0, 0, [], [], false⟩ (DS.cutN ⟨[], 0, false, .always⟩ 0) [] ⟨0, 0, []⟩ 10 := ⟨rfl, rfl, rfl, by simp, rfl, rfl, rfl, rfl, rfl, List.Perm.refl _, by simp, by simp⟩
  have hs : Said 0 (List.replicate 12 0) 0 0 [] := ⟨Nat.le_refl _, fun n _ => .inl (by rw [List.getD_eq_getElem?_getD, List.getElem?_replicate]; split <;> rfl)⟩
  refine lasts_loop hG (kv := kv) (kd := kd) (k6 := k6) ha hli hs (h4.ord [1, 2, 0]) rfl rfl rfl rfl rfl ?_
  intro tm s5
  rw [exX_exit]
  show exB true _ _
  rw [exB_true]
  exact hK _ _ rfl
end Go.Proofs.Vt
end
section
/- Arguments that are slices: what their elements' cells are. -/
namespace Go.Proofs.Vt
open Go Go.Rx Go.Proofs

/-- A slice that was there ahead of the call, and the cells of its elements (of `w` cells each). -/
structure ArgSl (G : Nat → Option (List V)) (w : Nat) (t : V) (els : List (List V)) : Prop where
  sl : ∃ a c, t = .slice a els.length c true
  el : ∀ i l, els[i]? = some l → ∃ ob oo cs, elemPtr none w t (.int .i64 (i : Nat)) = some (.ptr (some ⟨.old ob, oo⟩)) ∧ G ob = some cs ∧ oo + w ≤ cs.length ∧ (cs.drop oo).take w = l

theorem argSl_of {H : Type} {enc : TypeId × Value → H} {P : Program} {W : World} {t e : TypeId} {w : Nat} (hw : 0 < w) (ht : P.underlying t = some (.slice e)) (hce : P.cellsOf e = w)
    {base b0 : Nat} {spare : Nat → Bool} {held : Bool} {v : Value} {d : DataW H} {ps : List MemPlace} {r : Reach} (hval : Value.okWide P W r b0 t v) (h : DataW.Trod enc P W base spare held t v d ps) :
    ∃ els : List (List Value), ArgSl (oldOf W) w (cvV v) (els.map (·.map cvV)) ∧ ∀ (i : Nat) (l : List Value), els[i]? = some l → l.length = w ∧ ∃ m y, DataW.trod enc P W base spare held m e l = some y := by
  obtain ⟨fuel, h⟩ := h
  rcases DataW.trod_slice ht h with ⟨hc, _⟩ | ⟨a, len, cap, elems, rest, n, rfl, hc, _, hb, hl, hm, hlen, hel, _, _⟩
  · have hv : v = .slice none 0 0 := by
      cases v <;> simp [Value.cells] at hc <;> simp_all [Value.okWide, Cell.okWide, Cell.ok]
    subst hv
    exact ⟨[], ⟨⟨none, 0, rfl⟩, fun i row hr => by simp at hr⟩, fun i l hl => by simp at hl⟩
  · have hv : v = .slice (some a) len cap := by
      cases v <;> simp [Value.cells] at hc <;> simp_all [Value.okWide, Cell.okWide, Cell.ok]
    subst hv
    have hsp : a.spot = none := by
      unfold Value.okWide at hval
      rw [ht] at hval
      simp only [Cell.okWide, ht] at hval
      simp only [Cell.ok, ht] at hval
      exact hval.2.2.2.1
    obtain ⟨ab, ao, sp⟩ := a
    simp only at hsp
    subst hsp
    have each : ∀ i, i < len → ∃ l, W.cells? base (Addr.add ⟨ab, ao, none⟩ (i * w)) w = some l ∧ ∃ m y, DataW.trod enc P W base spare held m e l = some y := by
      intro i hi
      have hx := hel i hi
      obtain ⟨y, hy⟩ : ∃ y, elems[i]? = some y := ⟨elems[i]'(by omega), by simp [show i < elems.length by omega]⟩
      rw [hy, Option.bind_eq_some_iff, hce] at hx
      obtain ⟨l, hcl, htr⟩ := hx
      exact ⟨l, hcl, _, _, htr⟩
    have hels : ∃ els : List (List Value), els.length = len ∧ ∀ (i : Nat) (l : List Value), els[i]? = some l → W.cells? base (Addr.add ⟨ab, ao, none⟩ (i * w)) w = some l ∧ ∃ m y, DataW.trod enc P W base spare held m e l = some y := by
      refine ⟨(List.range len).map fun i => (W.cells? base (Addr.add ⟨ab, ao, none⟩ (i * w)) w).getD [], by simp, fun i l hl => ?_⟩
      rw [List.getElem?_map] at hl
      obtain ⟨j, hj, e⟩ := Option.map_eq_some_iff.1 hl
      have hi : i < len := by have := (List.getElem?_eq_some_iff.1 hj).1; simpa using this
      rw [List.getElem?_range hi] at hj
      cases hj
      obtain ⟨l', e1, e2⟩ := each i hi
      rw [e1, Option.getD_some] at e
      subst e
      exact ⟨e1, e2⟩
    obtain ⟨els, hell, hels⟩ := hels
    refine ⟨els, ⟨⟨some ⟨.old ab, ao⟩, cap, by rw [List.length_map, hell]; rfl⟩, fun i lv hlv => ?_⟩, fun i l hl => ?_⟩
    · rw [List.getElem?_map] at hlv
      obtain ⟨l, hle, rfl⟩ := Option.map_eq_some_iff.1 hlv
      obtain ⟨hcl, m, y, htr⟩ := hels i l hle
      have hi : i < len := by rw [← hell]; exact (List.getElem?_eq_some_iff.1 hle).1
      obtain ⟨_, hll, hcell⟩ := World.cells?_some hcl
      have h0 := hcell 0 hw
      have each2 : ∀ j, j < w → W.cell? ⟨ab, ao + (i * w + j), none⟩ = l[j]? := by
        intro j hj
        have h2 := hcell j hj
        rw [add_mk, add_mk, Nat.add_assoc] at h2
        exact h2
      have hblk : ∃ cs e' fr, W.heap[ab]? = some (.cells cs e' fr) := by
        have hz0 := (each2 0 hw).trans (List.getElem?_eq_getElem (show 0 < l.length by omega))
        unfold World.cell? at hz0
        simp only at hz0
        split at hz0
        · rename_i cs e' fr hh; exact ⟨cs, e', fr, hh⟩
        · simp at hz0
      obtain ⟨cs, e', fr, hblk⟩ := hblk
      have each3 : ∀ j, j < w → cs.toList[ao + i * w + j]? = l[j]? := by
        intro j hj
        have h2 := each2 j hj
        unfold World.cell? at h2
        simp only [hblk] at h2
        rw [Nat.add_assoc]
        simpa using h2
      have hlast := (each3 (w - 1) (by omega)).trans (List.getElem?_eq_getElem (show w - 1 < l.length by omega))
      have hlen2 := (List.getElem?_eq_some_iff.1 hlast).1
      refine ⟨ab, ao + i * w, cs.toList.map cvV, elem_ok hi (.inl rfl), by unfold oldOf; rw [hblk], by rw [List.length_map]; omega, ?_⟩
      refine List.ext_getElem? fun j => ?_
      by_cases hj : j < w
      · rw [List.getElem?_take_of_lt hj, List.getElem?_drop, List.getElem?_map, List.getElem?_map, each3 j hj]
      · rw [List.getElem?_eq_none (by rw [List.length_take]; omega), List.getElem?_eq_none (by rw [List.length_map]; omega)]
    · obtain ⟨hcl, m, y, htr⟩ := hels i l hl
      exact ⟨(World.cells?_some hcl).2.1, m, y, htr⟩
end Go.Proofs.Vt
end
section
/- Arguments that are calls of the law. -/
namespace Go.Proofs.Vt
open Go Go.Rx Go.Proofs
namespace doA
theorem u70 : Tryz.prog.underlying 70 = some (.slice 75) := by kernel_rfl
theorem u75 : Tryz.prog.underlying 75 = some (.struct #[⟨ "Kind", 3, 0, false, "", "", 0⟩, ⟨ "A", 3, 1, false, "", "", 8⟩, ⟨ "B", 3, 2, false, "", "", 16⟩, ⟨ "C", 37, 3, false, "", "", 24⟩]) := by kernel_rfl
theorem u37 : Tryz.prog.underlying 37 = some (.struct #[⟨ "Num", 3, 0, false, "", "", 0⟩, ⟨ "Full", 3, 1, false, "", "", 8⟩, ⟨ "Chain", 35, 2, false, "", "", 16⟩]) := by kernel_rfl
theorem u35 : Tryz.prog.underlying 35 = some (.slice 3) := by kernel_rfl
theorem u3 : Tryz.prog.underlying 3 = some (.int .i64) := by kernel_rfl
theorem c75 : Tryz.prog.cellsOf 75 = 6 := by kernel_rfl
theorem c37 : Tryz.prog.cellsOf 37 = 3 := by kernel_rfl
theorem c35 : Tryz.prog.cellsOf 35 = 1 := by kernel_rfl
theorem c3 : Tryz.prog.cellsOf 3 = 1 := by kernel_rfl
set_option maxRecDepth 100000 in
/-- A call's cells: three ints, and three cells that are not looked at. -/
theorem do_cells {H : Type} {enc : TypeId × Value → H} {W : World} {b0 m : Nat} {spare : Nat → Bool} {held : Bool} {l : List Value} {y : DataW H × List MemPlace} (hl : l.length = 6) (h : DataW.trod enc Tryz.prog W b0 spare held m 75 l = some y) :
    ∃ k a b z0 z1 v, l = [.int .i64 k, .int .i64 a, .int .i64 b, .int .i64 z0, .int .i64 z1, v] ∧ v.oneCell' = true := by
  obtain ⟨xs, n, _, _, _, hlen, hf⟩ := DataW.trod_struct u75 h
  match l, hl with
  | [x0, x1, x2, x3, x4, x5], _ =>
    match xs, hlen with
    | [y0, y1, y2, y3], _ =>
      have g0 := hf 0 _ rfl
      have g1 := hf 1 _ rfl
      have g2 := hf 2 _ rfl
      have g3 := hf 3 _ rfl
      simp only [c3, c37, List.drop_zero, List.drop_succ_cons, List.take_succ_cons, List.take_zero, List.getElem?_cons_zero, List.getElem?_cons_succ] at g0 g1 g2 g3
      obtain ⟨k, e0, _, _⟩ := DataW.trod_int u3 g0
      obtain ⟨a, e1, _, _⟩ := DataW.trod_int u3 g1
      obtain ⟨b, e2, _, _⟩ := DataW.trod_int u3 g2
      obtain ⟨zs, m', _, _, _, hzl, hz⟩ := DataW.trod_struct u37 g3
      have r0 := hz 0 _ rfl
      have r1 := hz 1 _ rfl
      have r2 := hz 2 _ rfl
      match zs, hzl with
      | [q0, q1, q2], _ =>
      simp only [c3, c35, List.getElem?_cons_zero, List.getElem?_cons_succ, List.drop_zero, List.drop_succ_cons, List.take_succ_cons, List.take_zero] at r0 r1 r2
      obtain ⟨z0, e3, _, _⟩ := DataW.trod_int u3 r0
      obtain ⟨z1, e4, _, _⟩ := DataW.trod_int u3 r1
      cases e0; cases e1; cases e2; cases e3; cases e4
      refine ⟨k, a, b, z0, z1, x5, rfl, ?_⟩
      rcases DataW.trod_slice u35 r2 with ⟨e, _⟩ | ⟨_, _, _, _, _, _, _, e, _⟩
      · cases e; rfl
      · cases e; rfl

def zI : Option Value → Int | some (.int _ z) => z | _ => 0
set_option maxRecDepth 100000 in
theorem argDos_of {H : Type} {enc : TypeId × Value → H} {W : World} {base b0 : Nat} {spare : Nat → Bool} {held : Bool} {v : Value} {d : DataW H} {ps : List MemPlace} {r : Reach} (hval : Value.okWide Tryz.prog W r b0 70 v) (h : DataW.Trod enc Tryz.prog W base spare held 70 v d ps) :
    ∃ dos, ArgDos (oldOf W) (cvV v) dos := by
  obtain ⟨els, ha, hels⟩ := argSl_of (w := 6) (by decide) u70 c75 hval h
  refine ⟨els.map fun l => (zI l[0]?, zI l[1]?, zI l[2]?), ⟨?_, fun i k a b hi => ?_⟩⟩
  · obtain ⟨a, c, e⟩ := ha.sl
    exact ⟨a, c, by rw [e, List.length_map, List.length_map]⟩
  · rw [List.getElem?_map] at hi
    obtain ⟨l, hl, e⟩ := Option.map_eq_some_iff.1 hi
    obtain ⟨hll, m, y, htr⟩ := hels i l hl
    obtain ⟨k', a', b', z0, z1, w, rfl, hw⟩ := do_cells hll htr
    simp only [List.getElem?_cons_zero, List.getElem?_cons_succ, zI, Prod.mk.injEq] at e
    obtain ⟨rfl, rfl, rfl⟩ := e
    obtain ⟨ob, oo, cs, h1, h2, h3, h4⟩ := ha.el i _ (by rw [List.getElem?_map, hl]; rfl)
    refine ⟨ob, oo, cs, .int .i64 z0, .int .i64 z1, cvV w, h1, h2, h3, h4, ?_⟩
    have := cvV_flat hw
    rw [List.all_cons, List.all_cons, List.all_cons, List.all_cons, List.all_cons, List.all_cons, this]; rfl

end doA
end Go.Proofs.Vt
end
