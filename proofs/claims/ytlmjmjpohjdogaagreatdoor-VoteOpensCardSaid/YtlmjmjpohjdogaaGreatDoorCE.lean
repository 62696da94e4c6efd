/- A part of the proofs of the Vote laws: contracts of opening, and of the first checks. -/
import Derived.Test.YtlmjmjpohjdogaaGreatDoorCD
import Derived.Test.YtlmjmjpohjdogaaGreatDoorF4
set_option linter.unusedVariables false
set_option linter.unusedSimpArgs false
section
/- Open, of a disk that holds nothing. -/
namespace Go.Proofs.Vt
open Go Go.Rx Go.Proofs
variable {G : Nat → Option (List V)}

theorem Scan0_t {v : V} {r : List HP} {s : AS} (hr : Reads G r v []) (h : Hs G r s) (K : K0) (hK : K (.tuple [.slice none 0 0 true, .int .i64 0, .int .i64 0]) s) : fn66 v s K := by
  obtain ⟨a, c, ex, rfl⟩ := rd_slice hr h
  unfold fn66 fn66_q
  refine loop_rule (fun m tm s1 => s1 = s ∧ tm.getD 0 .junk = .slice a 0 c ex ∧ tm.getD 2 .junk = .slice none 0 0 true ∧ tm.getD 3 .junk = .int .i64 0) ?_ (m := 0) (by omega) ⟨rfl, rfl, rfl, rfl⟩
  rintro m tm s1 Kn ⟨rfl, t0, t2, t3⟩ hnext
  simp only [t0, t2, t3]
  unfold fn66_L1
  have w : IntKind.i64.wrap (((0 : Nat) : Int) - 0) = 0 := by decide
  have d : decide ((0 : Int) ≥ 4) = false := by decide
  simp only [lenV_slice, optK_some, bin_sub, w, bin_geq, d, condV_false, nx_exit, exX_exit, beq_self_eq_true, exB_true]
  exact hK

theorem lOpen0_t {kd : Nat} {d : DS} {nt : Nat} {r : List HP} {s : AS} (hd : d.dead = false) (hb : d.bs = []) (h : Hs G (DiskH kd d nt :: r) s) :
    Ens (fn34 (.ptr (some ⟨.new kd, 0⟩))) s fun u s' => ∃ kl, u = .tuple [.ptr (some ⟨.new kl, 0⟩), .int .i64 0] ∧ Hs G (LogH kl kd [] false :: DiskH kd (d.cutN 0) nt :: r) s' := by
  intro K hK
  unfold fn34 fn34_q
  rw [CutNeg_t h, hd, if_neg (by simp), bin_neq, optK_some, bne_self_eq_false, condV_false]
  refine dRead_t h _ ?_
  rintro v s1 ⟨_, h1⟩
  rw [hb] at h1
  refine Scan0_t reads_bytes h1 _ ?_
  simp only [ext0, List.getElem?_cons_zero, List.getElem?_cons_succ, optK_some, bin_neq, bne_self_eq_false, condV_false]
  refine Cut_t (n := 0) (h1.pull 1) hd (by omega) _ ?_
  rintro _ s2 ⟨rfl, h2⟩
  have hag : aggO (fillV (placeS [(0, 27), (1, 52), (2, 4)] ty) [V.ptr none, .slice none 0 0 true, .bool false] [(0, .ptr (some ⟨.new kd, 0⟩)), (1, .slice none 0 0 true)]) = some (.agg [.ptr (some ⟨.new kd, 0⟩), .slice none 0 0 true, .bool false]) := by
    simp [fillV, placeS, cellsV, spl, aggO]
  simp only [bin_neq, optK_some, bne_self_eq_false, condV_false, hag]
  refine boxA_t h2 fun kl s3 h3 => ?_
  exact hK _ _ ⟨kl, rfl, LogH.iff.2 ⟨_, ((RowsH.nil h3 true).ord [1, 0, 2]).drop 3⟩⟩

theorem vOpen0_t {kd : Nat} {d : DS} {nt : Nat} {r : List HP} {s : AS} (hd : d.dead = false) (hb : d.bs = []) (h : Hs G (DiskH kd d nt :: r) s) :
    Ens (fn8 (.ptr (some ⟨.new kd, 0⟩))) s fun u s' => ∃ kv, u = .tuple [.ptr (some ⟨.new kv, 0⟩), .int .i64 0] ∧ Hs G (VoterH kv kd ⟨0, 0, [], [], false⟩ :: DiskH kd (d.cutN 0) nt :: r) s' := by
  intro K hK
  unfold fn8 fn8_q
  refine lOpen0_t hd hb h _ ?_
  rintro _ s1 ⟨kl, rfl, h1⟩
  simp only [ext0, List.getElem?_cons_zero, List.getElem?_cons_succ, optK_some, bin_neq, bne_self_eq_false, condV_false]
  show mkMap s1 _
  unfold mkMap
  have h2 := h1.alloc (.map [] 0)
  obtain ⟨km, hkm⟩ : ∃ km, km = s1.next := ⟨_, rfl⟩
  obtain ⟨s2, hs2⟩ : ∃ s2, s2 = s1.alloc (.map [] 0) := ⟨_, rfl⟩
  rw [← hkm, ← hs2] at h2 ⊢
  have hag : aggO (fillV (placeS [(0, 66), (1, 3), (2, 3), (3, 67)] ty) [V.ptr none, .int .i64 0, .int .i64 0, .map none] [(0, .ptr (some ⟨.new kl, 0⟩)), (3, .map (some km))]) = some (.agg [.ptr (some ⟨.new kl, 0⟩), .int .i64 0, .int .i64 0, .map (some km)]) := by
    simp [fillV, placeS, cellsV, spl, aggO]
  simp only [hag, optK_some]
  refine boxA_t h2 fun kv s3 h3 => ?_
  refine lRows_t (h3.pull 2) (by simp) (by simp) _ ?_
  intro rv s4 h4
  obtain ⟨ra, rc, rex, rfl⟩ := RowsH.slice h4
  simp only [lenV_slice, optK_some]
  refine loop_rule (fun m tm s1 => s1 = s4 ∧ tm.getD 6 .junk = .ptr (some ⟨.new kv, 0⟩) ∧ tm.getD 22 .junk = .slice ra 0 rc rex ∧ tm.getD 23 .junk = .int .i64 0 ∧ tm.getD 24 .junk = .int .i64 0) ?_ (m := 0) (by omega) ⟨rfl, rfl, rfl, rfl, rfl⟩
  rintro m tm s5 Kn ⟨rfl, t6, t22, t23, t24⟩ hnext
  simp only [t6, t22, t23, t24]
  unfold fn8_L1
  have d0 : decide ((0 : Int) < 0) = false := by decide
  simp only [bin_lss, optK_some, d0, condV_false, nx_exit, exX_exit, beq_self_eq_true, exB_true]
  have hm := MapH.iff.2 ⟨[], 0, ⟨⟨by simp, by simp, by simp⟩, rfl⟩, (all_nil ((h4.ord [3, 2, 1, 4]).drop 4)).swap⟩
  exact hK _ _ ⟨kv, rfl, VoterH.iff.2 ⟨kl, km, ⟨by simp, by simp, by simp, by simp, by simp⟩, hm.ord [1, 0, 2]⟩⟩
end Go.Proofs.Vt
end
section
/- A voter whose disk does not fail. -/
namespace Go.Proofs.Vt
open Go Go.Rx Go.Proofs
variable {G : Nat → Option (List V)}

structure DS.good (d : DS) (n : Nat) : Prop where
  dead : d.dead = false
  hold : d.hold = .always
  len : d.bs.length ≤ n
theorem add_good {d : DS} {n : Nat} (h : d.good n) {b : List UInt8} (hb : n + b.length ≤ 1048576) : addE d b = 0 ∧ addD d b = ⟨d.bs ++ b, (d.bs ++ b).length, false, .always⟩ := by
  obtain ⟨bs, sy, dead, hold⟩ := d
  obtain ⟨h1, h2, h3⟩ := h
  simp only at h1 h2 h3
  subst h1 h2
  have hw : DS.writeE ⟨bs, sy, false, .always⟩ b = 0 := by
    unfold DS.writeE; rw [if_neg (by simp), if_neg (by simp; omega)]
  have hw2 : DS.write ⟨bs, sy, false, .always⟩ b = ⟨bs ++ b, sy, false, .always⟩ := by
    unfold DS.write; rw [if_neg (by simp), if_neg (by simp; omega)]
  unfold addE addD
  rw [if_pos hw, if_pos hw, hw2]
  exact ⟨rfl, rfl⟩
theorem swap_good {d : DS} {n : Nat} (h : d.good n) {b : List UInt8} (hb : b.length ≤ 1048576) : d.swapE b = 0 ∧ d.swap b = ⟨b, b.length, false, .always⟩ := by
  obtain ⟨bs, sy, dead, hold⟩ := d
  obtain ⟨h1, h2, h3⟩ := h
  simp only at h1 h2 h3
  subst h1 h2
  unfold DS.swapE DS.swap
  simp only [Bool.false_eq_true, if_false]
  rw [if_neg (by omega), if_neg (by omega)]
  exact ⟨rfl, rfl⟩
theorem recP_len (n : Nat) : (recB (rowP n)).length ≤ 250 := by have := countB_len n; simp [rowP]; omega
theorem recF_len (n : Nat) : (recB (rowF n)).length ≤ 250 := by have := countB_len n; simp [rowF]; omega
theorem recV_len {x : Vo} (hx : x.ok) : (recB (rowV x)).length ≤ 250 := by
  have := countB_len x.b; have := confB_len hx.c; have := countB_len (confB x.c).length; simp [rowV]; omega

structure GoodOk (S : VS) (d : DS) (p f : Nat) (vs : List Vo) (m : Nat) : Prop where
  p : S.p = p
  f : S.f = f
  v : S.votes = vs
  dead : S.dead = false
  dg : d.good (250 * m)
  rows : S.rows.length ≤ m
  disk : d.bs = S.rows.flatMap recB
  m : m ≤ 2000
/-- A voter that lives, on a disk of its own that lives. -/
def GoodH (kv kd : Nat) (p f : Nat) (vs : List Vo) (m : Nat) : HP := HP.ex fun S : VS => HP.ex fun d : DS => HP.all [HP.pure (GoodOk S d p f vs m), VoterH kv kd S, DiskH kd d m]
theorem GoodH.iff {kv kd p f m : Nat} {vs : List Vo} {r : List HP} {s : AS} : Hs G (GoodH kv kd p f vs m :: r) s ↔ ∃ S d, GoodOk S d p f vs m ∧ Hs G (VoterH kv kd S :: DiskH kd d m :: r) s := by
  unfold GoodH
  simp only [Hs.ex_iff, Hs.all_iff, List.cons_append, List.nil_append, Hs.pure_iff]

theorem gPrepare (hG : ShaG G) {kv kd p f m b n : Nat} {vs : List Vo} (hb : 1 ≤ b ∧ b ≤ 9007199254740991) (hn : 1 ≤ n ∧ n ≤ 9007199254740991) (hm : m < 2000) {r : List HP} {s : AS} (h : Hs G (GoodH kv kd p f vs m :: r) s) :
    Ens (fn14 (.ptr (some ⟨.new kv, 0⟩)) (.int .i64 b) (.int .i64 n)) s fun u s' => ∃ v ws, u = .tuple [v, .bool (decide (p ≤ b)), .int .i64 0] ∧ (p ≤ b → Told vs n ws) ∧ (¬ p ≤ b → ws = []) ∧
      Hs G (VotesH v ws :: GoodH kv kd (max p b) f vs (m + 1) :: r) s' := by
  intro K hK
  obtain ⟨S, d, hg, h1⟩ := GoodH.iff.1 h
  have hr := hg.rows
  have hrl := recP_len b
  obtain ⟨a1, a2⟩ := add_good hg.dg (b := recB (rowP b)) (by omega)
  refine Prepare_t hG hb hn hg.dead (by omega) (by omega) h1 _ ?_
  rintro _ s2 ⟨v, ws, rfl, ht, hf, h2⟩
  have eE : prepE S d b = 0 := by unfold prepE; rw [a1]; split <;> rfl
  have eOk : prepOk S d b = decide (p ≤ b) := by unfold prepOk; rw [eE, hg.p]; simp
  rw [eE, eOk]
  rw [eOk] at ht hf
  refine hK _ _ ⟨v, ws, rfl, fun hp => by have := ht (by simp [hp]); rw [hg.v] at this; exact this, fun hp => hf (by simp [hp]), ?_⟩
  refine (GoodH.iff.2 ⟨prepS S d b, prepD S d b, ?_, h2.ord [1, 2, 0]⟩).swap
  by_cases hle : b ≤ S.p
  · have e2 : prepS S d b = S := by unfold prepS; rw [if_pos hle]
    have e3 : prepD S d b = d := by unfold prepD; rw [if_pos hle]
    rw [e2, e3]
    exact ⟨by rw [← hg.p]; omega, hg.f, hg.v, hg.dead, ⟨hg.dg.dead, hg.dg.hold, by have := hg.dg.len; omega⟩, by omega, hg.disk, by omega⟩
  · have e2 : prepS S d b = { S.wrote 0 (rowP b) with p := max S.p b } := by unfold prepS; rw [if_neg hle, if_pos a1]
    have e3 : prepD S d b = addD d (recB (rowP b)) := by unfold prepD; rw [if_neg hle]
    rw [e2, e3, a2]
    refine ⟨by rw [← hg.p], hg.f, hg.v, rfl, ⟨rfl, rfl, ?_⟩, ?_, ?_, by omega⟩
    · have := hg.dg.len; simp only [List.length_append]; omega
    · show (S.rows ++ [rowP b]).length ≤ m + 1
      rw [List.length_append, List.length_singleton]; omega
    · show d.bs ++ recB (rowP b) = (S.rows ++ [rowP b]).flatMap recB
      rw [hg.disk, List.flatMap_append]; simp

def gAcc (p f : Nat) (vs : List Vo) (x : Vo) : Bool := decide (p ≤ x.b ∧ f ≤ numOf x) && roomF vs (numOf x)
theorem gAccept (hG : ShaG G) {kv kd p f m : Nat} {vs : List Vo} {x : Vo} (hx : x.ok) (hm : m < 2000) {v : V} {r : List HP} {s : AS} (h : Hs G (GoodH kv kd p f vs m :: NatsH v x.c.chain :: r) s) :
    Ens (fn12 (.ptr (some ⟨.new kv, 0⟩)) (.int .i64 x.b) (cfV x.c v)) s fun u s' => u = .tuple [.bool (gAcc p f vs x), .int .i64 (if p ≤ x.b ∧ f ≤ numOf x ∧ roomF vs (numOf x) = false then 5 else 0)] ∧
      Hs G (GoodH kv kd (if gAcc p f vs x = true then x.b else p) f (if gAcc p f vs x = true then putVo vs x else vs) (m + 1) :: r) s' := by
  intro K hK
  obtain ⟨S, d, hg, h1⟩ := GoodH.iff.1 h
  have hr := hg.rows
  have hrl := recV_len hx
  obtain ⟨a1, a2⟩ := add_good hg.dg (b := recB (rowV x)) (by omega)
  refine Accept_t hG hx hg.dead (by omega) (by omega) h1 _ ?_
  rintro _ s2 ⟨rfl, h2⟩
  have eGo : accGo S x = gAcc p f vs x := by unfold accGo gAcc; rw [hg.p, hg.f, hg.v]
  have eE : accE S d x = if p ≤ x.b ∧ f ≤ numOf x ∧ roomF vs (numOf x) = false then 5 else 0 := by
    unfold accE; rw [hg.p, hg.f, hg.v, a1]
    by_cases hc : p ≤ x.b ∧ f ≤ numOf x
    · rw [if_pos hc]
      cases hroom : roomF vs (numOf x) with
      | true => rw [if_pos rfl, if_neg (by simp)]
      | false => rw [if_neg (by simp), if_pos ⟨hc.1, hc.2, rfl⟩]
    · rw [if_neg hc, if_neg (fun h => hc ⟨h.1, h.2.1⟩)]
  have eOk : accOk S d x = gAcc p f vs x := by
    unfold accOk; rw [eGo]
    cases hgo : gAcc p f vs x with
    | false => rfl
    | true =>
      have : roomF vs (numOf x) = true := by unfold gAcc at hgo; simp at hgo; exact hgo.2
      rw [eE, if_neg (by rw [this]; simp)]; rfl
  rw [eOk, eE]
  refine hK _ _ ⟨rfl, GoodH.iff.2 ⟨accS S d x, accD S d x, ?_, h2⟩⟩
  cases hgo : gAcc p f vs x with
  | false =>
    have e2 : accS S d x = S := by unfold accS; rw [eGo, hgo]; rfl
    have e3 : accD S d x = d := by unfold accD; rw [eGo, hgo]; rfl
    rw [e2, e3]
    exact ⟨hg.p, hg.f, hg.v, hg.dead, ⟨hg.dg.dead, hg.dg.hold, by have := hg.dg.len; omega⟩, by omega, hg.disk, by omega⟩
  | true =>
    have e2 : accS S d x = { S.wrote 0 (rowV x) with p := max S.p x.b, votes := putVo S.votes x } := by unfold accS; rw [eGo, hgo, if_pos rfl, if_pos a1]
    have e3 : accD S d x = addD d (recB (rowV x)) := by unfold accD; rw [eGo, hgo, if_pos rfl]
    have hpx : p ≤ x.b := by unfold gAcc at hgo; simp at hgo; exact hgo.1.1
    rw [e2, e3, a2]
    refine ⟨?_, hg.f, ?_, rfl, ⟨rfl, rfl, ?_⟩, ?_, ?_, by omega⟩
    · show max S.p x.b = x.b
      rw [hg.p]; omega
    · show putVo S.votes x = putVo vs x
      rw [hg.v]
    · have := hg.dg.len; simp only [List.length_append]; omega
    · show (S.rows ++ [rowV x]).length ≤ m + 1
      rw [List.length_append, List.length_singleton]; omega
    · show d.bs ++ recB (rowV x) = (S.rows ++ [rowV x]).flatMap recB
      rw [hg.disk, List.flatMap_append]; simp

theorem gForget (hG : ShaG G) {kv kd p f m below : Nat} {vs : List Vo} (hb : 1 ≤ below ∧ below ≤ 9007199254740991) (hbf : f < below) (hm : m + 12 ≤ 2000) {r : List HP} {s : AS} (h : Hs G (GoodH kv kd p f vs m :: r) s) :
    Ens (fn17 (.ptr (some ⟨.new kv, 0⟩)) (.int .i64 below)) s fun u s' => u = .int .i64 0 ∧ ∃ ws S d, Told vs below ws ∧ GoodOk S d p below (vs.filter fun x => decide (below ≤ numOf x)) (m + 12) ∧ S.rows = (if 0 < p then [rowP p] else []) ++ [rowF below] ++ ws.map rowV ∧
      Hs G (VoterH kv kd S :: DiskH kd d (m + 12) :: r) s' := by
  intro K hK
  obtain ⟨S, d, hg, h1⟩ := GoodH.iff.1 h
  have hr := hg.rows
  refine Forget_t hG hb hg.dead (by rw [hg.f]; omega) (by omega) h1 _ ?_
  rintro _ s2 ⟨ws, hw, rfl, h2⟩
  rw [hg.v] at hw
  obtain ⟨kl, km, hok, _⟩ := VoterH.iff.1 h1
  have htold := told_ok hok (hg.v ▸ hw)
  have hflat : ∀ l : List Vo, (∀ x ∈ l, x.ok) → ((l.map rowV).flatMap recB).length ≤ 250 * l.length := fun l => by
    induction l with
    | nil => intro _; simp
    | cons a l ih =>
      intro hh
      have h1 := ih fun x hx => hh x (List.mem_cons_of_mem _ hx)
      have h2 := recV_len (hh a (List.mem_cons_self ..))
      simp only [List.map_cons, List.flatMap_cons, List.length_append, List.length_cons]; omega
  have hws := hflat ws htold.1
  have hbl : (forgB S below ws).length ≤ 250 * 10 := by
    have h3 := recP_len S.p; have h4 := recF_len below
    unfold forgB forgRows
    rw [List.flatMap_append, List.flatMap_append, List.length_append, List.length_append]
    have h5 : ((if 0 < S.p then [rowP S.p] else []).flatMap recB).length ≤ 250 := by split <;> simp <;> (try simp at h3) <;> omega
    have h6 : ([rowF below].flatMap recB).length ≤ 250 := by simpa using h4
    have := htold.2; omega
  obtain ⟨a1, a2⟩ := swap_good hg.dg (b := forgB S below ws) (by omega)
  have hbf' : ¬ below ≤ S.f := by rw [hg.f]; omega
  have eE : forgE S d below ws = 0 := by unfold forgE; rw [if_neg hbf', a1]
  have eS : forgS S d below ws = ⟨S.p, below, S.votes.filter (fun x => decide (below ≤ numOf x)), forgRows S below ws, false⟩ := by unfold forgS; rw [if_neg hbf', if_pos a1]
  have eD : forgD S d below ws = ⟨forgB S below ws, (forgB S below ws).length, false, .always⟩ := by unfold forgD; rw [if_neg hbf', a2]
  rw [eE]
  refine hK _ _ ⟨rfl, ws, forgS S d below ws, forgD S d below ws, hw, ?_, ?_, (DiskH.mono (h2.pull 1) (by omega) (by omega)).swap⟩
  · rw [eS, eD]
    refine ⟨hg.p, rfl, by rw [hg.v], rfl, ⟨rfl, rfl, by show (forgB S below ws).length ≤ _; omega⟩, ?_, rfl, by omega⟩
    show (forgRows S below ws).length ≤ m + 12
    have := htold.2
    unfold forgRows; simp; split <;> simp <;> omega
  · rw [eS]; show forgRows S below ws = _
    unfold forgRows; rw [hg.p]

theorem gVotes {kv kd p f m : Nat} {vs : List Vo} {r : List HP} {s : AS} (h : Hs G (GoodH kv kd p f vs m :: r) s) :
    Ens (fn16 (.ptr (some ⟨.new kv, 0⟩))) s fun u s' => ∃ ws, Told vs f ws ∧ Hs G (VotesH u ws :: GoodH kv kd p f vs m :: r) s' := by
  intro K hK
  obtain ⟨S, d, hg, h1⟩ := GoodH.iff.1 h
  refine Votes_t h1 _ ?_
  rintro u s2 ⟨ws, hw, h2⟩
  rw [hg.f, hg.v] at hw
  exact hK _ _ ⟨ws, hw, (GoodH.iff.2 ⟨S, d, hg, h2.ord [1, 2, 0]⟩).swap⟩
theorem gFloor {kv kd p f m : Nat} {vs : List Vo} {r : List HP} {s : AS} (h : Hs G (GoodH kv kd p f vs m :: r) s) (K : K0) : fn18 (.ptr (some ⟨.new kv, 0⟩)) s K = K (.int .i64 f) s := by
  obtain ⟨S, d, hg, h1⟩ := GoodH.iff.1 h
  rw [Floor_t h1, hg.f]
theorem gOpen {r : List HP} {s : AS} (h : Hs G r s) : Ens (fun s K => fn9 s fun t s => fn8 t s K) s fun u s' => ∃ kv kd, u = .tuple [.ptr (some ⟨.new kv, 0⟩), .int .i64 0] ∧ Hs G (GoodH kv kd 0 0 [] 0 :: r) s' := by
  intro K hK
  refine dNew_t h _ ?_
  rintro _ s1 ⟨kd, rfl, h1⟩
  refine vOpen0_t rfl rfl h1 _ ?_
  rintro _ s2 ⟨kv, rfl, h2⟩
  exact hK _ _ ⟨kv, kd, rfl, GoodH.iff.2 ⟨_, _, ⟨rfl, rfl, rfl, rfl, ⟨rfl, rfl, by simp [DS.cutN]⟩, by simp, by simp [DS.cutN], by omega⟩, h2⟩⟩

def bring (z : Int) (n : Nat) : Nat := (z % (n : Int)).toNat
theorem bring_lt (z : Int) {n : Nat} (hn : 0 < n) : bring z n < n := by
  have := Int.emod_lt_of_pos z (show (0 : Int) < n by omega)
  have := Int.emod_nonneg z (show (n : Int) ≠ 0 by omega)
  unfold bring; omega
theorem Bring_t (z : Int) {n : Nat} (hn : 0 < n) (hn2 : n ≤ 1000000) (s : AS) (K : K0) : fn10 (.int .i64 z) (.int .i64 n) s K = K (.int .i64 (bring z n)) s := by
  have hlt := bring_lt z hn
  have h1 : z.tmod n = if 0 ≤ z ∨ (n : Int) ∣ z then z % n else z % n - n := by
    rw [Int.tmod_eq_emod]; split
    · simp
    · rename_i h; simp
  have h2 := Int.emod_nonneg z (show (n : Int) ≠ 0 by omega)
  have h3 := Int.emod_lt_of_pos z (show (0 : Int) < n by omega)
  have hb : (bring z n : Int) = z % n := by unfold bring; omega
  unfold fn10 fn10_q
  rw [bin_rem, if_neg (by omega), optK_some, bin_lss, optK_some]
  by_cases hneg : z.tmod n < 0
  · have hd : decide (z.tmod (n : Int) < 0) = true := by simpa using hneg
    have hne : ¬ (0 ≤ z ∨ (n : Int) ∣ z) := fun hc => by rw [if_pos hc] at h1; omega
    rw [if_neg hne] at h1
    rw [hd, condV_true, bin_add, optK_some, wrap64 (by omega) (by omega), hb]
    congr 2; omega
  · have hd : decide (z.tmod (n : Int) < 0) = false := by simpa using hneg
    have hc : 0 ≤ z ∨ (n : Int) ∣ z := by
      by_cases hc : 0 ≤ z ∨ (n : Int) ∣ z
      · exact hc
      · rw [if_neg hc] at h1; omega
    rw [if_pos hc] at h1
    rw [hd, condV_false, hb, h1]

theorem conf_t {n : Nat} (hn : n ≤ 9007199254740991) (z : Int) {r : List HP} {s : AS} (h : Hs G r s) : Ens (fn13 (.int .i64 n) (.int .i64 z)) s fun u s' => ∃ v, u = cfV ⟨n, 1, [10 + bring z 4]⟩ v ∧ Hs G (NatsH v [10 + bring z 4] :: r) s' := by
  intro K hK
  have hlt := bring_lt z (n := 4) (by omega)
  unfold fn13 fn13_q
  refine newC_t h fun k s1 h1 => ?_
  have hbr := Bring_t z (n := 4) (by omega) (by omega)
  have w : IntKind.i64.wrap (10 + (bring z 4 : Int)) = ((10 + bring z 4 : Nat) : Int) := by rw [wrap64 (by omega) (by omega)]; omega
  rw [show (V.int IntKind.i64 4) = .int .i64 ((4 : Nat) : Int) from rfl, hbr, bin_add, optK_some, w, bsl1_ok _ rfl _ _ rfl]
  have h2 := ob_slH (sz := 1) (n := 1) (c := 1) (ex := true) (xs := [.int .i64 ((10 + bring z 4 : Nat) : Int)]) (h1.alloc (.cells [.int .i64 ((10 + bring z 4 : Nat) : Int)] 0)) rfl rfl rfl (Nat.le_refl _) (by simp) (.inl rfl)
  have hag : aggO (fillV (placeS [(0, 3), (1, 3), (2, 35)] ty) [V.int .i64 0, .int .i64 0, .slice none 0 0 true] [(0, .int .i64 n), (1, .int .i64 1), (2, .slice (some ⟨.new s1.next, 0⟩) 1 1 true)]) = some (.agg [.int .i64 n, .int .i64 1, .slice (some ⟨.new s1.next, 0⟩) 1 1 true]) := by
    simp [fillV, placeS, cellsV, spl, aggO]
  rw [hag, optK_some]
  refine stAll_t (h2.pull 1) rfl rfl rfl fun s3 h3 => ?_
  rw [peekA_t rfl h3 (by simp), rfin1]
  exact hK _ _ ⟨_, rfl, h3.tail⟩
end Go.Proofs.Vt
end
section
/- The chapter's examples. -/
namespace Go.Proofs.Vt
open Go Go.Rx Go.Proofs
variable {G : Nat → Option (List V)}

theorem VotesH.slice {u : V} {ws : List Vo} {r : List HP} {s : AS} (h : Hs G (VotesH u ws :: r) s) : ∃ a c ex, u = .slice a ws.length c ex := by
  obtain ⟨L, hL, h1⟩ := VotesH.iff.1 h
  have : L.length = ws.length := by rw [← hL, List.length_map]
  obtain ⟨a, c, ex, rfl⟩ := slH_slice h1
  exact ⟨a, c, ex, by rw [this]⟩

theorem votes_elem {u : V} {ws : List Vo} {r : List HP} {s : AS} (h : Hs G (VotesH u ws :: r) s) {i : Nat} {x : Vo} (hx : ws[i]? = some x) (q : IntKind) :
    ∃ b o v r', elemPtr none 4 u (.int q (i : Nat)) = some (.ptr (some ⟨b, o⟩)) ∧ (∀ (j : Nat) (c : V) (K : K0), ([.int .i64 x.b, .int .i64 x.c.num, .int .i64 x.c.full, v] : List V)[j]? = some c → ld1 (.ptr (some ⟨b, o + j⟩)) s K = K c s) ∧ flatV v = true ∧ Hs G (NatsH v x.c.chain :: r') s := by
  obtain ⟨L, hL, h1⟩ := VotesH.iff.1 h
  have hLl : L.length = ws.length := by rw [← hL, List.length_map]
  have hi : i < ws.length := (List.getElem?_eq_some_iff.1 hx).1
  obtain ⟨t, ht⟩ : ∃ t, L[i]? = some t := ⟨L[i]'(by omega), by simp [show i < L.length by omega]⟩
  have htx : t.1 = x := by
    rw [← hL, List.getElem?_map, ht] at hx; simpa using hx
  obtain ⟨A, B, hAB⟩ := List.append_of_mem (List.mem_of_getElem? ht)
  have eL : L.map chC = A.map chC ++ chC t :: B.map chC := by rw [hAB]; simp
  rw [eL] at h1
  have hch := all_mid (h1.pull 1)
  rcases slH_ob h1 with ⟨h0, ex, rfl⟩ | ⟨k, c, ex, cs, u', rfl, htk, hn, hc, he, h'⟩
  · omega
  · refine ⟨.new k, 0 + i * 4, t.2, _, elem_ok (by omega) (he.imp id (·.1)), fun j c' K hj => ?_, nats_flat hch, by rw [← htx]; exact hch⟩
    have hj4 : j < 4 := by
      have := (List.getElem?_eq_some_iff.1 hj).1; simpa using this
    have e1 := flat4_get L i t ht
    rw [← htk, List.drop_take, List.take_take] at e1
    have e2 : min 4 (L.length * 4 - i * 4) = 4 := by omega
    rw [e2] at e1
    rw [ld_t h']
    have e3 : cs[0 + i * 4 + j]? = some c' := by
      have h5 : ((cs.drop (i * 4)).take 4)[j]? = (cells4 t)[j]? := by rw [e1]
      rw [List.getElem?_take_of_lt hj4, List.getElem?_drop] at h5
      rw [Nat.zero_add, h5, ← hj]
      unfold cells4; rw [htx]
    rw [e3, optK_some]

theorem told_nil {n : Nat} {ws : List Vo} (h : Told [] n ws) : ws = [] := by
  have := h.perm; simpa using this
theorem told_none {vs : List Vo} {n : Nat} {ws : List Vo} (h : Told vs n ws) (hn : vs.filter (fun x => decide (n ≤ numOf x)) = []) : ws = [] := by
  have := h.perm; rw [hn] at this; simpa using this
theorem told_one {vs : List Vo} {n : Nat} {ws : List Vo} {x : Vo} (h : Told vs n ws) (hn : vs.filter (fun x => decide (n ≤ numOf x)) = [x]) : ws = [x] := by
  have := h.perm; rw [hn] at this; exact List.perm_singleton.1 this

theorem conf_ok {b n : Nat} (hb : 1 ≤ b ∧ b ≤ 9007199254740991) (hn : 1 ≤ n ∧ n ≤ 9007199254740991) (z : Int) : Vo.ok ⟨b, ⟨n, 1, [10 + bring z 4]⟩⟩ := by
  have := bring_lt z (n := 4) (by omega)
  exact ⟨hb, ⟨hn.2, by simp; omega, by simp, by simp, by simp⟩⟩

set_option maxHeartbeats 1000000 in
theorem works_t (hG : ShaG G) {r : List HP} {s : AS} (h : Hs G r s) : Ens fn15 s fun u s' => u = .bool true ∧ Hs G r s' := by
  intro K hK
  unfold fn15 fn15_q
  refine gOpen h _ ?_
  rintro _ s1 ⟨kv, kd, rfl, h1⟩
  have d0 : ((0 : Int) != 0) = false := by decide
  rw [ext0, List.getElem?_cons_zero, optK_some, ext0, List.getElem?_cons_succ, List.getElem?_cons_zero, optK_some, bin_neq, optK_some, d0, grd_false, bin_ptr_nil, Option.isNone_some, optK_some, condV_false]
  refine gPrepare hG (b := 4) (n := 1) (by omega) (by omega) (by omega) h1 _ ?_
  rintro _ s2 ⟨v2, w2, rfl, t2, _, h2⟩
  obtain rfl := told_nil (t2 (by omega))
  obtain ⟨a2, c2, e2, rfl⟩ := VotesH.slice h2
  rw [ext0, List.getElem?_cons_zero, optK_some, ext0, List.getElem?_cons_succ, List.getElem?_cons_zero, optK_some, ext0, List.getElem?_cons_succ, List.getElem?_cons_succ, List.getElem?_cons_zero, optK_some]
  refine gPrepare hG (b := 3) (n := 1) (by omega) (by omega) (by omega) (h2.pull 1) _ ?_
  rintro _ s3 ⟨v3, w3, rfl, _, _, h3⟩
  rw [ext0, List.getElem?_cons_zero, optK_some, ext0, List.getElem?_cons_succ, List.getElem?_cons_zero, optK_some, ext0, List.getElem?_cons_succ, List.getElem?_cons_succ, List.getElem?_cons_zero, optK_some]
  refine conf_t (n := 1) (by omega) 0 (h3.tail) _ ?_
  rintro _ s4 ⟨c4, rfl, h4⟩
  refine gAccept hG (x := ⟨3, ⟨1, 1, [10 + bring 0 4]⟩⟩) (conf_ok (by omega) (by omega) 0) (by omega) (h4.pull 1) _ ?_
  rintro _ s5 ⟨rfl, h5⟩
  have a5 : gAcc (max (max 0 4) 3) 0 [] ⟨3, ⟨1, 1, [10 + bring 0 4]⟩⟩ = false := rfl
  rw [a5] at h5 ⊢
  rw [ext0, List.getElem?_cons_zero, optK_some, ext0, List.getElem?_cons_succ, List.getElem?_cons_zero, optK_some]
  refine conf_t (n := 1) (by omega) 0 h5 _ ?_
  rintro _ s6 ⟨c6, rfl, h6⟩
  refine gAccept hG (x := ⟨4, ⟨1, 1, [10 + bring 0 4]⟩⟩) (conf_ok (by omega) (by omega) 0) (by omega) (h6.pull 1) _ ?_
  rintro _ s7 ⟨rfl, h7⟩
  obtain ⟨x1, hx1⟩ : ∃ x1 : Vo, x1 = ⟨4, ⟨1, 1, [10 + bring 0 4]⟩⟩ := ⟨_, rfl⟩
  have a7 : gAcc (max (max 0 4) 3) 0 [] x1 = true := by rw [hx1]; rfl
  have n1 : numOf x1 = 1 := by rw [hx1]; rfl
  have p7 : putVo [] x1 = [x1] := by unfold putVo; rw [if_neg (by simp)]; rfl
  have b1 : x1.b = 4 := by rw [hx1]
  rw [← hx1] at h7 ⊢
  simp only [if_neg (show ¬ (false = true) by simp)] at h7 ⊢
  rw [a7, if_pos rfl, if_pos rfl, p7, b1] at h7
  rw [a7]
  rw [ext0, List.getElem?_cons_zero, optK_some, ext0, List.getElem?_cons_succ, List.getElem?_cons_zero, optK_some]
  refine gPrepare hG (b := 8) (n := 1) (by omega) (by omega) (by omega) h7 _ ?_
  rintro _ s8 ⟨v8, w8, rfl, t8, _, h8⟩
  obtain rfl := told_one (x := x1) (t8 (by omega)) (by simp [n1])
  obtain ⟨a8, c8, e8, rfl⟩ := VotesH.slice h8
  rw [ext0, List.getElem?_cons_zero, optK_some, ext0, List.getElem?_cons_succ, List.getElem?_cons_zero, optK_some, ext0, List.getElem?_cons_succ, List.getElem?_cons_succ, List.getElem?_cons_zero, optK_some]
  refine gPrepare hG (b := 8) (n := 2) (by omega) (by omega) (by omega) (h8.pull 1) _ ?_
  rintro _ s9 ⟨v9, w9, rfl, t9, _, h9⟩
  obtain rfl := told_none (t9 (by omega)) (by simp [n1])
  rw [ext0, List.getElem?_cons_zero, optK_some, ext0, List.getElem?_cons_succ, List.getElem?_cons_zero, optK_some, ext0, List.getElem?_cons_succ, List.getElem?_cons_succ, List.getElem?_cons_zero, optK_some]
  obtain ⟨a9, c9, e9, rfl⟩ := VotesH.slice h9
  have q0 : ((([] : List Vo).length : Int) == 0) = true := rfl
  have q1 : ((([x1] : List Vo).length : Int) == 1) = true := rfl
  have k2 : decide (0 ≤ 4) = true := rfl
  have k3 : decide (max 0 4 ≤ 3) = false := rfl
  have k8 : decide (4 ≤ 8) = true := rfl
  have k9 : decide (max 4 8 ≤ 8) = true := rfl
  rw [lenV_slice, optK_some, bin_eql, optK_some, q0, grd_true, k2, grd_true, k3, un_not, optK_some, Bool.not_false, grd_true, optK_some, grd_true, grd_true]
  rw [lenV_slice, optK_some, bin_eql, optK_some, q1, grd_true]
  obtain ⟨bb, oo, vv, r', ee, ll, _, _⟩ := votes_elem (h9.pull 2) (i := 0) (x := x1) rfl .i64
  have ee' : elemPtr none 4 (.slice a8 [x1].length c8 e8) (.int .i64 0) = some (.ptr (some ⟨bb, oo⟩)) := ee
  rw [ee', optK_some, fp_ptr, optK_some, ll 0 _ _ rfl, b1, bin_eql, optK_some]
  have q4 : (((4 : Nat) : Int) == 4) = true := rfl
  rw [q4, grd_true, k8, grd_true, lenV_slice, optK_some, bin_eql, optK_some, q0, grd_true]
  refine gForget hG (below := 2) (by omega) (by omega) (by omega) (h9.pull 1) _ ?_
  rintro _ s10 ⟨rfl, ws, S, d, _, hg, _, h10⟩
  have h11 := GoodH.iff.2 ⟨S, d, hg, h10⟩
  have ef : [x1].filter (fun x => decide (2 ≤ numOf x)) = [] := by simp [n1]
  rw [ef] at h11
  rw [bin_eql, optK_some, beq_self_eq_true, grd_true, gFloor h11, bin_eql, optK_some]
  have q2 : (((2 : Nat) : Int) == 2) = true := rfl
  rw [q2, grd_true]
  refine gVotes h11 _ ?_
  rintro v12 s12 ⟨w12, t12, h12⟩
  obtain rfl := told_nil t12
  obtain ⟨a12, c12, e12, rfl⟩ := VotesH.slice h12
  rw [lenV_slice, optK_some, bin_eql, optK_some, q0]
  refine conf_t (n := 1) (by omega) 0 (h12.tail) _ ?_
  rintro _ s13 ⟨c13, rfl, h13⟩
  refine gAccept hG (x := ⟨9, ⟨1, 1, [10 + bring 0 4]⟩⟩) (conf_ok (by omega) (by omega) 0) (by omega) (h13.pull 1) _ ?_
  rintro _ s14 ⟨rfl, h14⟩
  have a14 : gAcc (max (max 4 8) 8) 2 [] ⟨9, ⟨1, 1, [10 + bring 0 4]⟩⟩ = false := rfl
  rw [a14] at h14 ⊢
  rw [ext0, List.getElem?_cons_zero, optK_some, ext0, List.getElem?_cons_succ, List.getElem?_cons_zero, optK_some, k9, grd_true, grd_true, un_not, optK_some]
  exact hK _ _ ⟨rfl, h14.tail.tail.tail.tail⟩
end Go.Proofs.Vt
end
