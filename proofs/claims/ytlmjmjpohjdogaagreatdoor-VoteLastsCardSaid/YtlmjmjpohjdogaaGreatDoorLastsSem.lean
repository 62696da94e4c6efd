/- A part of the proof of VoteLasts: what holds of a voter and its disk, whatever fails. -/
import Derived.Test.YtlmjmjpohjdogaaGreatDoorCA
import Derived.Test.YtlmjmjpohjdogaaGreatDoorF4
import Derived.Test.YtlmjmjpohjdogaaGreatDoorForgGen
set_option linter.unusedVariables false
set_option linter.unusedSimpArgs false
section
/- The disk: dead, revived, armed, crashed. -/
namespace Go.Proofs.Vt
open Go Go.Rx Go.Proofs
variable {G : Nat → Option (List V)}

theorem dDead_t {kd : Nat} {d : DS} {nt : Nat} {r : List HP} {s : AS} (h : Hs G (DiskH kd d nt :: r) s) (K : K0) : disk_Disk_Dead (.ptr (some ⟨.new kd, 0⟩)) s K = K (.bool d.dead) s := by
  obtain ⟨vb, hf, vt, n, xt, hok, h1⟩ := DiskH.iff.1 h
  have hfn := HoldH.fn (h1.pull 2)
  unfold disk_Disk_Dead disk_Disk_Dead_q
  rw [dnone_t h1 hfn]
  simp only [un_not, Bool.not_false, optK_some, grd_true, nilV_ptr, fp_ptr, Nat.zero_add, ld_t h1, List.getElem?_cons_zero, List.getElem?_cons_succ]

theorem dRevive_t {kd : Nat} {d : DS} {nt : Nat} {r : List HP} {s : AS} (h : Hs G (DiskH kd d nt :: r) s) :
    Ens (disk_Disk_Revive (.ptr (some ⟨.new kd, 0⟩))) s fun u s' => u = .int .i64 0 ∧ Hs G (DiskH kd ⟨d.bs, d.sy, false, .always⟩ nt :: r) s' := by
  intro K hK
  obtain ⟨vb, hf, vt, n, xt, hok, h1⟩ := DiskH.iff.1 h
  have hfn := HoldH.fn (h1.pull 2)
  unfold disk_Disk_Revive disk_Disk_Revive_q
  rw [dnone_t h1 hfn]
  simp only [condV_false, nilV_ptr, fp_ptr, Nat.zero_add, optK_some]
  refine st_t h1 (by simp) rfl fun s2 h2 => ?_
  simp only [List.set_cons_zero, List.set_cons_succ] at h2
  refine st_t h2 (by simp) rfl fun s3 h3 => ?_
  simp only [List.set_cons_zero, List.set_cons_succ] at h3
  have h4 : Hs G (HoldH alwaysV .always :: _) s3 := Hs.pure_iff.2 ⟨rfl, h3.drop 2⟩
  exact hK _ _ ⟨rfl, DiskH.mk (d := ⟨d.bs, d.sy, false, .always⟩) (h4.ord [1, 2, 0]) ⟨hok.n, hok.nt, hok.sy, hok.bs⟩⟩

def DS.armed (d : DS) (c : Nat) : DS := if d.dead then d else ⟨d.bs, d.sy, false, .arm c⟩
theorem dArm_t {kd : Nat} {d : DS} {nt : Nat} {r : List HP} {s : AS} (h : Hs G (DiskH kd d nt :: r) s) (c : Nat) :
    Ens (disk_Disk_Arm (.ptr (some ⟨.new kd, 0⟩)) (.int .i64 c)) s fun u s' => u = .int .i64 (if d.dead then 130 else 0) ∧ Hs G (DiskH kd (d.armed c) nt :: r) s' := by
  intro K hK
  obtain ⟨vb, hf, vt, n, xt, hok, h1⟩ := DiskH.iff.1 h
  have hfn := HoldH.fn (h1.pull 2)
  unfold disk_Disk_Arm disk_Disk_Arm_q
  refine box1_t rfl h1 fun k s2 h2 => ?_
  rw [dlive_t (h2.pull 1) hfn]
  obtain ⟨bs, sy, dead, hold⟩ := d
  cases dead with
  | true =>
    simp only [bin_neq, optK_some, if_true]
    exact hK _ _ ⟨rfl, DiskH.mk (d := DS.armed ⟨bs, sy, true, hold⟩ c) h2.tail hok⟩
  | false =>
    have d1 : decide ((c : Int) < 0) = false := by simp
    simp only [bin_neq, optK_some, Bool.false_eq_true, if_false, bne_self_eq_false, condV_false, nilV_ptr, fp_ptr, Nat.zero_add, ld_t h2, List.getElem?_cons_zero, bin_lss, d1]
    refine st_t (h2.pull 1) (by simp) rfl fun s3 h3 => ?_
    simp only [List.set_cons_zero, List.set_cons_succ] at h3
    have h4 := HoldH.arm_iff.2 ⟨k, rfl, h3.pull 1⟩
    exact hK _ _ ⟨rfl, DiskH.mk (d := DS.armed ⟨bs, sy, false, hold⟩ c) ((h4.ord [1, 2, 0]).drop 3) ⟨hok.n, hok.nt, hok.sy, hok.bs⟩⟩

def DS.crash (d : DS) (c : Nat) : DS := if d.dead then d else d.tear c
theorem dCrash_t {kd : Nat} {d : DS} {nt : Nat} {r : List HP} {s : AS} (h : Hs G (DiskH kd d nt :: r) s) (c : Nat) :
    Ens (disk_Disk_Crash (.ptr (some ⟨.new kd, 0⟩)) (.int .i64 c)) s fun u s' => u = .int .i64 0 ∧ Hs G (DiskH kd (d.crash c) nt :: r) s' := by
  intro K hK
  obtain ⟨vb, hf, vt, n, xt, hok, h1⟩ := DiskH.iff.1 h
  have hfn := HoldH.fn (h1.pull 2)
  unfold disk_Disk_Crash disk_Disk_Crash_q
  rw [dnone_t h1 hfn]
  have d1 : decide ((c : Int) < 0) = false := by simp
  obtain ⟨bs, sy, dead, hold⟩ := d
  have hbs := hok.bs; have hsy := hok.sy
  simp only at hbs hsy
  simp only [condV_false, bin_lss, d1, nilV_ptr, fp_ptr, Nat.zero_add, optK_some, ld_t h1, List.getElem?_cons_zero, List.getElem?_cons_succ, un_not]
  cases dead with
  | true =>
    simp only [Bool.not_true, condV_false]
    exact hK _ _ ⟨rfl, h⟩
  | false =>
    simp only [Bool.not_false, condV_true]
    refine tear_t h1 hsy hbs _ ?_
    rintro _ s2 ⟨rfl, vb', h2⟩
    exact hK _ _ ⟨rfl, DiskH.mk (d := DS.tear ⟨bs, sy, false, hold⟩ c) h2 (hok.tear c)⟩
end Go.Proofs.Vt
end
section
/- VoteLasts: what holds of a voter and its disk, whatever fails (plain facts). -/
namespace Go.Proofs.Vt
open Go Go.Rx Go.Proofs

theorem run_append : ∀ (ds : List Deed) (t : Vst) (D : Deed), Vst.run t (ds ++ [D]) = (match Vst.run t ds with | some t' => t'.step D | none => none)
  | [], t, D => by
    show (match t.step D with | some t' => t'.run [] | none => none) = t.step D
    cases t.step D <;> rfl
  | d :: ds, t, D => by
    show (match t.step d with | some t' => t'.run (ds ++ [D]) | none => none) = (match (match t.step d with | some t' => t'.run ds | none => none) with | some t' => t'.step D | none => none)
    cases t.step d with
    | none => rfl
    | some t' => exact run_append ds t' D

theorem putVo_has (vs : List Vo) (x : Vo) : x ∈ putVo vs x := by
  unfold putVo; split
  · rename_i hex; obtain ⟨y, hy, e⟩ := hex
    exact List.mem_map.2 ⟨y, hy, by rw [if_pos e]⟩
  · simp
theorem putVo_keeps {vs : List Vo} {x y : Vo} (hy : y ∈ vs) (e : numOf y ≠ numOf x) : y ∈ putVo vs x := by
  unfold putVo; split
  · exact List.mem_map.2 ⟨y, hy, by rw [if_neg e]⟩
  · exact List.mem_append_left _ hy
theorem putVo_perm {v w : List Vo} (h : v.Perm w) (x : Vo) : (putVo v x).Perm (putVo w x) := by
  unfold putVo
  by_cases hc : ∃ y ∈ v, numOf y = numOf x
  · have hc' : ∃ y ∈ w, numOf y = numOf x := hc.imp fun y hy => ⟨h.mem_iff.1 hy.1, hy.2⟩
    rw [if_pos hc, if_pos hc']; exact h.map _
  · have hc' : ¬ ∃ y ∈ w, numOf y = numOf x := fun hh => hc (hh.imp fun y hy => ⟨h.mem_iff.2 hy.1, hy.2⟩)
    rw [if_neg hc, if_neg hc']; exact h.append_right _
theorem room_perm {v w : List Vo} (h : v.Perm w) (n : Nat) : roomF v n = roomF w n := by
  unfold roomF
  rw [h.any_eq, h.length_eq]

/-- What was said to hold of a voter: what is promised, and the greatest ballots voted for. -/
structure Said (T : Nat) (B : List Nat) (p f : Nat) (v : List Vo) : Prop where
  p : T ≤ p
  v : ∀ n, f ≤ n → B.getD n 0 = 0 ∨ ∃ x ∈ v, numOf x = n ∧ B.getD n 0 ≤ x.b
theorem Said.perm {T : Nat} {B : List Nat} {p f : Nat} {v w : List Vo} (h : Said T B p f v) (hp : v.Perm w) : Said T B p f w :=
  ⟨h.p, fun n hn => (h.v n hn).imp id fun ⟨x, hx, e⟩ => ⟨x, hp.mem_iff.1 hx, e⟩⟩
theorem Said.more {T T' : Nat} {B : List Nat} {p p' f : Nat} {v : List Vo} (h : Said T B p f v) (hT : T' ≤ p') : Said T' B p' f v := ⟨hT, h.v⟩
theorem Said.forget {T : Nat} {B : List Nat} {p f n : Nat} {v : List Vo} (h : Said T B p f v) (hn : f ≤ n) : Said T B p n (v.filter fun x => decide (n ≤ numOf x)) :=
  ⟨h.p, fun k hk => (h.v k (by omega)).imp id fun ⟨x, hx, e, hb⟩ => ⟨x, List.mem_filter.2 ⟨hx, by simp; omega⟩, e, hb⟩⟩
theorem Said.put {T : Nat} {B : List Nat} {p f : Nat} {v : List Vo} (h : Said T B p f v) {x : Vo} (hv : ∀ y ∈ v, y.b ≤ p) (hx : p ≤ x.b) : Said T B (max p x.b) f (putVo v x) := by
  refine ⟨by have := h.p; omega, fun n hn => (h.v n hn).imp id fun ⟨y, hy, e, hb⟩ => ?_⟩
  by_cases hn2 : n = numOf x
  · have := hv y hy
    exact ⟨x, putVo_has v x, hn2.symm, by omega⟩
  · exact ⟨y, putVo_keeps hy (by rw [e]; exact hn2), e, hb⟩
theorem Said.vote {T : Nat} {B : List Nat} {p f : Nat} {v : List Vo} (h : Said T B p f v) {x : Vo} (hl : B.length = 12) (hv : ∀ y ∈ v, y.b ≤ p) (hx : p ≤ x.b) : Said (max T x.b) (B.set (numOf x) x.b) (max p x.b) f (putVo v x) := by
  have h1 := h.put hv hx
  refine ⟨by have := h.p; omega, fun n hn => ?_⟩
  rw [List.getD_eq_getElem?_getD, List.getElem?_set]
  by_cases hn2 : numOf x = n
  · rw [if_pos hn2]
    split
    · exact .inr ⟨x, putVo_has v x, hn2, Nat.le_refl _⟩
    · exact .inl rfl
  · rw [if_neg hn2, ← List.getD_eq_getElem?_getD]
    exact h1.v n hn

/-- A voter and its disk, both alive. -/
structure LI (S : VS) (d : DS) (ds : List Deed) (t : Vst) (m : Nat) : Prop where
  dd : d.dead = false
  sd : S.dead = false
  rows : S.rows = ds.map Deed.row
  ok : ∀ x ∈ ds, x.ok
  bs : d.bs = (ds.map Deed.row).flatMap recB
  sy : d.sy = d.bs.length
  run : Vst.run ⟨0, 0, []⟩ ds = some t
  tp : t.p = S.p
  tf : t.f = S.f
  tv : t.v.Perm S.votes
  few : ∀ x ∈ S.votes, x.b ≤ S.p
  len : ds.length ≤ m
/-- A disk that is dead, and what a voter would be that is opened of it. -/
structure DI (d : DS) (ds : List Deed) (t : Vst) (m : Nat) : Prop where
  dd : d.dead = true
  ok : ∀ x ∈ ds, x.ok
  scan : scanF d.bs = (ds.map Deed.row, ((ds.map Deed.row).flatMap recB).length, 0)
  take : d.bs.take ((ds.map Deed.row).flatMap recB).length = (ds.map Deed.row).flatMap recB
  le : ((ds.map Deed.row).flatMap recB).length ≤ d.bs.length
  big : d.bs.length ≤ 1048576
  run : Vst.run ⟨0, 0, []⟩ ds = some t
  few : ∀ x ∈ t.v, x.b ≤ t.p
  len : ds.length ≤ m
theorem rows_len : ∀ {ds : List Deed}, (∀ x ∈ ds, x.ok) → ((ds.map Deed.row).flatMap recB).length ≤ 250 * ds.length
  | [], _ => by simp
  | d :: ds, h => by
    have h1 := rows_len fun x hx => h x (List.mem_cons_of_mem d hx)
    have h2 := deed_len (h d (List.mem_cons_self ..))
    simp only [List.map_cons, List.flatMap_cons, List.length_append, List.length_cons]
    omega
theorem rows_short {ds : List Deed} (h : ∀ x ∈ ds, x.ok) : ∀ row ∈ ds.map Deed.row, row.length ≤ 40000 := fun row hrow => by
  obtain ⟨x, hx, rfl⟩ := List.mem_map.1 hrow
  exact deed_row (h x hx)
/-- A disk that died with all of its bytes. -/
theorem LI.died {S : VS} {d : DS} {ds : List Deed} {t : Vst} {m : Nat} (h : LI S d ds t m) (hm : m ≤ 1000) {d' : DS} (hd : d'.dead = true) (hb : d'.bs = d.bs) : DI d' ds t m := by
  have hl := rows_len h.ok
  have h1 := h.len
  have hbs : d'.bs = (ds.map Deed.row).flatMap recB := hb.trans h.bs
  refine ⟨hd, h.ok, by rw [hbs]; exact scan_rows (rows_short h.ok), by rw [hbs, List.take_length], by rw [hbs]; omega, by rw [hbs]; omega, h.run, fun x hx => ?_, h.len⟩
  rw [h.tp]; exact h.few x (h.tv.mem_iff.1 hx)
/-- A disk that died while a row was written. -/
theorem LI.torn {S : VS} {d : DS} {ds : List Deed} {t t' : Vst} {m : Nat} (h : LI S d ds t m) (hm : m ≤ 1000) {D : Deed} (hD : D.ok) (hst : t.step D = some t') (hfew : ∀ x ∈ t'.v, x.b ≤ t'.p) {d' : DS} {c : Nat} (hd : d'.dead = true) (hb : d'.bs = d.bs ++ (recB D.row).take c) : DI d' ds t (m + 1) ∨ DI d' (ds ++ [D]) t' (m + 1) := by
  have hl := rows_len h.ok
  have h1 := h.len
  have h2 := deed_len hD
  have h3 := deed_row hD
  have hrl := recB_length D.row
  rw [h.bs] at hb
  by_cases hc : c < D.row.length + 8
  · left
    have htl : ((recB D.row).take c).length ≤ 250 := by rw [List.length_take]; omega
    refine ⟨hd, h.ok, by rw [hb]; exact scan_torn (rows_short h.ok) h3 hc, by rw [hb]; exact take_left2 rfl, by rw [hb, List.length_append]; omega, by rw [hb, List.length_append]; omega, h.run, fun x hx => ?_, by omega⟩
    rw [h.tp]; exact h.few x (h.tv.mem_iff.1 hx)
  · right
    have ht : (recB D.row).take c = recB D.row := List.take_of_length_le (by omega)
    have e : (ds ++ [D]).map Deed.row = ds.map Deed.row ++ [D.row] := by rw [List.map_append]; rfl
    have e2 : ((ds ++ [D]).map Deed.row).flatMap recB = (ds.map Deed.row).flatMap recB ++ recB D.row := by rw [e, List.flatMap_append]; simp
    have hbs : d'.bs = ((ds ++ [D]).map Deed.row).flatMap recB := by rw [hb, ht, e2]
    have hok : ∀ x ∈ ds ++ [D], x.ok := fun x hx => by
      rcases List.mem_append.1 hx with hx | hx
      · exact h.ok x hx
      · rw [List.mem_singleton.1 hx]; exact hD
    have hl2 := rows_len hok
    rw [List.length_append, List.length_singleton] at hl2
    refine ⟨hd, hok, by rw [hbs]; exact scan_rows (rows_short hok), by rw [hbs, List.take_length], by rw [hbs]; omega, by rw [hbs]; omega, by rw [run_append, h.run]; exact hst, hfew, by rw [List.length_append, List.length_singleton]; omega⟩

/-- What adding a record does to a disk that lives. -/
theorem add_cases {d : DS} (hd : d.dead = false) (hs : d.sy = d.bs.length) {b : List UInt8} (hl : d.bs.length + b.length ≤ 1048576) :
    (addE d b = 0 ∧ addD d b = ⟨d.bs ++ b, (d.bs ++ b).length, false, .always⟩) ∨ (addE d b = 130 ∧ ∃ c k, addD d b = ⟨d.bs ++ b.take c, k, true, .arm c⟩) := by
  obtain ⟨bs, sy, dead, hold⟩ := d
  simp only at hd hs hl
  subst hd
  have hw : DS.writeE ⟨bs, sy, false, hold⟩ b = 0 := by
    unfold DS.writeE; rw [if_neg (by simp), if_neg (by simp; omega)]
  have hw2 : DS.write ⟨bs, sy, false, hold⟩ b = ⟨bs ++ b, sy, false, hold⟩ := by
    unfold DS.write; rw [if_neg (by simp), if_neg (by simp; omega)]
  unfold addE addD
  rw [if_pos hw, if_pos hw, hw2]
  cases hold with
  | always => exact .inl ⟨rfl, rfl⟩
  | arm c =>
    refine .inr ⟨rfl, c, sy + min c ((bs ++ b).length - sy), ?_⟩
    show DS.tear ⟨bs ++ b, sy, false, .arm c⟩ c = _
    unfold DS.tear
    dsimp only
    congr 1
    rw [hs, List.length_append, Nat.add_sub_cancel_left, List.take_append, List.take_of_length_le (by omega), Nat.add_sub_cancel_left]
    congr 1
    rcases Nat.le_total c b.length with h | h
    · rw [Nat.min_eq_left h]
    · rw [Nat.min_eq_right h, List.take_length, List.take_of_length_le h]
theorem swap_cases {d : DS} (hd : d.dead = false) (hs : d.sy = d.bs.length) {b : List UInt8} (hl : b.length ≤ 1048576) :
    (d.swapE b = 0 ∧ d.swap b = ⟨b, b.length, false, .always⟩) ∨ (d.swapE b = 130 ∧ (d.swap b).dead = true ∧ (d.swap b).bs = d.bs) := by
  obtain ⟨bs, sy, dead, hold⟩ := d
  simp only at hd hs
  subst hd
  unfold DS.swapE DS.swap
  simp only [Bool.false_eq_true, if_false]
  rw [if_neg (by omega), if_neg (by omega)]
  cases hold with
  | always => exact .inl ⟨rfl, rfl⟩
  | arm c =>
    refine .inr ⟨rfl, rfl, ?_⟩
    show bs.take _ = bs
    rw [hs, Nat.sub_self, Nat.min_zero, Nat.add_zero, List.take_length]
theorem crash_bs {d : DS} (hd : d.dead = false) (hs : d.sy = d.bs.length) (c : Nat) : (d.crash c).dead = true ∧ (d.crash c).bs = d.bs := by
  unfold DS.crash
  rw [if_neg (by rw [hd]; simp)]
  refine ⟨rfl, ?_⟩
  show d.bs.take _ = d.bs
  rw [hs, Nat.sub_self, Nat.min_zero, Nat.add_zero, List.take_length]
end Go.Proofs.Vt
end
section
/- VoteLasts: what each call does to a voter and its disk (plain facts). -/
namespace Go.Proofs.Vt
open Go Go.Rx Go.Proofs

/-- Behind a call: alive; or dead, and what would be opened. -/
def Mid (S : VS) (d : DS) (T : Nat) (B : List Nat) (was m : Nat) : Prop :=
  was ≤ S.p ∧ ((∃ ds t, LI S d ds t m ∧ Said T B S.p S.f S.votes) ∨ (∃ ds t, DI d ds t m ∧ Said T B t.p t.f t.v ∧ was ≤ t.p))

theorem LI.more {S : VS} {d : DS} {ds : List Deed} {t : Vst} {m m' : Nat} (h : LI S d ds t m) (hm : m ≤ m') : LI S d ds t m' := { h with len := Nat.le_trans h.len hm }
theorem DI.more {d : DS} {ds : List Deed} {t : Vst} {m m' : Nat} (h : DI d ds t m) (hm : m ≤ m') : DI d ds t m' := { h with len := Nat.le_trans h.len hm }
theorem LI.len_bs {S : VS} {d : DS} {ds : List Deed} {t : Vst} {m : Nat} (h : LI S d ds t m) : d.bs.length ≤ 250 * m := by
  have := rows_len h.ok; have := h.len; rw [h.bs]
  exact Nat.le_trans (rows_len h.ok) (Nat.mul_le_mul_left 250 h.len)

/-- A row was written. -/
theorem LI.add {S : VS} {d : DS} {ds : List Deed} {t t' : Vst} {m : Nat} (h : LI S d ds t m) {D : Deed} (hD : D.ok) (hst : t.step D = some t') {S' : VS} (hr : S'.rows = S.rows ++ [D.row]) (hsd : S'.dead = false) (hp : t'.p = S'.p) (hf : t'.f = S'.f) (hv : t'.v.Perm S'.votes) (hfew : ∀ x ∈ S'.votes, x.b ≤ S'.p)
    {d' : DS} (hd : d' = ⟨d.bs ++ recB D.row, (d.bs ++ recB D.row).length, false, .always⟩) : LI S' d' (ds ++ [D]) t' (m + 1) := by
  have e : (ds ++ [D]).map Deed.row = ds.map Deed.row ++ [D.row] := by rw [List.map_append]; rfl
  subst hd
  refine ⟨rfl, hsd, by rw [hr, h.rows, e], fun x hx => ?_, ?_, rfl, by rw [run_append, h.run]; exact hst, hp, hf, hv, hfew, by have := h.len; rw [List.length_append, List.length_singleton]; omega⟩
  · rcases List.mem_append.1 hx with hx | hx
    · exact h.ok x hx
    · rw [List.mem_singleton.1 hx]; exact hD
  · show d.bs ++ recB D.row = _
    rw [e, List.flatMap_append, h.bs]; simp

theorem mid_prep {S : VS} {d : DS} {ds : List Deed} {t : Vst} {m T b : Nat} {B : List Nat} (h : LI S d ds t m) (hs : Said T B S.p S.f S.votes) (hb : 1 ≤ b ∧ b ≤ 9007199254740991) (hm : m ≤ 900) :
    Mid (prepS S d b) (prepD S d b) (if prepOk S d b = true then max T b else T) B S.p (m + 1) := by
  have hT := hs.p
  by_cases hle : b ≤ S.p
  · have e2 : prepS S d b = S := by unfold prepS; rw [if_pos hle]
    have e3 : prepD S d b = d := by unfold prepD; rw [if_pos hle]
    rw [e2, e3]
    refine ⟨Nat.le_refl _, .inl ⟨ds, t, h.more (by omega), hs.more ?_⟩⟩
    split <;> omega
  · have hbl := h.len_bs
    have hrl := recP_len b
    have hst : t.step (.P b) = some ⟨max t.p b, t.f, t.v⟩ := rfl
    rcases add_cases h.dd h.sy (b := recB (rowP b)) (by omega) with ⟨a1, a2⟩ | ⟨a1, c, k, a2⟩
    · have eE : prepE S d b = 0 := by unfold prepE; rw [if_neg hle, a1]
      have eOk : prepOk S d b = true := by unfold prepOk; rw [eE, decide_eq_true (by omega)]; rfl
      have e2 : prepS S d b = { S.wrote 0 (rowP b) with p := max S.p b } := by unfold prepS; rw [if_neg hle, if_pos a1]
      have e3 : prepD S d b = addD d (recB (rowP b)) := by unfold prepD; rw [if_neg hle]
      rw [e2, e3, eOk, if_pos rfl]
      refine ⟨by show S.p ≤ max S.p b; omega, .inl ⟨ds ++ [.P b], _, h.add (D := .P b) (S' := { S.wrote 0 (rowP b) with p := max S.p b }) hb hst rfl rfl (by show max t.p b = max S.p b; rw [h.tp]) h.tf h.tv (fun x hx => ?_) a2, ?_⟩⟩
      · have := h.few x hx; show x.b ≤ max S.p b; omega
      · exact hs.more (by show max T b ≤ max S.p b; omega)
    · have eE : prepE S d b = 130 := by unfold prepE; rw [if_neg hle, a1]
      have eOk : prepOk S d b = false := by unfold prepOk; rw [eE]; simp
      have e2 : prepS S d b = S.wrote 130 (rowP b) := by unfold prepS; rw [if_neg hle, a1, if_neg (by omega)]
      have e3 : prepD S d b = addD d (recB (rowP b)) := by unfold prepD; rw [if_neg hle]
      rw [e2, e3, eOk, if_neg (by simp), a2]
      refine ⟨Nat.le_refl _, .inr ?_⟩
      have hs' := hs.perm h.tv.symm
      rw [← h.tp, ← h.tf] at hs'
      have hfew : ∀ x ∈ t.v, x.b ≤ max t.p b := fun x hx => by have := h.few x (h.tv.mem_iff.1 hx); rw [← h.tp] at this; omega
      rcases h.torn (by omega) (D := .P b) hb hst hfew (d' := ⟨d.bs ++ (recB (rowP b)).take c, k, true, .arm c⟩) rfl rfl with hd | hd
      · exact ⟨ds, t, hd, hs', by rw [h.tp]; exact Nat.le_refl _⟩
      · exact ⟨_, _, hd, hs'.more (by show T ≤ max t.p b; rw [h.tp]; omega), by show S.p ≤ max t.p b; rw [h.tp]; omega⟩

theorem mid_acc {S : VS} {d : DS} {ds : List Deed} {t : Vst} {m T : Nat} {B : List Nat} (h : LI S d ds t m) (hs : Said T B S.p S.f S.votes) (hl : B.length = 12) {x : Vo} (hx : x.ok) (hm : m ≤ 900) :
    Mid (accS S d x) (accD S d x) (if accOk S d x = true then max T x.b else T) (if accOk S d x = true then B.set (numOf x) x.b else B) S.p (m + 1) := by
  have hT := hs.p
  by_cases hgo : accGo S x = true
  · have hgo' : (S.p ≤ x.b ∧ S.f ≤ numOf x) ∧ roomF S.votes (numOf x) = true := by unfold accGo at hgo; simpa using hgo
    obtain ⟨⟨hpx, hfx⟩, hroom⟩ := hgo'
    have hbl := h.len_bs
    have hrl := recV_len hx
    have hst : t.step (.V x) = some ⟨max t.p x.b, t.f, putVo t.v x⟩ := by
      show (if t.f ≤ numOf x ∧ roomF t.v (numOf x) = true then some (⟨max t.p x.b, t.f, putVo t.v x⟩ : Vst) else none) = _
      rw [if_pos ⟨by rw [h.tf]; exact hfx, by rw [room_perm h.tv]; exact hroom⟩]
    have hput := putVo_perm h.tv x
    have hfew2 : ∀ y ∈ putVo S.votes x, y.b ≤ max S.p x.b := fun y hy => by
      rcases putVo_mem hy with rfl | hy
      · omega
      · have := h.few y hy; omega
    rcases add_cases h.dd h.sy (b := recB (rowV x)) (by omega) with ⟨a1, a2⟩ | ⟨a1, c, k, a2⟩
    · have eE : accE S d x = 0 := by unfold accE; rw [if_pos ⟨hpx, hfx⟩, if_pos hroom, a1]
      have eOk : accOk S d x = true := by unfold accOk; rw [hgo, eE]; rfl
      have e2 : accS S d x = { S.wrote 0 (rowV x) with p := max S.p x.b, votes := putVo S.votes x } := by unfold accS; rw [if_pos hgo, if_pos a1]
      have e3 : accD S d x = addD d (recB (rowV x)) := by unfold accD; rw [if_pos hgo]
      rw [e2, e3, eOk, if_pos rfl, if_pos rfl]
      exact ⟨by show S.p ≤ max S.p x.b; omega, .inl ⟨ds ++ [.V x], _, h.add (D := .V x) (S' := { S.wrote 0 (rowV x) with p := max S.p x.b, votes := putVo S.votes x }) hx hst rfl rfl (by show max t.p x.b = max S.p x.b; rw [h.tp]) h.tf hput hfew2 a2, hs.vote hl h.few hpx⟩⟩
    · have eE : accE S d x = 130 := by unfold accE; rw [if_pos ⟨hpx, hfx⟩, if_pos hroom, a1]
      have eOk : accOk S d x = false := by unfold accOk; rw [eE]; simp
      have e2 : accS S d x = S.wrote 130 (rowV x) := by unfold accS; rw [if_pos hgo, a1, if_neg (by omega)]
      have e3 : accD S d x = addD d (recB (rowV x)) := by unfold accD; rw [if_pos hgo]
      rw [e2, e3, eOk, if_neg (by simp), if_neg (by simp), a2]
      refine ⟨Nat.le_refl _, .inr ?_⟩
      have hs' := hs.perm h.tv.symm
      rw [← h.tp, ← h.tf] at hs'
      have hfewt : ∀ y ∈ t.v, y.b ≤ t.p := fun y hy => by rw [h.tp]; exact h.few y (h.tv.mem_iff.1 hy)
      have hfew : ∀ y ∈ putVo t.v x, y.b ≤ max t.p x.b := fun y hy => by
        rcases putVo_mem hy with rfl | hy
        · omega
        · have := hfewt y hy; omega
      rcases h.torn (by omega) (D := .V x) hx hst hfew (d' := ⟨d.bs ++ (recB (rowV x)).take c, k, true, .arm c⟩) rfl rfl with hd | hd
      · exact ⟨ds, t, hd, hs', by rw [h.tp]; exact Nat.le_refl _⟩
      · exact ⟨_, _, hd, hs'.put hfewt (by rw [h.tp]; exact hpx), by show S.p ≤ max t.p x.b; rw [h.tp]; omega⟩
  · have eOk : accOk S d x = false := by unfold accOk; rw [Bool.eq_false_iff.2 hgo]; rfl
    have e2 : accS S d x = S := by unfold accS; rw [if_neg hgo]
    have e3 : accD S d x = d := by unfold accD; rw [if_neg hgo]
    rw [e2, e3, eOk, if_neg (by simp), if_neg (by simp)]
    exact ⟨Nat.le_refl _, .inl ⟨ds, t, h.more (by omega), hs⟩⟩

theorem mid_forg {S : VS} {d : DS} {ds : List Deed} {t : Vst} {m T below : Nat} {B : List Nat} (h : LI S d ds t m) (hs : Said T B S.p S.f S.votes) (hok : S.ok) (hb : 1 ≤ below ∧ below ≤ 9007199254740991) (hbf : ¬ below ≤ S.f) {ws : List Vo} (hw : Told S.votes below ws) (hm : m ≤ 900) (hm10 : 10 ≤ m) :
    Mid (forgS S d below ws) (forgD S d below ws) T B S.p (m + 1) := by
  have hwok := told_ok hok hw
  have hmem : ∀ x ∈ ws, x ∈ S.votes ∧ below ≤ numOf x := fun x hx => by
    have := hw.perm.mem_iff.1 hx
    rw [List.mem_filter] at this
    simpa using this
  have hdok := forgDs_ok (p := S.p) (below := below) (ws := ws) hok.p hb hwok.1
  have hdlen := forgDs_len S.p below ws
  have hrl := rows_len hdok
  have erow := forgDs_row S.p below ws
  have eB : forgB S below ws = ((forgDs S.p below ws).map Deed.row).flatMap recB := by unfold forgB forgRows; rw [erow]
  have h8 := hwok.2
  have hnodup : (ws.map numOf).Nodup := by
    have : (ws.map numOf).Pairwise (· < ·) := List.pairwise_map.2 hw.up
    exact this.imp fun h => Nat.ne_of_lt h
  have hrun : Vst.run ⟨0, 0, []⟩ (forgDs S.p below ws) = some ⟨S.p, below, ws⟩ := run_forgot (fun x hx => (hmem x hx).2) (fun x hx => h.few x (hmem x hx).1) hnodup hwok.2
  rcases swap_cases h.dd h.sy (b := forgB S below ws) (by rw [eB]; omega) with ⟨a1, a2⟩ | ⟨a1, a2, a3⟩
  · have e2 : forgS S d below ws = ⟨S.p, below, S.votes.filter (fun x => decide (below ≤ numOf x)), forgRows S below ws, false⟩ := by unfold forgS; rw [if_neg hbf, if_pos a1]
    have e3 : forgD S d below ws = ⟨forgB S below ws, (forgB S below ws).length, false, .always⟩ := by unfold forgD; rw [if_neg hbf, a2]
    rw [e2, e3]
    refine ⟨Nat.le_refl _, .inl ⟨forgDs S.p below ws, ⟨S.p, below, ws⟩, ⟨rfl, rfl, ?_, hdok, eB, rfl, hrun, rfl, rfl, hw.perm, fun x hx => h.few x (List.mem_filter.1 hx).1, by omega⟩, hs.forget (n := below) (show S.f ≤ below by omega)⟩⟩
    show forgRows S below ws = _
    rw [erow]; rfl
  · have e2 : forgS S d below ws = { S with dead := d.swapE (forgB S below ws) == 130 } := by unfold forgS; rw [if_neg hbf, a1, if_neg (by omega)]
    have e3 : forgD S d below ws = d.swap (forgB S below ws) := by unfold forgD; rw [if_neg hbf]
    rw [e2, e3]
    have hs' := hs.perm h.tv.symm
    rw [← h.tp, ← h.tf] at hs'
    exact ⟨Nat.le_refl _, .inr ⟨ds, t, (h.died (by omega) a2 a3).more (by omega), hs', by rw [h.tp]; exact Nat.le_refl _⟩⟩

theorem mid_arm {S : VS} {d : DS} {ds : List Deed} {t : Vst} {m T : Nat} {B : List Nat} (h : LI S d ds t m) (hs : Said T B S.p S.f S.votes) (c : Nat) : Mid S (d.armed c) T B S.p (m + 1) := by
  have e : d.armed c = ⟨d.bs, d.sy, false, .arm c⟩ := by unfold DS.armed; rw [if_neg (by rw [h.dd]; simp)]
  rw [e]
  exact ⟨Nat.le_refl _, .inl ⟨ds, t, ⟨rfl, h.sd, h.rows, h.ok, h.bs, h.sy, h.run, h.tp, h.tf, h.tv, h.few, by have := h.len; omega⟩, hs⟩⟩
theorem mid_crash {S : VS} {d : DS} {ds : List Deed} {t : Vst} {m T : Nat} {B : List Nat} (h : LI S d ds t m) (hs : Said T B S.p S.f S.votes) (hm : m ≤ 900) (c : Nat) : Mid S (d.crash c) T B S.p (m + 1) := by
  obtain ⟨a2, a3⟩ := crash_bs h.dd h.sy c
  have hs' := hs.perm h.tv.symm
  rw [← h.tp, ← h.tf] at hs'
  exact ⟨Nat.le_refl _, .inr ⟨ds, t, (h.died (by omega) a2 a3).more (by omega), hs', by rw [h.tp]; exact Nat.le_refl _⟩⟩
theorem mid_same {S : VS} {d : DS} {ds : List Deed} {t : Vst} {m T : Nat} {B : List Nat} (h : LI S d ds t m) (hs : Said T B S.p S.f S.votes) : Mid S d T B S.p (m + 1) :=
  ⟨Nat.le_refl _, .inl ⟨ds, t, h.more (by omega), hs⟩⟩

/-- A voter that is opened anew. -/
theorem DI.opened {d : DS} {ds : List Deed} {t : Vst} {m : Nat} (h : DI d ds t m) : LI (t.with (ds.map Deed.row)) (DS.cutN ⟨d.bs, d.sy, false, .always⟩ ((ds.map Deed.row).flatMap recB).length) ds t m :=
  ⟨rfl, rfl, rfl, h.ok, h.take, by show _ = (d.bs.take _).length; rw [h.take]; rfl, h.run, rfl, rfl, List.Perm.refl _, h.few, h.len⟩
end Go.Proofs.Vt
end
section
/- VoteLasts: does a voter hold what was said? -/
namespace Go.Proofs.Vt
open Go Go.Rx Go.Proofs
variable {G : Nat → Option (List V)}

theorem told_t {T : Nat} {B : List Nat} {S : VS} (hB : B.length = 12) (hs : Said T B S.p S.f S.votes) {kv kd : Nat} {r : List HP} {s : AS} (h : Hs G (VoterH kv kd S :: r) s) :
    Ens (sealchainlaw15_told_holds (.agg (nV T :: B.map nV)) (.ptr (some ⟨.new kv, 0⟩))) s fun u s' => u = .bool true ∧ Hs G (VoterH kv kd S :: r) s' := by
  intro K hK
  unfold sealchainlaw15_told_holds sealchainlaw15_told_holds_q
  refine boxA_t h fun k2 s1 h1 => ?_
  have hok : S.ok := by
    obtain ⟨_, _, hok, _⟩ := VoterH.iff.1 h
    exact hok
  have hp := hs.p
  have hfm := hok.f
  have d1 : decide ((S.p : Int) < (T : Int)) = false := decide_eq_false (by omega)
  have hh := Rx.holds_t (ti := ti3) rfl h1 (o := 0) (v := nV T) rfl (by simp [nV, sameV, same0])
  have e0 : fp 0 (.ptr (some ⟨.new k2, 0⟩)) = some (.ptr (some ⟨.new k2, 0⟩)) := rfl
  rw [Promised_t (h1.pull 1), e0, optK_some, ld_t h1, List.getElem?_cons_zero, optK_some, hh, chkB_true]
  show optK (binV .lss _ _ (.int .i64 S.p) (.int .i64 T)) _ _
  rw [bin_lss, optK_some, d1, condV_false]
  refine Votes_t (h1.pull 1) _ ?_
  rintro u s2 ⟨ws, hw, h2⟩
  rw [Floor_t (h2.pull 1)]
  obtain ⟨ua, uc, ux, rfl⟩ := VotesH.slice h2
  have hwl : ws.length ≤ 8 := by
    have h1 := hw.perm.length_eq
    have h2 := List.length_filter_le (fun x => decide (S.f ≤ numOf x)) S.votes
    have := hok.v; omega
  refine loop_rule (fun m tm s3 => ∃ n : Nat, S.f ≤ n ∧ n ≤ 9007199254740991 ∧ m = 12 - n ∧ s3 = s2 ∧ tm.getD 2 .junk = .ptr (some ⟨.new k2, 0⟩) ∧ tm.getD 5 .junk = .slice ua ws.length uc ux ∧ tm.getD 6 .junk = .int .i64 (n : Nat)) ?_ (m := 12 - S.f) (by omega)
    ⟨S.f, Nat.le_refl _, by omega, rfl, rfl, rfl, rfl, rfl⟩
  rintro m tm s3 Kn ⟨n, hfn, hnm, rfl, rfl, t2, t5, t6⟩ hnext
  simp only [t2, t5, t6]
  unfold sealchainlaw15_told_holds_L1
  rw [bin_lss, optK_some]
  by_cases hn12 : n < 12
  · have d2 : decide ((n : Int) < 12) = true := decide_eq_true (by omega)
    have d3 : decide ((n : Int) ≥ 0) = true := decide_eq_true (by omega)
    have wn : IntKind.i64.wrap ((n : Int) + 1) = ((n + 1 : Nat) : Int) := by rw [wrap64 (by omega) (by omega)]; omega
    rw [d2, grd_true, bin_geq, optK_some, d3, condV_true]
    refine loop_rule (fun m tm s4 => ∃ (i best : Nat), i + m = ws.length ∧ s4 = s3 ∧ (((∀ y ∈ ws.take i, numOf y ≠ n) ∧ best = 0) ∨ ∃ y ∈ ws.take i, numOf y = n ∧ best = y.b) ∧
      tm.getD 2 .junk = .ptr (some ⟨.new k2, 0⟩) ∧ tm.getD 5 .junk = .slice ua ws.length uc ux ∧ tm.getD 6 .junk = .int .i64 (n : Nat) ∧ tm.getD 7 .junk = .int .i64 (best : Nat) ∧ tm.getD 8 .junk = .int .i64 (i : Nat)) ?_ (m := ws.length) (by omega)
      ⟨0, 0, by omega, rfl, .inl ⟨by simp, rfl⟩, rfl, rfl, rfl, rfl, rfl⟩
    rintro m2 tm2 s4 Kn2 ⟨i, best, him, rfl, hbest, u2, u5, u6, u7, u8⟩ hnext2
    simp only [u2, u5, u6, u7, u8]
    unfold sealchainlaw15_told_holds_L2
    rw [lenV_slice, optK_some, bin_lss, optK_some]
    by_cases hi : i < ws.length
    · have d4 : decide ((i : Int) < (ws.length : Int)) = true := decide_eq_true (by omega)
      have wi : IntKind.i64.wrap ((i : Int) + 1) = ((i + 1 : Nat) : Int) := by rw [wrap64 (by omega) (by omega)]; omega
      obtain ⟨x, hx⟩ : ∃ x, ws[i]? = some x := ⟨ws[i], by simp [hi]⟩
      obtain ⟨bb, oo, vv, r', ee, ll, _, _⟩ := votes_elem h2 hx .i64
      have ln : ∀ K : K0, ld1 (.ptr (some ⟨bb, oo + 1 + 0⟩)) s4 K = K (.int .i64 x.c.num) s4 := fun K => ll 1 _ K rfl
      have lb : ∀ K : K0, ld1 (.ptr (some ⟨bb, oo + 0⟩)) s4 K = K (.int .i64 x.b) s4 := fun K => ll 0 _ K rfl
      have etake : ws.take (i + 1) = ws.take i ++ [x] := by rw [List.take_add_one, hx]; rfl
      rw [d4, condV_true, ee, optK_some, fp_ptr, optK_some, fp_ptr, optK_some, ln, bin_eql, optK_some]
      by_cases hxn : numOf x = n
      · have d5 : ((x.c.num : Int) == (n : Int)) = true := by unfold numOf at hxn; rw [hxn]; simp
        rw [d5, condV_true, optK_some, fp_ptr, optK_some, lb, bin_add, optK_some, wi, nx_nrm]
        exact hnext2 (ws.length - (i + 1)) _ _ (by omega) ⟨i + 1, x.b, by omega, rfl, .inr ⟨x, by rw [etake]; simp, hxn, rfl⟩, rfl, rfl, rfl, rfl, rfl⟩
      · have d5 : ((x.c.num : Int) == (n : Int)) = false := by unfold numOf at hxn; simp; omega
        rw [d5, condV_false, bin_add, optK_some, wi, nx_nrm]
        refine hnext2 (ws.length - (i + 1)) _ _ (by omega) ⟨i + 1, best, by omega, rfl, ?_, rfl, rfl, rfl, rfl, rfl⟩
        rw [etake]
        rcases hbest with ⟨h0, hb⟩ | ⟨y, hy, hyn, hb⟩
        · refine .inl ⟨fun y hy => ?_, hb⟩
          rcases List.mem_append.1 hy with hy | hy
          · exact h0 y hy
          · rw [List.mem_singleton.1 hy]; exact hxn
        · exact .inr ⟨y, List.mem_append_left _ hy, hyn, hb⟩
    · have d4 : decide ((i : Int) < (ws.length : Int)) = false := decide_eq_false (by omega)
      rw [d4, condV_false, nx_exit, exX_exit]
      show exB true _ _
      rw [exB_true]
      show optK (fp 1 (.ptr (some ⟨.new k2, 0⟩))) s4 _
      have hil : i = ws.length := by omega
      rw [hil, List.take_length] at hbest
      have eel : elemPtr (some 12) 1 (.ptr (some ⟨.new k2, 0 + 1⟩)) (.int .i64 (n : Nat)) = some (.ptr (some ⟨.new k2, 0 + 1 + n⟩)) := elemA_ok hn12
      have eget : (nV T :: B.map nV)[0 + 1 + n]? = some (.int .i64 (B.getD n 0 : Nat)) := by
        have e : 0 + 1 + n = n + 1 := by omega
        rw [e, List.getElem?_cons_succ, List.getElem?_map, List.getD_eq_getElem?_getD, List.getElem?_eq_getElem (by omega)]; rfl
      have hle : B.getD n 0 ≤ best := by
        rcases hs.v n hfn with h0 | ⟨x, hx, hxn, hxb⟩
        · omega
        · have hxw : x ∈ ws := by
            rw [hw.perm.mem_iff, List.mem_filter]
            exact ⟨hx, by simp; omega⟩
          rcases hbest with ⟨h0, _⟩ | ⟨y, hy, hyn, hb⟩
          · exact absurd hxn (h0 x hxw)
          · have hnd : (ws.map numOf).Nodup := by
              have : (ws.map numOf).Pairwise (· < ·) := List.pairwise_map.2 hw.up
              exact this.imp fun h => Nat.ne_of_lt h
            have := nodup_inj hnd x hxw y hy (by rw [hxn, hyn])
            rw [hb, ← this]; exact hxb
      have d6 : decide ((best : Int) < ((B.getD n 0 : Nat) : Int)) = false := decide_eq_false (by omega)
      rw [fp_ptr, optK_some]
      show optK (elemPtr (some 12) 1 (.ptr (some ⟨.new k2, 0 + 1⟩)) (.int .i64 (n : Nat))) s4 _
      rw [eel, optK_some, ld_t (h2.pull 2), eget, optK_some]
      show optK (binV .lss _ _ (.int .i64 (best : Nat)) _) s4 _
      rw [bin_lss, optK_some, d6, condV_false]
      show optK (binV .add _ _ (.int .i64 (n : Nat)) (.int .i64 1)) s4 _
      rw [bin_add, optK_some, wn, nx_nrm]
      exact hnext (12 - (n + 1)) _ _ (by omega) ⟨n + 1, by omega, by omega, rfl, rfl, rfl, rfl, rfl⟩
  · have d2 : decide ((n : Int) < 12) = false := decide_eq_false (by omega)
    rw [d2, grd_false, nx_exit, exX_exit]
    show exB true _ _
    rw [exB_true]
    exact hK _ _ ⟨rfl, (h2.pull 1).drop 1 |>.drop 1⟩
end Go.Proofs.Vt
end
