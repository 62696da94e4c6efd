/- A part of the proofs of the Vote laws: contracts of the disk's and the number writer's functions. -/
import Derived.Test.YtlmjmjpohjdogaaGreatDoorF4
import Derived.Test.YtlmjmjpohjdogaaGreatDoorRxD
set_option linter.unusedVariables false
set_option linter.unusedSimpArgs false
section
/- What the disk does. -/
namespace Go.Proofs.Vt
open Go Go.Rx Go.Proofs

/-- A disk in memory: its bytes, how many of them last, is it dead, what says whether a sync holds, how many rows were written; where it lies. -/
structure DiskAt (s : AS) (kd : Nat) (bs : List UInt8) (sy : Nat) (dead : Bool) (hf : V) (nt : Nat) (F : List Nat) : Prop where
  ex : ∃ vb b vt xt bt, s.get kd = some (.cells [vb, .int .i64 sy, .bool dead, hf, vt] 0) ∧ OwnR 1 s vb bs.length (bs.map byteV) b ∧ OwnR 1 s vt nt xt bt ∧
    (kd :: (b.toList ++ bt.toList)).Nodup ∧ F = kd :: (b.toList ++ bt.toList)
  fn : ∃ g c, hf = .func g [] c
  lt : ∀ k ∈ F, k < s.next
  le : sy ≤ bs.length
  room : bs.length ≤ 1048576 ∧ nt ≤ 1099511627776

theorem none_ok {s : AS} {k u : Nat} {a b c e : V} {g : Fn} {x y : List V} (h : s.get k = some (.cells [a, b, c, .func g x y, e] u)) (K : K0) :
    fn64 (.ptr (some ⟨.new k, 0⟩)) s K = K (.bool false) s := by
  unfold fn64 fn64_q
  simp [ld1_new h]

theorem live_ok {s : AS} {k u : Nat} {a b e : V} {d : Bool} {g : Fn} {x y : List V} (h : s.get k = some (.cells [a, b, .bool d, .func g x y, e] u)) (K : K0) :
    fn52 (.ptr (some ⟨.new k, 0⟩)) s K = K (.int .i64 (if d then 130 else 0)) s := by
  unfold fn52 fn52_q
  simp only [none_ok h]
  simp [ld1_new h]
  cases d <;> simp

/-- copied: bytes in room of their own. -/
theorem copied_ok {s : AS} {v : V} {ys : List UInt8} (h : Rd s v ys) (hs : ∀ (o : AObj), Rd (s.alloc o) v ys) (hn : ys.length ≤ 140737488355328) :
    ∃ v' s', (∀ K, fn53 v s K = K v' s') ∧ OwnR 1 s' v' ys.length (ys.map byteV) (some s.next) ∧ Kept [] s s' ∧ s'.next = s.next + 1 := by
  obtain ⟨a, c, ex, rfl⟩ := h.sl
  by_cases h0 : ys.length = 0
  · have : ys = [] := List.eq_nil_of_length_eq_zero h0
    subst this
    refine ⟨.slice (some ⟨.new s.next, 0⟩) 0 0 true, s.alloc (.cells [] 0), fun K => ?_, ⟨by simp, rfl, 0, true, [], 0, rfl, by simp, by simp, by simp, by simp, .inl rfl⟩, Kept.alloc _, by simp⟩
    unfold fn53 fn53_q
    simp only [lenV_slice, optK_some]
    have e := mkBytes_ok s 0 (by omega)
    simp only [List.length_nil]
    rw [e]
    have h1 := hs (.cells [] 0)
    simp only [cpy, srcLen, List.replicate_zero]
    have hsrc := h1.src
    simp only [List.length_nil] at hsrc
    simp [hsrc]
  · refine ⟨.slice (some ⟨.new s.next, 0⟩) ys.length ys.length true, (s.alloc (.cells (List.replicate ys.length (.int .u8 0)) 0)).put s.next (some (.cells (ys.map byteV) 0)), fun K => ?_, ?_, ?_, by simp⟩
    · unfold fn53 fn53_q
      simp only [lenV_slice, optK_some]
      rw [mkBytes_ok s _ hn]
      have h1 := hs (.cells (List.replicate ys.length (.int .u8 0)) 0)
      have hsrc := h1.src
      simp only [cpy, srcLen, Nat.min_self, hsrc, Nat.mul_one, if_neg h0, true_or, if_true]
      have hsp : spl (List.replicate ys.length (V.int .u8 0)) 0 (ys.map byteV) = ys.map byteV := by
        unfold spl; simp
      simp [setN, byteV_flat, hsp]
    · refine ⟨by simp, byteV_flat ys, ys.length, true, ys.map byteV, 0, rfl, by simp, ?_, Nat.le_refl _, by simp, .inl rfl⟩
      exact List.take_of_length_le (by simp)
    · refine ⟨by simp, rfl, fun k hk _ => ?_⟩
      rw [AS.get_put, if_neg (by omega), AS.get_alloc, if_neg (by omega)]

theorem New_ok (s : AS) (K : K0) : fn9 s K = K (.ptr (some ⟨.new s.next, 0⟩)) (s.alloc (.cells [.slice none 0 0 true, .int .i64 0, .bool false, .func (.func N_fn38) [] [], .slice none 0 0 true] 0)) := by
  unfold fn9 fn9_q
  simp [fillV, placeS, cellsV, spl, aggO, boxV, newC]

theorem DiskAt.new (s : AS) : DiskAt (s.alloc (.cells [.slice none 0 0 true, .int .i64 0, .bool false, .func (.func N_fn38) [] [], .slice none 0 0 true] 0)) s.next [] 0 false (.func (.func N_fn38) [] []) 0 [s.next] := by
  refine ⟨⟨_, none, _, [], none, by simp; exact ⟨rfl, rfl⟩, own_nil _ _ _, own_nil _ _ _, by simp, rfl⟩, ⟨_, _, rfl⟩, by simp, by simp, by simp⟩

theorem DiskAt.kept {s s' : AS} {kd : Nat} {bs : List UInt8} {sy : Nat} {dead : Bool} {hf : V} {nt : Nat} {F m : List Nat} (h : DiskAt s kd bs sy dead hf nt F) (hk : Kept m s s') (hd : ∀ k ∈ F, k ∉ m) : DiskAt s' kd bs sy dead hf nt F := by
  obtain ⟨vb, b, vt, xt, bt, hg, hb, ht, hn, hF⟩ := h.ex
  have mem : ∀ k ∈ F, s'.get k = s.get k := fun k hm => hk.get k (h.lt k hm) (hd k hm)
  refine ⟨⟨vb, b, vt, xt, bt, (mem kd (by simp [hF])).trans hg, hb.kept fun k e => mem k (by simp [hF, e]), ht.kept fun k e => mem k (by simp [hF, e]), hn, hF⟩, h.fn, fun k hm => Nat.lt_of_lt_of_le (h.lt k hm) hk.next, h.le, h.room⟩

end Go.Proofs.Vt
end
section
/- What the disk does, further. -/
namespace Go.Proofs.Vt
open Go Go.Rx Go.Proofs

abbrev alwaysV : V := .func (.func N_fn38) [] []

/-- A slice is cut. -/
theorem own_cut {s : AS} {v : V} {bs : List UInt8} {b : Option Nat} (h : OwnR 1 s v bs.length (bs.map byteV) b) {n : Nat} (hn : n ≤ bs.length) :
    ∃ v', sliceSl 1 v none (some (.int .i64 n)) none = some v' ∧ OwnR 1 s v' (bs.take n).length ((bs.take n).map byteV) b := by
  have hat := h.at'
  have hlen : (bs.take n).length = n := by simp; omega
  cases b with
  | none =>
    obtain ⟨h0, ex, rfl⟩ := hat
    have e0 : n = 0 := by omega
    subst e0
    have : bs.length = 0 := h0
    refine ⟨.slice none 0 0 ex, ?_, by simpa using own_nil 1 s ex⟩
    simp [sliceSl, bounds3, boundV]
  | some k =>
    obtain ⟨c, ex, cs, u, rfl, hg, ht, hmc, hcl, hex⟩ := hat
    have hb3 : bounds3 c bs.length none (some (.int .i64 n)) none = some (0, n, c) := by
      have : (0 : Int) ≤ n ∧ (n : Int) ≤ c := by omega
      have h2 : n ≤ c := by omega
      simp [bounds3, boundV, this, h2]
    by_cases hc : c = 0
    · have e0 : n = 0 := by omega
      have eb : bs.length = 0 := by omega
      have ebs : bs = [] := List.eq_nil_of_length_eq_zero eb
      subst hc; subst e0; subst ebs
      cases ex with
      | true =>
        refine ⟨.slice (some ⟨.new k, 0⟩) 0 0 true, by simp only [sliceSl, hb3]; simp, by simp, by simp, 0, true, cs, u, by simp, hg, by simp, by simp, by simp, .inl rfl⟩
      | false => simp at hex
    · refine ⟨.slice (some ⟨.new k, 0⟩) n c ex, ?_, ?_⟩
      · simp only [sliceSl, hb3]
        cases ex with
        | true =>
          have : (if c = 0 then (⟨.new k, 0⟩ : Ad) else add ⟨.new k, 0⟩ (0 * 1)) = ⟨.new k, 0⟩ := by simp [add]
          simp [this, add]
        | false => simp [hc, hmc, add]
      · refine ⟨by simp, byteV_flat _, c, ex, cs, u, by rw [hlen], hg, ?_, by omega, hcl, hex⟩
        rw [hlen, Nat.mul_one, List.map_take, ← ht, List.take_take]
        congr 1
        omega

end Go.Proofs.Vt
end
section
/- The disk, by parts of memory. -/
namespace Go.Proofs.Vt
open Go Go.Rx Go.Proofs
variable {G : Nat → Option (List V)}

/-- What says whether a sync holds. -/
inductive Hold where
  | always
  | arm (cut : Nat)
def HoldH (hf : V) : Hold → HP
  | .always => HP.pure (hf = alwaysV)
  | .arm c => HP.ex fun k : Nat => HP.all [HP.pure (hf = .func (.func 61) [] [.ptr (some ⟨.new k, 0⟩)]), Ob k (.cells [.int .i64 c] 0)]

structure DS where
  bs : List UInt8
  sy : Nat
  dead : Bool
  hold : Hold
def DS.tear (d : DS) (c : Nat) : DS := ⟨d.bs.take (d.sy + min c (d.bs.length - d.sy)), d.sy + min c (d.bs.length - d.sy), true, d.hold⟩
structure DS.ok (d : DS) (n nt : Nat) : Prop where
  n : n ≤ nt
  nt : nt ≤ 1099511627776
  sy : d.sy ≤ d.bs.length
  bs : d.bs.length ≤ 1048576

def DiskH (kd : Nat) (d : DS) (nt : Nat) : HP := HP.ex fun vb : V => HP.ex fun hf : V => HP.ex fun vt : V => HP.ex fun n : Nat => HP.ex fun xt : List V =>
  HP.all [HP.pure (d.ok n nt), Ob kd (.cells [vb, .int .i64 d.sy, .bool d.dead, hf, vt] 0), BytesH vb d.bs, HoldH hf d.hold, SlH 1 vt n xt]

theorem DiskH.iff {kd : Nat} {d : DS} {nt : Nat} {r : List HP} {s : AS} : Hs G (DiskH kd d nt :: r) s ↔ ∃ vb hf vt n xt, d.ok n nt ∧ Hs G (Ob kd (.cells [vb, .int .i64 d.sy, .bool d.dead, hf, vt] 0) :: BytesH vb d.bs :: HoldH hf d.hold :: SlH 1 vt n xt :: r) s := by
  unfold DiskH
  simp only [Hs.ex_iff, Hs.all_iff, List.cons_append, List.nil_append, Hs.pure_iff]

theorem DiskH.mk {kd : Nat} {d : DS} {n nt : Nat} {vb hf vt : V} {xt : List V} {r : List HP} {s : AS} (h : Hs G (Ob kd (.cells [vb, .int .i64 d.sy, .bool d.dead, hf, vt] 0) :: BytesH vb d.bs :: HoldH hf d.hold :: SlH 1 vt n xt :: r) s) (hok : d.ok n nt) : Hs G (DiskH kd d nt :: r) s :=
  DiskH.iff.2 ⟨_, _, _, _, _, hok, h⟩
theorem HoldH.arm_iff {hf : V} {c : Nat} {r : List HP} {s : AS} : Hs G (HoldH hf (.arm c) :: r) s ↔ ∃ k, hf = .func (.func 61) [] [.ptr (some ⟨.new k, 0⟩)] ∧ Hs G (Ob k (.cells [.int .i64 c] 0) :: r) s := by
  unfold HoldH
  simp only [Hs.ex_iff, Hs.all_iff, List.cons_append, List.nil_append, Hs.pure_iff]
theorem HoldH.fn {hf : V} {h : Hold} {r : List HP} {s : AS} (hs : Hs G (HoldH hf h :: r) s) : ∃ g c, hf = .func g [] c := by
  cases h with
  | always => exact ⟨_, _, (Hs.pure_iff.1 hs).1⟩
  | arm c =>
    rw [HoldH.arm_iff] at hs
    obtain ⟨k, e, _⟩ := hs
    exact ⟨_, _, e⟩

/-- A slice that has its object for itself is cut. -/
theorem cut_t {v : V} {bs : List UInt8} {r : List HP} {s : AS} (h : Hs G (BytesH v bs :: r) s) {n : Nat} (hn : n ≤ bs.length) :
    ∃ v', sliceSl 1 v none (some (.int .i64 n)) none = some v' ∧ Hs G (BytesH v' (bs.take n) :: r) s := by
  obtain ⟨F1, F2, h1, h2, hd, ⟨b, ho, hb⟩, hl⟩ := h.sep
  obtain ⟨v', e, ho'⟩ := own_cut ho hn
  exact ⟨v', e, h.old, F1, F2, h1, h2, hd, ⟨b, ho', hb⟩, hl⟩

theorem dlive_t {k u : Nat} {a b hf e : V} {d : Bool} {r : List HP} {s : AS} (h : Hs G (Ob k (.cells [a, b, .bool d, hf, e] u) :: r) s) (hh : ∃ g c, hf = .func g [] c) (K : K0) :
    fn52 (.ptr (some ⟨.new k, 0⟩)) s K = K (.int .i64 (if d then 130 else 0)) s := by
  obtain ⟨g, c, rfl⟩ := hh
  exact live_ok h.get K
theorem dnone_t {k u : Nat} {a b hf d e : V} {r : List HP} {s : AS} (h : Hs G (Ob k (.cells [a, b, d, hf, e] u) :: r) s) (hh : ∃ g c, hf = .func g [] c) (K : K0) :
    fn64 (.ptr (some ⟨.new k, 0⟩)) s K = K (.bool false) s := by
  obtain ⟨g, c, rfl⟩ := hh
  exact none_ok h.get K

theorem tear_t {kd : Nat} {vb dv hf vt : V} {sy c : Nat} {bs : List UInt8} {r : List HP} {s : AS} (h : Hs G (Ob kd (.cells [vb, .int .i64 sy, dv, hf, vt] 0) :: BytesH vb bs :: r) s) (hsy : sy ≤ bs.length) (hbs : bs.length ≤ 1048576) :
    Ens (fn62 (.ptr (some ⟨.new kd, 0⟩)) (.int .i64 c)) s fun v s' => v = .tuple [] ∧ ∃ vb', Hs G (Ob kd (.cells [vb', .int .i64 ((sy + min c (bs.length - sy) : Nat) : Int), .bool true, hf, vt] 0) :: BytesH vb' (bs.take (sy + min c (bs.length - sy))) :: r) s' := by
  intro K hK
  obtain ⟨a, cb, exb, rfl⟩ := slH_slice (h.pull 1)
  unfold fn62 fn62_q
  have w1 : IntKind.i64.wrap ((bs.length : Int) - (sy : Int)) = ((bs.length - sy : Nat) : Int) := by rw [wrap64 (by omega) (by omega)]; omega
  have e1 : foldV min2V (.int .i64 (c : Int)) [.int .i64 ((bs.length - sy : Nat) : Int)] = some (.int .i64 ((min c (bs.length - sy) : Nat) : Int)) := by
    simp only [foldV, min2V]
    congr 2
    split <;> omega
  have w2 : IntKind.i64.wrap ((sy : Int) + ((min c (bs.length - sy) : Nat) : Int)) = ((sy + min c (bs.length - sy) : Nat) : Int) := by rw [wrap64 (by omega) (by omega)]; omega
  simp only [nilV_ptr, fp_ptr, optK_some, ld_t h, Nat.zero_add, List.getElem?_cons_zero, List.getElem?_cons_succ, lenV_slice, bin_sub, w1, e1, bin_add, w2]
  refine st_t h (by simp) rfl fun s1 h1 => ?_
  simp only [List.set_cons_zero, List.set_cons_succ] at h1
  obtain ⟨v', e2, h2⟩ := cut_t (h1.pull 1) (n := sy + min c (bs.length - sy)) (by omega)
  simp only [ld_t h1, List.getElem?_cons_zero, List.getElem?_cons_succ, optK_some, e2]
  obtain ⟨a', cb', exb', rfl⟩ := slH_slice h2
  refine st_t (h2.pull 1) (by simp) rfl fun s2 h3 => ?_
  simp only [List.set_cons_zero, List.set_cons_succ] at h3
  refine st_t h3 (by simp) rfl fun s3 h4 => ?_
  simp only [List.set_cons_zero, List.set_cons_succ] at h4
  exact hK _ _ ⟨rfl, _, h4⟩

/-- Whether a sync holds. -/
theorem hold_t {E : Env} (hE0 : E.C 38 = F1 fn38) (hE1 : E.C 61 = F2 fn61) {kd : Nat} {vb hf vt : V} {sy : Nat} {dead : Bool} {bs : List UInt8} {hold : Hold} {r : List HP} {s : AS}
    (h : Hs G (Ob kd (.cells [vb, .int .i64 sy, .bool dead, hf, vt] 0) :: BytesH vb bs :: HoldH hf hold :: r) s) (hsy : sy ≤ bs.length) (hbs : bs.length ≤ 1048576) :
    Ens (callV E hf [.ptr (some ⟨.new kd, 0⟩)]) s fun v s' => (hold = .always ∧ v = .bool true ∧ s' = s) ∨ ∃ c vb', hold = .arm c ∧ v = .bool false ∧
      Hs G (Ob kd (.cells [vb', .int .i64 ((sy + min c (bs.length - sy) : Nat) : Int), .bool true, hf, vt] 0) :: BytesH vb' (bs.take (sy + min c (bs.length - sy))) :: HoldH hf hold :: r) s' := by
  intro K hK
  cases hold with
  | always =>
    have := (Hs.pure_iff.1 (h.pull 2)).1
    subst this
    simp only [callV, List.nil_append, List.append_nil, hE0]
    exact hK _ _ (.inl ⟨rfl, rfl, rfl⟩)
  | arm c =>
    obtain ⟨k, rfl, h2⟩ := HoldH.arm_iff.1 (h.pull 2)
    simp only [callV, List.nil_append, hE1, List.cons_append]
    show fn61 _ _ s K
    unfold fn61 fn61_q
    simp only [ld_t h2, List.getElem?_cons_zero, optK_some]
    refine tear_t (h2.ord [1, 2, 0]) hsy hbs _ ?_
    rintro _ s' ⟨rfl, vb', h3⟩
    refine hK _ _ (.inr ⟨c, vb', rfl, rfl, ?_⟩)
    have h4 := HoldH.arm_iff.2 ⟨k, rfl, h3.ord [2, 0, 1]⟩
    exact h4.ord [1, 2, 0]

def DS.sync (d : DS) : DS := if d.dead then d else match d.hold with | .always => ⟨d.bs, d.bs.length, false, .always⟩ | .arm c => d.tear c
def DS.syncE (d : DS) : Int := if d.dead then 130 else match d.hold with | .always => 0 | .arm _ => 130

theorem DS.ok.tear {d : DS} {n nt : Nat} (h : d.ok n nt) (c : Nat) : (d.tear c).ok n nt := by
  have := h.sy; have := h.bs
  exact ⟨h.n, h.nt, by simp [DS.tear]; omega, by simp [DS.tear]; omega⟩

theorem Sync_t {kd : Nat} {d : DS} {nt : Nat} {r : List HP} {s : AS} (h : Hs G (DiskH kd d nt :: r) s) :
    Ens (fn24 (.ptr (some ⟨.new kd, 0⟩))) s fun v s' => v = .int .i64 d.syncE ∧ Hs G (DiskH kd d.sync nt :: r) s' := by
  intro K hK
  obtain ⟨vb, hf, vt, n, xt, hok, h1⟩ := DiskH.iff.1 h
  have hfn := HoldH.fn (h1.pull 2)
  obtain ⟨a, cb, exb, rfl⟩ := slH_slice (h1.pull 1)
  obtain ⟨bs, sy, dead, hold⟩ := d
  have hbs := hok.bs; have hsy := hok.sy
  simp only at h1 hbs hsy
  unfold fn24 fn24_q
  rw [dlive_t h1 hfn]
  cases dead with
  | true =>
    simp only [bin_neq, optK_some, if_true]
    exact hK _ _ ⟨rfl, h⟩
  | false =>
    simp only [bin_neq, optK_some, Bool.false_eq_true, if_false, bne_self_eq_false, condV_false, nilV_ptr, fp_ptr, Nat.zero_add, ld_t h1, List.getElem?_cons_zero, List.getElem?_cons_succ]
    refine hold_t rfl rfl h1 hsy hbs _ ?_
    rintro _ s1 (⟨rfl, rfl, rfl⟩ | ⟨c, vb', rfl, rfl, h2⟩)
    · simp only [un_not, Bool.not_true, optK_some, condV_false, ld_t h1, List.getElem?_cons_zero, lenV_slice]
      refine st_t h1 (by simp) rfl fun s2 h2 => ?_
      exact hK _ _ ⟨rfl, DiskH.mk (d := ⟨bs, bs.length, false, .always⟩) h2 ⟨hok.n, hok.nt, Nat.le_refl _, hbs⟩⟩
    · simp only [un_not, Bool.not_false, optK_some, condV_true]
      exact hK _ _ ⟨rfl, DiskH.mk (d := DS.tear ⟨bs, sy, false, .arm c⟩ c) h2 (hok.tear c)⟩

def DS.write (d : DS) (ys : List UInt8) : DS := if d.dead then d else if d.bs.length + ys.length > 1048576 then d else ⟨d.bs ++ ys, d.sy, false, d.hold⟩
def DS.writeE (d : DS) (ys : List UInt8) : Int := if d.dead then 130 else if d.bs.length + ys.length > 1048576 then 5 else 0

theorem copied_t {v : V} {ys : List UInt8} {r : List HP} {s : AS} (hr : Reads G r v ys) (h : Hs G r s) (hn : ys.length ≤ 1099511627776) : Ens (fn53 v) s fun u s' => (∃ n c ex, u = .slice n ys.length c ex) ∧ Hs G (BytesH u ys :: r) s' := by
  intro K hK
  obtain ⟨u, s', run, ho, hk, hn'⟩ := copied_ok (hr s h).1.toRd (fun o => (hr _ (h.alloc o).tail).1.toRd) (by omega)
  rw [run]
  refine hK _ _ ⟨ho.slice, hk.old.trans h.old, fun j => j = s.next, fun j => j < s.next, fun j e => by show j < s'.next; omega, fun j hj => by have := hk.next; show j < s'.next; omega, fun j e hj => by omega, ⟨some s.next, ho, fun j e => by cases e; rfl⟩, sepL_loc h.sep hk.old fun j hj => hk.get j hj (by simp)⟩

theorem Write_t {kd : Nat} {d : DS} {nt : Nat} {v : V} {ys : List UInt8} {r : List HP} {s : AS} (h : Hs G (DiskH kd d nt :: r) s) (hr : Reads G r v ys) (hnt : nt < 1099511627776) (hyl : ys.length ≤ 1099511627776) :
    Ens (fn22 (.ptr (some ⟨.new kd, 0⟩)) v) s fun u s' => u = .int .i64 (d.writeE ys) ∧ Hs G (DiskH kd (d.write ys) (nt + 1) :: r) s' := by
  intro K hK
  obtain ⟨vb, hf, vt, n, xt, hok, h1⟩ := DiskH.iff.1 h
  have hfn := HoldH.fn (h1.pull 2)
  obtain ⟨a, cb, exb, rfl⟩ := slH_slice (h1.pull 1)
  obtain ⟨at', ct, ext, rfl⟩ := slH_slice (h1.pull 3)
  have hrd := (hr s h.tail).1
  obtain ⟨av, cv, exv, rfl⟩ := hrd.sl
  obtain ⟨bs, sy, dead, hold⟩ := d
  have hbs := hok.bs; have hsy := hok.sy; have hn := hok.n
  simp only at h1 hbs hsy
  have hok' : ∀ (x : DS) , DS.ok x n nt → DS.ok x n (nt + 1) := fun x h => ⟨by have := h.n; omega, by omega, h.sy, h.bs⟩
  unfold fn22 fn22_q
  rw [dlive_t h1 hfn]
  cases dead with
  | true =>
    simp only [bin_neq, optK_some, if_true]
    exact hK _ _ ⟨rfl, DiskH.mk (d := ⟨bs, sy, true, hold⟩) h1 (hok' _ hok)⟩
  | false =>
    have hw : IntKind.i64.wrap ((bs.length : Int) + (ys.length : Int)) = (bs.length : Int) + (ys.length : Int) := wrap64 (by omega) (by omega)
    simp only [bin_neq, optK_some, Bool.false_eq_true, if_false, bne_self_eq_false, condV_false, nilV_ptr, fp_ptr, Nat.zero_add, ld_t h1, List.getElem?_cons_zero, List.getElem?_cons_succ, lenV_slice, bin_add, hw, bin_gtr]
    by_cases hbig : bs.length + ys.length > 1048576
    · have hd : decide ((bs.length : Int) + (ys.length : Int) > 1048576) = true := by simp; omega
      simp only [hd, condV_true]
      refine hK _ _ ⟨by simp [DS.writeE, hbig], ?_⟩
      have e : DS.write ⟨bs, sy, false, hold⟩ ys = ⟨bs, sy, false, hold⟩ := by simp [DS.write, hbig]
      rw [e]; exact DiskH.mk h1 (hok' _ hok)
    · have hd : decide ((bs.length : Int) + (ys.length : Int) > 1048576) = false := by simp; omega
      simp only [hd, condV_false]
      refine app_t (by omega) (h1.pull 1) hrd.len hrd.src (by simp) (byteV_flat ys) (by omega) (by omega) fun v1 s1 h2 => ?_
      rw [← List.map_append, ← List.length_append] at h2
      obtain ⟨a1, c1, ex1, rfl⟩ := slH_slice h2
      refine st_t (h2.pull 1) (by simp) rfl fun s2 h3 => ?_
      simp only [List.set_cons_zero] at h3
      simp only [ld_t h3, List.getElem?_cons_zero, List.getElem?_cons_succ, optK_some]
      have hr4 := hr.cons (A := SlH 1 (.slice at' n ct ext) n xt) |>.cons (A := HoldH hf hold) |>.cons (A := BytesH (.slice a1 (bs ++ ys).length c1 ex1) (bs ++ ys)) |>.cons (A := Ob kd (.cells [.slice a1 (bs ++ ys).length c1 ex1, .int .i64 sy, .bool false, hf, .slice at' n ct ext] 0))
      refine copied_t hr4 h3 hyl _ ?_
      rintro _ s3 ⟨⟨a3, c3, ex3, rfl⟩, h4⟩
      rw [holds_t rfl (h4.pull 1) rfl (sameV_slice _ _ _ _), chkB_true]
      refine bsl1_t rfl rfl h4 fun x s4 hx hxl h5 => ?_
      rw [holds_t rfl (h5.pull 2) rfl (sameV_slice _ _ _ _), chkB_true]
      refine push_t (h5.ord [5, 0]) hx hxl rfl (by omega) (by omega) fun v5 s5 h6 => ?_
      obtain ⟨a5, c5, ex5, rfl⟩ := slH_slice h6
      refine st_t (h6.pull 2) (by simp) rfl fun s6 h7 => ?_
      simp only [List.set_cons_zero, List.set_cons_succ] at h7
      refine hK _ _ ⟨by simp [DS.writeE, hbig], ?_⟩
      have e : DS.write ⟨bs, sy, false, hold⟩ ys = ⟨bs ++ ys, sy, false, hold⟩ := by simp [DS.write, hbig]
      rw [e]
      exact DiskH.mk ((h7.ord [0, 3, 4, 1]).drop 4) ⟨by omega, by omega, by simp; omega, by simp; omega⟩
end Go.Proofs.Vt
end
section
/- The disk, further. -/
namespace Go.Proofs.Vt
open Go Go.Rx Go.Proofs
variable {G : Nat → Option (List V)}

theorem dNew_t {r : List HP} {s : AS} (h : Hs G r s) : Ens fn9 s fun v s' => ∃ kd, v = .ptr (some ⟨.new kd, 0⟩) ∧ Hs G (DiskH kd ⟨[], 0, false, .always⟩ 0 :: r) s' := by
  intro K hK
  rw [New_ok]
  refine hK _ _ ⟨_, rfl, ?_⟩
  have h1 := h.alloc (.cells [.slice none 0 0 true, .int .i64 0, .bool false, .func (.func N_fn38) [] [], .slice none 0 0 true] 0)
  have h2 : Hs G (HoldH alwaysV .always :: _) _ := Hs.pure_iff.2 ⟨rfl, (h1.slNil 1 true)⟩
  exact DiskH.mk (d := ⟨[], 0, false, .always⟩) ((h2.slNil 1 true).ord [3, 0, 1, 2]) ⟨Nat.le_refl _, by omega, by simp, by simp⟩

/-- Cut. -/
def DS.cutN (d : DS) (n : Nat) : DS := ⟨d.bs.take n, n, false, d.hold⟩
theorem Cut_t {kd : Nat} {d : DS} {nt : Nat} {r : List HP} {s : AS} (h : Hs G (DiskH kd d nt :: r) s) (hd : d.dead = false) {n : Nat} (hn : n ≤ d.bs.length) :
    Ens (fn65 (.ptr (some ⟨.new kd, 0⟩)) (.int .i64 n)) s fun v s' => v = .int .i64 0 ∧ Hs G (DiskH kd (d.cutN n) nt :: r) s' := by
  intro K hK
  obtain ⟨vb, hf, vt, n', xt, hok, h1⟩ := DiskH.iff.1 h
  have hfn := HoldH.fn (h1.pull 2)
  obtain ⟨a, cb, exb, rfl⟩ := slH_slice (h1.pull 1)
  obtain ⟨bs, sy, dead, hold⟩ := d
  have hbs := hok.bs; have hsy := hok.sy
  simp only at h1 hbs hsy hd hn
  subst hd
  unfold fn65 fn65_q
  rw [dlive_t h1 hfn]
  have d1 : decide ((n : Int) < 0) = false := by simp
  have d2 : decide ((n : Int) > (bs.length : Int)) = false := by simp; omega
  obtain ⟨v', e2, h2⟩ := cut_t (h1.pull 1) hn
  obtain ⟨a', cb', exb', rfl⟩ := slH_slice h2
  simp only [bin_neq, optK_some, Bool.false_eq_true, if_false, bne_self_eq_false, condV_false, bin_lss, d1, grd_false, nilV_ptr, fp_ptr, Nat.zero_add, ld_t h1, List.getElem?_cons_zero, lenV_slice, bin_gtr, d2, e2]
  refine st_t (h2.pull 1) (by simp) rfl fun s3 h3 => ?_
  simp only [List.set_cons_zero] at h3
  refine st_t h3 (by simp) rfl fun s4 h4 => ?_
  simp only [List.set_cons_zero, List.set_cons_succ] at h4
  exact hK _ _ ⟨rfl, DiskH.mk (d := DS.cutN ⟨bs, sy, false, hold⟩ n) h4 ⟨hok.n, hok.nt, by simp [DS.cutN]; omega, by simp [DS.cutN]; omega⟩⟩

/-- Cut, of what is not there, on a disk that lives. -/
theorem CutNeg_t {kd : Nat} {d : DS} {nt : Nat} {r : List HP} {s : AS} (h : Hs G (DiskH kd d nt :: r) s) (K : K0) :
    fn65 (.ptr (some ⟨.new kd, 0⟩)) (.int .i64 (-1)) s K = K (.int .i64 (if d.dead then 130 else 9)) s := by
  obtain ⟨vb, hf, vt, n', xt, hok, h1⟩ := DiskH.iff.1 h
  have hfn := HoldH.fn (h1.pull 2)
  unfold fn65 fn65_q
  rw [dlive_t h1 hfn]
  cases d.dead with
  | true => simp only [bin_neq, optK_some, if_true]; rfl
  | false =>
    have d1 : decide ((-1 : Int) < 0) = true := by decide
    simp only [bin_neq, optK_some, Bool.false_eq_true, if_false, bne_self_eq_false, condV_false, bin_lss, d1, grd_true]

def DS.swap (d : DS) (ys : List UInt8) : DS := if d.dead then d else if ys.length > 1048576 then d else match d.hold with | .always => ⟨ys, ys.length, false, .always⟩ | .arm c => d.tear c
def DS.swapE (d : DS) (ys : List UInt8) : Int := if d.dead then 130 else if ys.length > 1048576 then 5 else match d.hold with | .always => 0 | .arm _ => 130

theorem Swap_t {kd : Nat} {d : DS} {nt : Nat} {v : V} {ys : List UInt8} {r : List HP} {s : AS} (h : Hs G (DiskH kd d nt :: r) s) (hr : Reads G r v ys) (hnt : nt < 1099511627776) (hyl : ys.length ≤ 1099511627776) :
    Ens (fn98 (.ptr (some ⟨.new kd, 0⟩)) v) s fun u s' => u = .int .i64 (d.swapE ys) ∧ Hs G (DiskH kd (d.swap ys) (nt + 1) :: r) s' := by
  intro K hK
  obtain ⟨vb, hf, vt, n, xt, hok, h1⟩ := DiskH.iff.1 h
  have hfn := HoldH.fn (h1.pull 2)
  obtain ⟨a, cb, exb, rfl⟩ := slH_slice (h1.pull 1)
  obtain ⟨at', ct, ext, rfl⟩ := slH_slice (h1.pull 3)
  have hrd := (hr s h.tail).1
  obtain ⟨av, cv, exv, rfl⟩ := hrd.sl
  obtain ⟨bs, sy, dead, hold⟩ := d
  have hbs := hok.bs; have hsy := hok.sy; have hn := hok.n
  simp only at h1 hbs hsy
  have hok' : ∀ (x : DS) , DS.ok x n nt → DS.ok x n (nt + 1) := fun x h => ⟨by have := h.n; omega, by omega, h.sy, h.bs⟩
  unfold fn98 fn98_q
  rw [dlive_t h1 hfn]
  cases dead with
  | true =>
    simp only [bin_neq, optK_some, if_true]
    exact hK _ _ ⟨rfl, DiskH.mk (d := ⟨bs, sy, true, hold⟩) h1 (hok' _ hok)⟩
  | false =>
    simp only [bin_neq, optK_some, Bool.false_eq_true, if_false, bne_self_eq_false, condV_false, nilV_ptr, fp_ptr, Nat.zero_add, ld_t h1, List.getElem?_cons_zero, List.getElem?_cons_succ, lenV_slice, bin_gtr]
    by_cases hbig : ys.length > 1048576
    · have hd : decide ((ys.length : Int) > 1048576) = true := by simp; omega
      simp only [hd, condV_true]
      refine hK _ _ ⟨by simp [DS.swapE, hbig], ?_⟩
      have e : DS.swap ⟨bs, sy, false, hold⟩ ys = ⟨bs, sy, false, hold⟩ := by simp [DS.swap, hbig]
      rw [e]; exact DiskH.mk h1 (hok' _ hok)
    · have hd : decide ((ys.length : Int) > 1048576) = false := by simp; omega
      simp only [hd, condV_false]
      refine hold_t rfl rfl h1 hsy hbs _ ?_
      rintro _ s1 (⟨rfl, rfl, rfl⟩ | ⟨c, vb', rfl, rfl, h2⟩)
      · simp only [un_not, Bool.not_true, optK_some, condV_false]
        have hr4 := hr.cons (A := SlH 1 (.slice at' n ct ext) n xt) |>.cons (A := HoldH hf .always) |>.cons (A := BytesH (.slice a bs.length cb exb) bs) |>.cons (A := Ob kd (.cells [.slice a bs.length cb exb, .int .i64 sy, .bool false, hf, .slice at' n ct ext] 0))
        refine copied_t hr4 h1 hyl _ ?_
        rintro _ s3 ⟨⟨a3, c3, ex3, rfl⟩, h4⟩
        refine st_t (h4.pull 1) (by simp) rfl fun s2 h3 => ?_
        simp only [List.set_cons_zero] at h3
        refine st_t h3 (by simp) rfl fun s4 h5 => ?_
        simp only [List.set_cons_zero, List.set_cons_succ] at h5
        simp only [ld_t h5, List.getElem?_cons_zero, List.getElem?_cons_succ, optK_some]
        have hr6 := hr.cons (A := SlH 1 (.slice at' n ct ext) n xt) |>.cons (A := HoldH hf .always) |>.cons (A := BytesH (.slice a3 ys.length c3 ex3) ys) |>.cons (A := Ob kd (.cells [.slice a3 ys.length c3 ex3, .int .i64 ys.length, .bool false, hf, .slice at' n ct ext] 0))
        refine copied_t hr6 ((h5.drop 2)) hyl _ ?_
        rintro _ s6 ⟨⟨a6, c6, ex6, rfl⟩, h6⟩
        rw [holds_t rfl (h6.pull 1) rfl (sameV_slice _ _ _ _), chkB_true]
        refine bsl1_t rfl rfl h6 fun x s7 hx hxl h7 => ?_
        rw [holds_t rfl (h7.pull 2) rfl (sameV_slice _ _ _ _), chkB_true]
        refine push_t (h7.ord [5, 0]) hx hxl rfl (by omega) (by omega) fun v8 s8 h8 => ?_
        obtain ⟨a8, c8, ex8, rfl⟩ := slH_slice h8
        refine st_t (h8.pull 2) (by simp) rfl fun s9 h9 => ?_
        simp only [List.set_cons_zero, List.set_cons_succ] at h9
        refine hK _ _ ⟨by simp [DS.swapE, hbig], ?_⟩
        have e : DS.swap ⟨bs, sy, false, .always⟩ ys = ⟨ys, ys.length, false, .always⟩ := by simp [DS.swap, hbig]
        rw [e]
        exact DiskH.mk ((h9.ord [0, 3, 4, 1]).drop 4) ⟨by omega, by omega, by simp, by simp; omega⟩
      · simp only [un_not, Bool.not_false, optK_some, condV_true]
        refine hK _ _ ⟨by simp [DS.swapE, hbig], ?_⟩
        have e : DS.swap ⟨bs, sy, false, .arm c⟩ ys = DS.tear ⟨bs, sy, false, .arm c⟩ c := by simp [DS.swap, hbig]
        rw [e]
        exact DiskH.mk (d := DS.tear ⟨bs, sy, false, .arm c⟩ c) h2 ((hok' _ hok).tear c)

theorem dRead_t {kd : Nat} {d : DS} {nt : Nat} {r : List HP} {s : AS} (h : Hs G (DiskH kd d nt :: r) s) :
    Ens (fn60 (.ptr (some ⟨.new kd, 0⟩))) s fun u s' => (∃ n c ex, u = .slice n d.bs.length c ex) ∧ Hs G (BytesH u d.bs :: DiskH kd d nt :: r) s' := by
  intro K hK
  obtain ⟨vb, hf, vt, n, xt, hok, h1⟩ := DiskH.iff.1 h
  have hfn := HoldH.fn (h1.pull 2)
  have hbs := hok.bs
  unfold fn60 fn60_q
  rw [dnone_t h1 hfn]
  simp only [condV_false, nilV_ptr, fp_ptr, Nat.zero_add, ld_t h1, List.getElem?_cons_zero, optK_some]
  refine copied_t reads_bytes (h1.ord [1, 0]) (by omega) _ ?_
  rintro u s' ⟨hu, h2⟩
  exact hK _ _ ⟨hu, (DiskH.mk (h2.ord [2, 1, 3, 4, 0]) hok).swap⟩

end Go.Proofs.Vt
end
section
/- Writers. -/
namespace Go.Proofs.Vt
open Go Go.Rx Go.Proofs

/-- cmp.Or of two numbers. -/
theorem Or_ok {s : AS} {k u : Nat} {a b : Int} (h : s.get k = some (.cells [.int .i64 a, .int .i64 b] u)) (K : K0) (hk : K (.int .i64 (if a = 0 then b else a)) s) :
    fn140 (.slice (some ⟨.new k, 0⟩) 2 2 true) s K := by
  unfold fn140 fn140_q
  simp only [lenV_slice, optK_some]
  refine loop_rule (fun m tm s' => s' = s ∧ tm.getD 3 .junk = .int .i64 0 ∧ tm.getD 6 .junk = .slice (some ⟨.new k, 0⟩) 2 2 true ∧ tm.getD 7 .junk = .int .i64 2 ∧
    ∃ i : Nat, tm.getD 8 .junk = .int .i64 i ∧ i + m = 2 ∧ (1 ≤ i → a = 0) ∧ (2 ≤ i → b = 0)) ?_ (m := 2) (by omega) ⟨rfl, rfl, rfl, rfl, 0, rfl, rfl, by omega, by omega⟩
  rintro m tm s' Kn ⟨rfl, h3, h6, h7, i, h8, him, ha, hb⟩ hn
  simp only [h3, h6, h7, h8]
  unfold fn140_L1
  have h2 : i = 0 ∨ i = 1 ∨ i = 2 := by omega
  rcases h2 with rfl | rfl | rfl
  · have e0 : elemPtr none 1 (.slice (some ⟨.new k, 0⟩) 2 2 true) (.int .i64 (0 : Nat)) = some (.ptr (some ⟨.new k, 0⟩)) := elem_ok (by omega) (.inl rfl)
    simp only [bin_lss, optK_some, e0, ld1_new h, List.getElem?_cons_zero, bin_neq, bin_add]
    by_cases h0 : a = 0
    · subst h0
      refine hn 1 _ _ (by omega) ⟨rfl, rfl, rfl, rfl, 1, rfl, by omega, fun _ => rfl, by omega⟩
    · have : (a != 0) = true := by simpa using h0
      simp only [this]
      simpa [h0] using hk
  · have := ha (by omega); subst this
    have e1 : elemPtr none 1 (.slice (some ⟨.new k, 0⟩) 2 2 true) (.int .i64 (1 : Nat)) = some (.ptr (some ⟨.new k, 1⟩)) := elem_ok (by omega) (.inl rfl)
    simp only [bin_lss, optK_some, e1, ld1_new h, List.getElem?_cons_zero, List.getElem?_cons_succ, bin_neq, bin_add]
    by_cases h0 : b = 0
    · subst h0
      refine hn 0 _ _ (by omega) ⟨rfl, rfl, rfl, rfl, 2, rfl, by omega, fun _ => rfl, fun _ => rfl⟩
    · have : (b != 0) = true := by simpa using h0
      simp only [this]
      simpa using hk
  · have := ha (by omega); have := hb (by omega); subst a; subst b
    simp
    exact hk

/-- A writer that has written these bytes, and nothing is wrong. -/
structure WrAt (s : AS) (kw : Nat) (bs : List UInt8) (b : Option Nat) : Prop where
  ex : ∃ vb, s.get kw = some (.cells [vb, .int .i64 0] 0) ∧ OwnR 1 s vb bs.length (bs.map byteV) b
  lt : kw < s.next ∧ ∀ j, b = some j → j < s.next ∧ j ≠ kw

theorem WrAt.kept {s s' : AS} {kw : Nat} {bs : List UInt8} {b : Option Nat} {m : List Nat} (h : WrAt s kw bs b) (hk : Kept m s s') (h1 : kw ∉ m) (h2 : ∀ j, b = some j → j ∉ m) : WrAt s' kw bs b := by
  obtain ⟨vb, hg, ho⟩ := h.ex
  have hn := hk.next
  exact ⟨⟨vb, hk.cells hg h.lt.1 h1, ho.kept fun j e => hk.get j (h.lt.2 j e).1 (h2 j e)⟩, by have := h.lt.1; omega, fun j e => ⟨by have := (h.lt.2 j e).1; omega, (h.lt.2 j e).2⟩⟩

theorem bsl2_ok {v u : V} (hv : flatV v = true) (hu : flatV u = true) (s : AS) (z : V) (hz : flatV z = true) (K : K0) : bsl 1 [z] 2 [(0, v), (1, u)] s K = K (.slice (some ⟨.new s.next, 0⟩) 2 2 true) (s.alloc (.cells [v, u] 0)) := by
  have h2 : fillV (fun j => some (j * 1, 1)) (zeros [z] 2) [(0, v), (1, u)] = some [v, u] := by
    cases v <;> first | (simp [flatV] at hv; done) | (cases u <;> first | (simp [flatV] at hu; done) | simp [fillV, zeros, cellsV, spl])
  unfold bsl
  rw [h2]
  simp [hv, hu, newS]

theorem put_ok {s : AS} {kw : Nat} {bs : List UInt8} {b : Option Nat} (h : WrAt s kw bs b) {v : V} {ys : List UInt8} (hr : Rd s v ys) (hlen : bs.length + ys.length ≤ 140737488355328)
    (hsep : ∀ k o l c ex, v = .slice (some ⟨.new k, o⟩) l c ex → k ≠ kw ∧ k < s.next) :
    ∃ s' b', Runs (fn122 (.ptr (some ⟨.new kw, 0⟩)) (.int .i64 0) v) s (.ptr (some ⟨.new kw, 0⟩)) s' ∧ WrAt s' kw (bs ++ ys) b' ∧ Kept (kw :: b.toList) s s' ∧
      (b' = b ∨ ∃ k', b' = some k' ∧ s.next ≤ k' ∧ k' < s'.next) := by
  obtain ⟨vb, hg, ho⟩ := h.ex
  have hkw := h.lt.1
  obtain ⟨s1, hs1⟩ : ∃ s1, s1 = s.alloc (.cells [.int .i64 0, .int .i64 0] 0) := ⟨_, rfl⟩
  have k1 : Kept [] s s1 := by rw [hs1]; exact Kept.alloc _
  have g1 : s1.get kw = some (.cells [vb, .int .i64 0] 0) := k1.cells hg hkw (by simp)
  have o1 : s1.get s.next = some (.cells [.int .i64 0, .int .i64 0] 0) := by rw [hs1]; simp
  obtain ⟨s2, hs2⟩ : ∃ s2, s2 = s1.put kw (some (.cells [vb, .int .i64 0] 0)) := ⟨_, rfl⟩
  have k2 : Kept [kw] s1 s2 := by rw [hs2]; exact Kept.put _
  have g2 : s2.get kw = some (.cells [vb, .int .i64 0] 0) := by rw [hs2]; simp
  have same : ∀ j, j < s.next → s2.get j = s.get j := fun j hj => by
    by_cases e : j = kw
    · subst e; rw [g2, hg]
    · rw [k2.get j (by have := k1.next; omega) (by simpa using e), k1.get j hj (by simp)]
  have ho2 : OwnR 1 s2 vb bs.length (bs.map byteV) b := ho.kept fun j e => same j (h.lt.2 j e).1
  have hr2 : Rd s2 v ys := hr.kept (fun j o l cx exx e => same j (hsep j o l cx exx e).2) (k2.old.trans k1.old)
  obtain ⟨a, c, ex, rfl⟩ := hr.sl
  obtain ⟨v3, s3, b3, r3, o3, k3, hb3⟩ := app_own (sz := 1) (bytes := 1) (by omega) ho2 hr2.len hr2.src (by simp) (byteV_flat ys) (by omega) (by omega)
  have n1 := k1.next
  have n2 := k2.next
  have n3 := k3.next
  have g3 : s3.get kw = some (.cells [vb, .int .i64 0] 0) := k3.cells g2 (by omega) (by
    intro hm; simp at hm; exact (h.lt.2 _ hm).2 rfl)
  obtain ⟨a3, c3, ex3, rfl⟩ := o3.slice
  obtain ⟨s4, hs4⟩ : ∃ s4, s4 = s3.put kw (some (.cells [V.slice a3 (bs.length + ys.length) c3 ex3, .int .i64 0] 0)) := ⟨_, rfl⟩
  have k4 : Kept [kw] s3 s4 := by rw [hs4]; exact Kept.put _
  have hb3' : ∀ j, b3 = some j → j < s3.next ∧ j ≠ kw := fun j e => by
    rcases hb3 with e1 | ⟨k', e1, h1, h2⟩
    · have := h.lt.2 j (e1.symm.trans e); exact ⟨by omega, this.2⟩
    · rw [e1] at e; cases e; exact ⟨h2, by omega⟩
  refine ⟨s4, b3, fun K hK => ?_, ⟨⟨_, by rw [hs4]; simp; rfl, ?_⟩, by have := k4.next; omega, fun j e => ⟨by have := hb3' j e; have := k4.next; omega, (hb3' j e).2⟩⟩, ?_, ?_⟩
  · unfold fn122 fn122_q
    simp only [bin_ptr_nil, Option.isNone_some, optK_some, condV_false, nilV_ptr, fp_ptr, ld1_new hg, Nat.zero_add, List.getElem?_cons_zero, List.getElem?_cons_succ]
    rw [bsl2_ok rfl rfl _ _ rfl, ← hs1]
    refine Or_ok o1 _ ?_
    simp only [if_true]
    rw [st1_new g1 (by simp) (by rfl)]
    simp only [List.set_cons_zero, List.set_cons_succ, ← hs2]
    simp only [ld1_new g2, List.getElem?_cons_zero, List.getElem?_cons_succ, optK_some, bin_eql, beq_self_eq_true, condV_true]
    rw [r3, st1_new g3 (by simp) (by rfl)]
    simp only [List.set_cons_zero, ← hs4]
    exact hK
  · have := o3.kept (s' := s4) fun j e => k4.get j (hb3' j e).1 (by simpa using (hb3' j e).2)
    simpa using this
  · refine ⟨by have := k4.next; omega, by rw [k4.old, k3.old, k2.old, k1.old], fun j hj hm => ?_⟩
    simp at hm
    rw [k4.get j (by omega) (by simpa using hm.1), k3.get j (by omega) (by simpa using hm.2), same j hj]
  · rcases hb3 with e1 | ⟨k', e1, h1, h2⟩
    · exact .inl e1
    · exact .inr ⟨k', e1, by omega, by have := k4.next; omega⟩
end Go.Proofs.Vt
end
section
/- Writers: numbers. -/
namespace Go.Proofs.Vt
open Go Go.Rx Go.Proofs

/-- A number's last byte. -/
def u8v (z : Int) : UInt8 := UInt8.ofNat (z % 256).toNat
theorem u8v_byte (z : Int) : V.int .u8 (IntKind.u8.wrap z) = byteV (u8v z) := by
  have e : IntKind.u8.wrap z = z % 256 := by simp [IntKind.wrap, IntKind.signed, IntKind.bits]
  have h1 : 0 ≤ z % 256 := by omega
  have h2 : z % 256 < 256 := by omega
  rw [e]
  unfold byteV u8v
  congr 1
  have : (UInt8.ofNat (z % 256).toNat).toNat = (z % 256).toNat := by simp; omega
  rw [this]
  omega

/-- A number of a width. -/
def numB (w : Nat) (n : Nat) : List UInt8 := (List.range w).map fun i => u8v ((n : Int).fdiv (2 ^ (8 * (w - 1 - i))))
@[simp] theorem numB_length (w n : Nat) : (numB w n).length = w := by simp [numB]

theorem wide_ok (w : Nat) (hw : w = 1 ∨ w = 2 ∨ w = 4 ∨ w = 8) (s : AS) (K : K0) : fn109 (.int .i64 w) s K = K (.bool true) s := by
  unfold fn109 fn109_q
  rcases hw with rfl | rfl | rfl | rfl <;> simp

/-- What a writer's call comes to. -/
def WrTo (s : AS) (kw : Nat) (b : Option Nat) (bs : List UInt8) : V → AS → Prop := fun v s' =>
  v = .ptr (some ⟨.new kw, 0⟩) ∧ ∃ b', WrAt s' kw bs b' ∧ Kept (kw :: b.toList) s s' ∧ (b' = b ∨ ∃ k', b' = some k' ∧ s.next ≤ k' ∧ k' < s'.next)

theorem put_ens {s : AS} {kw : Nat} {bs : List UInt8} {b : Option Nat} (h : WrAt s kw bs b) {v : V} {ys : List UInt8} (hr : Rd s v ys) (hlen : bs.length + ys.length ≤ 140737488355328)
    (hsep : ∀ k o l c ex, v = .slice (some ⟨.new k, o⟩) l c ex → k ≠ kw ∧ k < s.next) : Ens (fn122 (.ptr (some ⟨.new kw, 0⟩)) (.int .i64 0) v) s (WrTo s kw b (bs ++ ys)) := by
  obtain ⟨s', b', hr, hw, hk, hb⟩ := put_ok h hr hlen hsep
  exact hr.ens ⟨rfl, b', hw, hk, hb⟩

theorem WrTo.trans0 {s s1 : AS} {kw : Nat} {b : Option Nat} {bs : List UInt8} {v : V} {s' : AS} (hk : Kept [] s s1) (h : WrTo s1 kw b bs v s') : WrTo s kw b bs v s' := by
  obtain ⟨e, b', hw, hk', hb⟩ := h
  have := hk.next
  refine ⟨e, b', hw, hk.trans hk' (by simp) (fun j hj => .inl hj), hb.imp id ?_⟩
  rintro ⟨k', e, h1, h2⟩
  exact ⟨k', e, by omega, h2⟩

theorem OwnR.new_sep {s : AS} {v : V} {n : Nat} {xs : List V} {b : Option Nat} {lo hi kw : Nat} (h : OwnR 1 s v n xs b) (hb : ∀ j, b = some j → lo ≤ j ∧ j < hi) (hk : kw < lo) :
    ∀ k o l c ex, v = .slice (some ⟨.new k, o⟩) l c ex → k ≠ kw ∧ k < hi := by
  intro k o l c ex e
  have := h.at'
  cases b with
  | none => obtain ⟨_, ex', e2⟩ := this; rw [e2] at e; cases e
  | some k' =>
    obtain ⟨c', ex', cs, u, e2, _⟩ := this
    rw [e2] at e; cases e
    have := hb k rfl
    omega

theorem Num_ok {s : AS} {kw : Nat} {bs : List UInt8} {b : Option Nat} (h : WrAt s kw bs b) {w n : Nat} (hw : w = 1 ∨ w = 2 ∨ w = 4 ∨ w = 8) (hn : n ≤ 9007199254740991) (hnw : n / 2 ^ (8 * w) = 0) (hlen : bs.length + 8 ≤ 140737488355328) :
    Ens (fn91 (.ptr (some ⟨.new kw, 0⟩)) (.int .i64 w) (.int .i64 n)) s (WrTo s kw b (bs ++ numB w n)) := by
  intro K hK
  have hw8 : 1 ≤ w ∧ w ≤ 8 := by omega
  have hkw := h.lt.1
  unfold fn91 fn91_q
  have d1 : decide ((n : Int) < 0) = false := by simp
  have d2 : decide ((n : Int) > 9007199254740991) = false := by simp; omega
  have w8 : IntKind.i64.wrap (8 * (w : Int)) = 8 * (w : Int) := wrap64 (by omega) (by omega)
  have hsh : binV .shr (some (Kd.int .i64)) false (.int .i64 n) (.int .i64 (8 * (w : Int))) = some (.int .i64 0) := by
    have hb0 : ¬ (8 * (w : Int) < 0) := by omega
    have ht : min (8 * (w : Int)).toNat IntKind.i64.bits = 8 * w := by show min _ 64 = _; omega
    have h0 : (n : Int).fdiv (2 ^ (8 * w)) = 0 := by
      rw [Int.fdiv_eq_ediv_of_nonneg _ (Int.le_of_lt (Int.pow_pos (by omega)))]
      have : ((n / 2 ^ (8 * w) : Nat) : Int) = 0 := by rw [hnw]; rfl
      simpa using this
    simp only [binV, shrV, if_neg hb0, ht, h0]
  simp only [wide_ok w hw, un_not, Bool.not_true, optK_some, condV_false, bin_lss, d1, bin_gtr, d2, bin_mul, w8, hsh, bin_neq, bne_self_eq_false]
  refine loop_rule (fun m tm s1 => ∃ i v bb, i + m = w ∧ Kept [] s s1 ∧ OwnR 1 s1 v ((numB w n).take i).length (((numB w n).take i).map byteV) bb ∧ (∀ j, bb = some j → s.next ≤ j ∧ j < s1.next) ∧
      tm.getD 0 .junk = .ptr (some ⟨.new kw, 0⟩) ∧ tm.getD 1 .junk = .int .i64 w ∧ tm.getD 2 .junk = .int .i64 n ∧ tm.getD 7 .junk = v ∧ tm.getD 27 .junk = .int .i64 w ∧ tm.getD 28 .junk = .int .i64 (i : Nat)) ?_
    (m := w) (by omega) ⟨0, .slice none 0 0 true, none, by omega, Kept.refl _ _, by simpa using own_nil 1 s true, by simp, rfl, rfl, rfl, rfl, rfl, rfl⟩
  rintro m tm s1 Kn ⟨i, v, bb, him, hk, ho, hb, h0, h1, h2, h7, h27, h28⟩ hnext
  simp only [h0, h1, h2, h7, h27, h28]
  unfold fn91_L1
  have hk1 := hk.next
  by_cases hiw : i < w
  · have hx : (numB w n)[i]? = some (u8v ((n : Int).fdiv (2 ^ (8 * (w - 1 - i))))) := by simp [numB, hiw]
    obtain ⟨x, hxe⟩ : ∃ x, x = u8v ((n : Int).fdiv (2 ^ (8 * (w - 1 - i)))) := ⟨_, rfl⟩
    rw [← hxe] at hx
    have htk : (numB w n).take (i + 1) = (numB w n).take i ++ [x] := by
      rw [List.take_add_one, hx]; rfl
    obtain ⟨s2, hs2⟩ : ∃ s2, s2 = s1.alloc (.cells [byteV x] 0) := ⟨_, rfl⟩
    have k2 : Kept [] s1 s2 := by rw [hs2]; exact Kept.alloc _
    have ho2 : OwnR 1 s2 v ((numB w n).take i).length (((numB w n).take i).map byteV) bb := ho.kept fun j e => k2.get j (hb j e).2 (by simp)
    have src : srcN 1 1 (.slice (some ⟨.new s1.next, 0⟩) 1 1 true) s2 = some [byteV x] := by
      rw [hs2]; simp [srcN, ldN, cellsAt]
    have hl : ((numB w n).take i).length = i := by simp; omega
    obtain ⟨v3, s3, b3, r3, o3, k3, hb3⟩ := app_own (sz := 1) (bytes := 1) (by omega) ho2 (x := .slice (some ⟨.new s1.next, 0⟩) 1 1 true) (n := 1) rfl src (by simp) (by simp) (by rw [hl]; omega) (by omega)
    have n2 := k2.next
    have n3 := k3.next
    have hb3' : ∀ j, b3 = some j → s.next ≤ j ∧ j < s3.next := fun j e => by
      rcases hb3 with e1 | ⟨k', e1, h1, h2⟩
      · have := hb j (e1.symm.trans e); omega
      · rw [e1] at e; cases e; omega
    have hk3 : Kept [] s s3 := by
      refine ⟨by omega, by rw [k3.old, k2.old, hk.old], fun j hj _ => ?_⟩
      rw [k3.get j (by omega) (fun hm => by simp at hm; have := hb j hm; omega), k2.get j (by omega) (by simp), hk.get j hj (by simp)]
    have ho3 : OwnR 1 s3 v3 ((numB w n).take (i + 1)).length (((numB w n).take (i + 1)).map byteV) b3 := by
      rw [htk]; simpa using o3
    have d1 : decide ((i : Int) < (w : Int)) = true := by simp; omega
    have w1 : IntKind.i64.wrap ((w : Int) - 1) = (w : Int) - 1 := wrap64 (by omega) (by omega)
    have w2 : IntKind.i64.wrap ((w : Int) - 1 - (i : Int)) = (w : Int) - 1 - (i : Int) := wrap64 (by omega) (by omega)
    have w3 : IntKind.i64.wrap (8 * ((w : Int) - 1 - (i : Int))) = 8 * ((w : Int) - 1 - (i : Int)) := wrap64 (by omega) (by omega)
    have w4 : IntKind.i64.wrap ((i : Int) + 1) = ((i + 1 : Nat) : Int) := by rw [wrap64 (by omega) (by omega)]; omega
    have hsh : binV .shr (some (Kd.int .i64)) false (.int .i64 n) (.int .i64 (8 * ((w : Int) - 1 - (i : Int)))) = some (.int .i64 ((n : Int).fdiv (2 ^ (8 * (w - 1 - i))))) := by
      have hb0 : ¬ (8 * ((w : Int) - 1 - (i : Int)) < 0) := by omega
      have ht : min (8 * ((w : Int) - 1 - (i : Int))).toNat IntKind.i64.bits = 8 * (w - 1 - i) := by
        show min _ 64 = _
        omega
      simp only [binV, shrV, if_neg hb0, ht]
    simp only [bin_lss, optK_some, d1, condV_true, bin_sub, w1, w2, bin_mul, w3, hsh, cvt, convI, u8v_byte, ← hxe]
    rw [bsl1_ok _ rfl _ _ rfl, ← hs2, r3]
    simp only [bin_add, w4, optK_some, nx_nrm]
    exact hnext (w - (i + 1)) _ _ (by omega) ⟨i + 1, v3, b3, by omega, hk3, ho3, hb3', rfl, rfl, rfl, rfl, rfl, rfl⟩
  · have : i = w := by omega
    subst this
    rw [List.take_of_length_le (by simp)] at ho
    simp only [bin_lss, optK_some, Int.lt_irrefl, decide_false, condV_false, nx_exit, exX_exit, beq_self_eq_true, exB_true]
    refine put_ens (h.kept hk (by simp) (by simp)) ho.rd (by simp; omega) (OwnR.new_sep ho hb hkw) _ fun v' s' hv => ?_
    exact hK _ _ (hv.trans0 hk)
end Go.Proofs.Vt
end
section
/- slices.Reverse of bytes. -/
namespace Go.Proofs.Vt
open Go Go.Rx Go.Proofs

theorem Reverse_ok {s : AS} {v : V} {n : Nat} {xs : List V} {b : Option Nat} (h : OwnR 1 s v n xs b) (hn : n < 1099511627776) :
    Ens (fn123 v) s (fun u s' => u = .tuple [] ∧ OwnR 1 s' v n xs.reverse b ∧ Kept b.toList s s') := by
  intro K hK
  have hlen := h.len
  rw [Nat.mul_one] at hlen
  unfold fn123 fn123_q
  obtain ⟨a, c, ex, rfl⟩ := h.slice
  have w0 : IntKind.i64.wrap ((n : Int) - 1) = (n : Int) - 1 := wrap64 (by omega) (by omega)
  simp only [lenV_slice, optK_some, bin_sub, w0]
  refine loop_rule (fun m tm s1 => ∃ (i : Nat) (ys : List V), n = 2 * i + m ∧ Kept b.toList s s1 ∧ s1.next = s.next ∧ OwnR 1 s1 (.slice a n c ex) n ys b ∧
      (∀ p, p < n → ys[p]? = if p < i ∨ n - i ≤ p then xs[n - 1 - p]? else xs[p]?) ∧
      tm.getD 0 .junk = .slice a n c ex ∧ tm.getD 2 .junk = .int .i64 (i : Nat) ∧ tm.getD 3 .junk = .int .i64 ((n : Int) - 1 - i)) ?_
    (m := n) (by omega) ⟨0, xs, by omega, Kept.refl _ _, rfl, h, by intro p hp; simp; omega, rfl, rfl, by simp⟩
  rintro m tm s1 Kn ⟨i, ys, hm, hk, hnx, ho, hys, h0, h2, h3⟩ hnext
  simp only [h0, h2, h3]
  unfold fn123_L1
  by_cases hij : 2 * i + 1 < n
  · obtain ⟨k, rfl⟩ : ∃ k, b = some k := by
      cases b with
      | none => have := ho.at'; simp at this; omega
      | some k => exact ⟨k, rfl⟩
    obtain ⟨c', ex', cs, u, e, hg, ht, hmc, hcl, hex⟩ := ho.at'
    cases e
    have hor : ex = true ∨ c ≠ 0 := hex.imp id (·.1)
    rw [Nat.mul_one] at ht hcl
    obtain ⟨j, hj⟩ : ∃ j, j = n - 1 - i := ⟨_, rfl⟩
    have ej : ((n : Int) - 1 - i) = (j : Nat) := by omega
    rw [ej]
    have hcs : ∀ p, p < n → cs[p]? = ys[p]? := fun p hp => by rw [← ht, List.getElem?_take_of_lt hp]
    obtain ⟨yi, hyi⟩ : ∃ y, ys[i]? = some y := ⟨ys[i]'(by have := ho.len; omega), by simp⟩
    obtain ⟨yj, hyj⟩ : ∃ y, ys[j]? = some y := ⟨ys[j]'(by have := ho.len; omega), by simp⟩
    have fl : ∀ {p : Nat} {y : V}, ys[p]? = some y → flatV y = true := fun hp => List.all_eq_true.1 ho.flat _ (List.mem_of_getElem? hp)
    have d1 : decide ((i : Int) < (j : Nat)) = true := by simp; omega
    have w1 : IntKind.i64.wrap ((i : Int) + 1) = ((i + 1 : Nat) : Int) := by rw [wrap64 (by omega) (by omega)]; omega
    have w2 : IntKind.i64.wrap (((j : Nat) : Int) - 1) = (n : Int) - 1 - ((i + 1 : Nat) : Int) := by rw [wrap64 (by omega) (by omega)]; omega
    have e1 : elemPtr none 1 (.slice (some ⟨.new k, 0⟩) n c ex) (.int .i64 (i : Nat)) = some (.ptr (some ⟨.new k, i⟩)) := by rw [elem_ok (by omega) hor]; simp
    have e2 : elemPtr none 1 (.slice (some ⟨.new k, 0⟩) n c ex) (.int .i64 (j : Nat)) = some (.ptr (some ⟨.new k, j⟩)) := by rw [elem_ok (by omega) hor]; simp
    obtain ⟨s2, hs2⟩ : ∃ s2, s2 = s1.put k (some (.cells (cs.set i yj) u)) := ⟨_, rfl⟩
    have g2 : s2.get k = some (.cells (cs.set i yj) u) := by rw [hs2]; exact AS.get_put_same _ _ _
    obtain ⟨s3, hs3⟩ : ∃ s3, s3 = s2.put k (some (.cells ((cs.set i yj).set j yi) u)) := ⟨_, rfl⟩
    have g3 : s3.get k = some (.cells ((cs.set i yj).set j yi) u) := by rw [hs3]; exact AS.get_put_same _ _ _
    have sy : ∀ {p : Nat} {y : V}, ys[p]? = some y → True := fun _ => trivial
    simp only [bin_lss, optK_some, d1, condV_true, e1, e2, ld1_new hg, hcs i (by omega), hcs j (by omega), hyi, hyj]
    rw [st1_new hg (by have := (List.getElem?_eq_some_iff.1 ((hcs i (by omega)).trans hyi)).1; exact this) (fl hyj), ← hs2]
    rw [st1_new g2 (by have := (List.getElem?_eq_some_iff.1 ((hcs j (by omega)).trans hyj)).1; simpa using this) (fl hyi), ← hs3]
    simp only [bin_add, bin_sub, w1, w2, optK_some, nx_nrm]
    have hlen2 := ho.len
    rw [Nat.mul_one] at hlen2
    refine hnext (n - 2 * (i + 1)) _ _ (by omega) ⟨i + 1, (ys.set i yj).set j yi, by omega, ?_, by rw [hs3, hs2]; exact hnx, ?_, ?_, rfl, rfl, rfl⟩
    · rw [hs3, hs2]
      exact hk.trans ((Kept.put _).trans (Kept.put _) (fun _ h => h) (fun _ h => .inl h)) (fun _ h => h) (fun _ h => .inl h)
    · refine ⟨by simpa using ho.len, ?_, c, ex, _, u, rfl, g3, ?_, hmc, by simpa using hcl, hex⟩
      · rw [List.all_eq_true]
        intro y hy
        rcases List.mem_or_eq_of_mem_set hy with h | h
        · rcases List.mem_or_eq_of_mem_set h with h | h
          · exact List.all_eq_true.1 ho.flat _ h
          · rw [h]; exact fl hyj
        · rw [h]; exact fl hyi
      · rw [Nat.mul_one, List.take_set, List.take_set, ht]
    · intro p hp
      rw [List.getElem?_set, List.getElem?_set]
      have xi := hys i (by omega)
      have xj := hys j (by omega)
      rw [if_neg (by omega), hyi] at xi
      rw [if_neg (by omega), hyj] at xj
      by_cases hpj : j = p
      · rw [if_pos hpj, if_pos (by simp; omega), if_pos (by omega), xi]
        congr 1; omega
      · rw [if_neg hpj]
        by_cases hpi : i = p
        · rw [if_pos hpi, if_pos (by omega), if_pos (by omega), xj]
          congr 1; omega
        · rw [if_neg hpi, hys p hp]
          by_cases hc : p < i ∨ n - i ≤ p
          · rw [if_pos hc, if_pos (by omega)]
          · rw [if_neg hc, if_neg (by omega)]
  · have d1 : decide ((i : Int) < (n : Int) - 1 - i) = false := by simp; omega
    simp only [bin_lss, optK_some, d1, condV_false, nx_exit, exX_exit, beq_self_eq_true, exB_true]
    have : ys = xs.reverse := by
      apply List.ext_getElem?
      intro p
      by_cases hp : p < n
      · rw [hys p hp, List.getElem?_reverse (by omega), hlen]
        by_cases hc : p < i ∨ n - i ≤ p
        · rw [if_pos hc]
        · rw [if_neg hc]
          have : p = n - 1 - p := by omega
          rw [← this]
      · rw [List.getElem?_eq_none (by have := ho.len; omega), List.getElem?_eq_none (by simp; omega)]
    subst this
    exact hK _ _ ⟨rfl, ho, hk⟩
end Go.Proofs.Vt
end
section
/- Writers: counts, texts, and what is taken. -/
namespace Go.Proofs.Vt
open Go Go.Rx Go.Proofs

/-- The groups of a count behind the last one, the low ones first. -/
def countT : Nat → Nat → List UInt8
  | 0, _ => []
  | f + 1, m => if m = 0 then [] else u8v ((m % 128 + 128 : Nat) : Int) :: countT f (m / 128)
/-- A count. -/
def countB (n : Nat) : List UInt8 := (u8v ((n % 128 : Nat) : Int) :: countT 64 (n / 128)).reverse

theorem countT_len : ∀ (f m : Nat), (countT f m).length ≤ f
  | 0, m => by simp [countT]
  | f + 1, m => by
    unfold countT
    split
    · simp
    · have := countT_len f (m / 128); simp; omega

theorem or128 : ∀ a : Fin 128, IntKind.i64.wrap ((BitVec.ofInt 64 ((a.1 : Nat) : Int)) ||| BitVec.ofInt 64 128).toNat = ((a.1 + 128 : Nat) : Int) := by decide +kernel

theorem bin_or128 {m : Nat} (hm : m < 128) : binV .or (some (Kd.int .i64)) true (.int .i64 (m : Nat)) (.int .i64 128) = some (.int .i64 ((m + 128 : Nat) : Int)) := by
  have := or128 ⟨m, hm⟩
  simp only [binV, intV, if_true]
  exact congrArg (fun z => some (V.int .i64 z)) this

theorem shr7 (m : Nat) : binV .shr (some (Kd.int .i64)) true (.int .i64 (m : Nat)) (.int .u64 7) = some (.int .i64 ((m / 128 : Nat) : Int)) := by
  have h : ((m : Nat) : Int).fdiv (2 ^ (min (7 : Int).toNat IntKind.i64.bits)) = ((m / 128 : Nat) : Int) := by
    show ((m : Nat) : Int).fdiv 128 = _
    rw [Int.fdiv_eq_ediv_of_nonneg _ (by omega)]
    omega
  simp only [binV, shrV]
  rw [if_neg (by omega), h]

/-- One byte is put behind a list of one's own. -/
theorem push_own {s s1 : AS} {v : V} {xs : List UInt8} {b : Option Nat} (hk : Kept [] s s1) (ho : OwnR 1 s1 v xs.length (xs.map byteV) b) (hb : ∀ j, b = some j → s.next ≤ j ∧ j < s1.next) (x : UInt8) (hl : xs.length < 1099511627776) :
    ∃ v3 s3 b3, (∀ K, bsl 1 [V.int .u8 0] 1 [(0, byteV x)] s1 (fun t s => app 1 1 v t s K) = K v3 s3) ∧ Kept [] s s3 ∧ OwnR 1 s3 v3 (xs ++ [x]).length ((xs ++ [x]).map byteV) b3 ∧ (∀ j, b3 = some j → s.next ≤ j ∧ j < s3.next) := by
  have hk1 := hk.next
  obtain ⟨s2, hs2⟩ : ∃ s2, s2 = s1.alloc (.cells [byteV x] 0) := ⟨_, rfl⟩
  have k2 : Kept [] s1 s2 := by rw [hs2]; exact Kept.alloc _
  have ho2 : OwnR 1 s2 v xs.length (xs.map byteV) b := ho.kept fun j e => k2.get j (hb j e).2 (by simp)
  have src : srcN 1 1 (.slice (some ⟨.new s1.next, 0⟩) 1 1 true) s2 = some [byteV x] := by
    rw [hs2]; simp [srcN, ldN, cellsAt]
  obtain ⟨v3, s3, b3, r3, o3, k3, hb3⟩ := app_own (sz := 1) (bytes := 1) (by omega) ho2 (x := .slice (some ⟨.new s1.next, 0⟩) 1 1 true) (n := 1) rfl src (by simp) (by simp) (by omega) (by omega)
  have n2 := k2.next
  have n3 := k3.next
  refine ⟨v3, s3, b3, fun K => ?_, ⟨by omega, by rw [k3.old, k2.old, hk.old], fun j hj _ => ?_⟩, by simpa using o3, fun j e => ?_⟩
  · rw [bsl1_ok _ rfl _ _ rfl, ← hs2, r3]
  · rw [k3.get j (by omega) (fun hm => by simp at hm; have := hb j hm; omega), k2.get j (by omega) (by simp), hk.get j hj (by simp)]
  · rcases hb3 with e1 | ⟨k', e1, h1, h2⟩
    · have := hb j (e1.symm.trans e); omega
    · rw [e1] at e; cases e; omega

theorem Count_ok {s : AS} {kw : Nat} {bs : List UInt8} {b : Option Nat} (h : WrAt s kw bs b) {n : Nat} (hn : n ≤ 9007199254740991) (hlen : bs.length + 100 ≤ 140737488355328) :
    Ens (fn92 (.ptr (some ⟨.new kw, 0⟩)) (.int .i64 n)) s (WrTo s kw b (bs ++ countB n)) := by
  intro K hK
  have hkw := h.lt.1
  unfold fn92 fn92_q
  have d1 : decide ((n : Int) < 0) = false := by simp
  have d2 : decide ((n : Int) > 9007199254740991) = false := by simp; omega
  have hrem : binV .rem (some (Kd.int .i64)) true (.int .i64 (n : Nat)) (.int .i64 128) = some (.int .i64 ((n % 128 : Nat) : Int)) := by
    simp; exact (Int.tmod_eq_emod_of_nonneg (by omega)).trans (by omega)
  simp only [bin_lss, optK_some, d1, grd_false, bin_gtr, d2, condV_false, hrem, cvt, convI, u8v_byte]
  rw [bsl1_ok _ rfl _ _ rfl]
  simp only [shr7, optK_some]
  obtain ⟨s1, hs1⟩ : ∃ s1, s1 = s.alloc (.cells [byteV (u8v ((n % 128 : Nat) : Int))] 0) := ⟨_, rfl⟩
  have k1 : Kept [] s s1 := by rw [hs1]; exact Kept.alloc _
  have o1 : OwnR 1 s1 (.slice (some ⟨.new s.next, 0⟩) 1 1 true) [u8v ((n % 128 : Nat) : Int)].length ([u8v ((n % 128 : Nat) : Int)].map byteV) (some s.next) := by
    refine ⟨by simp, by simp, 1, true, _, 0, rfl, by rw [hs1]; exact AS.get_alloc_same _ _, by simp, by simp, by simp, .inl rfl⟩
  rw [← hs1]
  refine loop_rule (fun m tm s2 => ∃ (q f : Nat) (xs : List UInt8) (v : V) (bb : Option Nat), m = f ∧ q < 128 ^ f ∧ f ≤ 64 ∧ xs.length + f = 65 ∧ xs ++ countT f q = u8v ((n % 128 : Nat) : Int) :: countT 64 (n / 128) ∧
      Kept [] s s2 ∧ OwnR 1 s2 v xs.length (xs.map byteV) bb ∧ (∀ j, bb = some j → s.next ≤ j ∧ j < s2.next) ∧
      tm.getD 0 .junk = .ptr (some ⟨.new kw, 0⟩) ∧ tm.getD 1 .junk = .int .i64 (q : Nat) ∧ tm.getD 5 .junk = v) ?_
    (m := 64) (by omega) ⟨n / 128, 64, [u8v ((n % 128 : Nat) : Int)], _, some s.next, rfl, by
      have : (128 : Nat) ^ 9 ≤ 128 ^ 64 := Nat.pow_le_pow_right (by omega) (by omega)
      have e9 : (128 : Nat) ^ 9 = 9223372036854775808 := by decide
      omega, by omega, rfl, rfl, k1, o1, fun j e => by cases e; rw [hs1]; simp, rfl, rfl, rfl⟩
  rintro m tm s2 Kn ⟨q, f, xs, v, bb, hmf, hq, hf, hxf, hxs, hk, ho, hb, h0, h1, h5⟩ hnext
  simp only [h0, h1, h5]
  unfold fn92_L1
  by_cases hq0 : q = 0
  · subst hq0
    have hfull : xs = u8v ((n % 128 : Nat) : Int) :: countT 64 (n / 128) := by
      rw [← hxs]
      cases f with
      | zero => simp [countT]
      | succ f => simp [countT]
    have d0 : decide (((0 : Nat) : Int) > 0) = false := by simp
    simp only [bin_gtr, optK_some, d0, condV_false, nx_exit, exX_exit, beq_self_eq_true, exB_true]
    refine Reverse_ok ho (by omega) _ ?_
    rintro _ s3 ⟨rfl, o3, k3⟩
    have hk3 : Kept [] s s3 := hk.trans k3 (by simp) (fun j hj => by simp at hj; exact .inr (hb j hj).1)
    have o3' : OwnR 1 s3 v (countB n).length ((countB n).map byteV) bb := by
      unfold countB
      rw [← hfull]
      simpa using o3
    have hcl : (countB n).length ≤ 65 := by
      unfold countB
      have := countT_len 64 (n / 128)
      simp; omega
    have hb3 : ∀ j, bb = some j → s.next ≤ j ∧ j < s3.next := fun j e => by have := hb j e; have := k3.next; omega
    refine put_ens (h.kept hk3 (by simp) (by simp)) o3'.rd (by omega) (OwnR.new_sep o3' hb3 hkw) _ fun v' s' hv => ?_
    exact hK _ _ (hv.trans0 hk3)
  · obtain ⟨f, rfl⟩ : ∃ f', f = f' + 1 := ⟨f - 1, by cases f with | zero => simp at hq; omega | succ f => omega⟩
    have dq : decide (((q : Nat) : Int) > 0) = true := by simp; omega
    have hrem2 : binV .rem (some (Kd.int .i64)) true (.int .i64 (q : Nat)) (.int .i64 128) = some (.int .i64 ((q % 128 : Nat) : Int)) := by
      simp; exact (Int.tmod_eq_emod_of_nonneg (by omega)).trans (by omega)
    obtain ⟨v3, s3, b3, r3, k3, o3, hb3⟩ := push_own hk ho hb (u8v ((q % 128 + 128 : Nat) : Int)) (by omega)
    simp only [bin_gtr, optK_some, dq, condV_true, hrem2, bin_or128 (Nat.mod_lt q (by omega : 0 < 128)), cvt, convI, u8v_byte]
    rw [r3]
    simp only [shr7, optK_some, nx_nrm]
    refine hnext f _ _ (by omega) ⟨q / 128, f, xs ++ [u8v ((q % 128 + 128 : Nat) : Int)], v3, b3, rfl, ?_, by omega, by simp; omega, ?_, k3, o3, hb3, rfl, rfl, rfl⟩
    · rw [Nat.pow_succ] at hq
      exact Nat.div_lt_of_lt_mul (by omega)
    · rw [← hxs]
      rw [List.append_assoc]
      congr 1
      simp [countT, hq0]

theorem WrTo.trans {s s1 s2 : AS} {kw : Nat} {b b1 : Option Nat} {bs : List UInt8} {v : V} (hk : Kept (kw :: b.toList) s s1) (hb : b1 = b ∨ ∃ k', b1 = some k' ∧ s.next ≤ k' ∧ k' < s1.next) (h : WrTo s1 kw b1 bs v s2) : WrTo s kw b bs v s2 := by
  obtain ⟨e, b', hw, hk', hb'⟩ := h
  have n1 := hk.next
  have n2 := hk'.next
  refine ⟨e, b', hw, hk.trans hk' (fun _ h => h) (fun j hj => ?_), ?_⟩
  · simp at hj ⊢
    rcases hj with e1 | e1
    · exact .inl (.inl e1)
    · rcases hb with e2 | ⟨k', e2, h1, h2⟩
      · exact .inl (.inr (e2.symm.trans e1))
      · rw [e2] at e1; cases e1; exact .inr h1
  · rcases hb' with e1 | ⟨k', e1, h1, h2⟩
    · rcases hb with e2 | ⟨k', e2, h1, h2⟩
      · exact .inl (e1.trans e2)
      · exact .inr ⟨k', e1.trans e2, h1, by omega⟩
    · exact .inr ⟨k', e1, by omega, h2⟩

theorem Write_new (s : AS) (K : K0) : fn90 s K = K (.ptr (some ⟨.new s.next, 0⟩)) (s.alloc (.cells [.slice none 0 0 true, .int .i64 0] 0)) := by
  unfold fn90 fn90_q
  simp [fillV, aggO, boxV, newC, cellsV]

theorem WrAt.new (s : AS) : WrAt (s.alloc (.cells [.slice none 0 0 true, .int .i64 0] 0)) s.next [] none :=
  ⟨⟨_, AS.get_alloc_same _ _, own_nil _ _ _⟩, by simp, by simp⟩
end Go.Proofs.Vt
end
section
/- Copies; what a writer hands out. -/
namespace Go.Proofs.Vt
open Go Go.Rx Go.Proofs

/-- New bytes of a call's own. -/
def NewB (s : AS) (ys : List UInt8) (u : V) (s' : AS) : Prop := ∃ b, OwnR 1 s' u ys.length (ys.map byteV) b ∧ Kept [] s s' ∧ ∀ j, b = some j → s.next ≤ j ∧ j < s'.next

theorem bin_slice_nil (e c) (a : Option Ad) (n m x) (h : a = none → m = 0) : binV .eql (some (.slice e)) c (.slice a n m x) (.slice none 0 0 true) = some (.bool a.isNone) := by
  cases a with
  | none => rw [h rfl]; simp [binV, eqV, bothNil]
  | some a => simp [binV, eqV, bothNil]

theorem bsl0_ok (s : AS) (z : V) (hz : flatV z = true) (K : K0) : bsl 1 [z] 0 [] s K = K (.slice (some ⟨.new s.next, 0⟩) 0 0 true) (s.alloc (.cells [] 0)) := by
  unfold bsl
  simp [fillV, zeros, newS]

theorem Clone_ok {s : AS} {v : V} {ys : List UInt8} (h : Rd s v ys) (hs : ∀ k o l c ex, v = .slice (some ⟨.new k, o⟩) l c ex → k < s.next) (hn : ys.length ≤ 1099511627776) : Ens (fn107 v) s (NewB s ys) := by
  intro K hK
  obtain ⟨a, c, ex, rfl⟩ := h.sl
  have hc0 : a = none → c = 0 := fun e => by
    subst e
    have hsrc := h.src
    cases c with
    | zero => rfl
    | succ c => simp [srcN] at hsrc
  unfold fn107 fn107_q
  rw [bin_slice_nil _ _ _ _ _ _ hc0]
  simp only [optK_some]
  cases a with
  | none =>
    simp only [Option.isNone_none, condV_true]
    have hsrc := h.src
    have h0 : ys = [] := by
      cases hl : ys.length with
      | zero => exact List.eq_nil_of_length_eq_zero hl
      | succ n => rw [hl] at hsrc; cases c <;> simp [srcN] at hsrc
    subst h0
    exact hK _ _ ⟨none, by simpa using own_nil 1 s true, Kept.refl _ _, by simp⟩
  | some a =>
    simp only [Option.isNone_some, condV_false]
    rw [bsl0_ok _ _ rfl]
    obtain ⟨s1, hs1⟩ : ∃ s1, s1 = s.alloc (.cells [] 0) := ⟨_, rfl⟩
    rw [← hs1]
    have k1 : Kept [] s s1 := by rw [hs1]; exact Kept.alloc _
    have o1 : OwnR 1 s1 (.slice (some ⟨.new s.next, 0⟩) 0 0 true) 0 [] (some s.next) := ⟨by simp, rfl, 0, true, [], 0, rfl, by rw [hs1]; exact AS.get_alloc_same _ _, by simp, by simp, by simp, .inl rfl⟩
    have r1 := h.kept (s' := s1) (fun j o l cx exx e => k1.get j (hs j o l cx exx e) (by simp)) k1.old
    obtain ⟨v2, s2, b2, run, o2, k2, hb2⟩ := app_own (sz := 1) (bytes := 1) (by omega) o1 r1.len r1.src (by simp) (byteV_flat ys) (by omega) (by omega)
    rw [run]
    have n2 := k2.next
    have n1 : s1.next = s.next + 1 := by rw [hs1]; simp
    refine hK _ _ ⟨b2, by simpa using o2, ⟨by omega, by rw [k2.old, k1.old], fun j hj _ => ?_⟩, fun j e => ?_⟩
    · rw [k2.get j (by omega) (by simp; omega), k1.get j hj (by simp)]
    · rcases hb2 with e1 | ⟨k', e1, h1, h2⟩
      · rw [e1] at e; cases e; omega
      · rw [e1] at e; cases e; omega

end Go.Proofs.Vt
end
section
/- Writers, by parts of memory. -/
namespace Go.Proofs.Vt
open Go Go.Rx Go.Proofs
variable {G : Nat → Option (List V)}

theorem newB_t {s s' : AS} {u : V} {ys : List UInt8} {r : List HP} (h : Hs G r s) (hn : NewB s ys u s') : (∃ n c ex, u = .slice n ys.length c ex) ∧ Hs G (BytesH u ys :: r) s' := by
  obtain ⟨b, ho, hk, hb⟩ := hn
  exact ⟨ho.slice, hk.old.trans h.old, fun j => b = some j, fun j => j < s.next, fun j e => (hb j e).2, fun j hj => Nat.lt_of_lt_of_le hj hk.next, fun j e hj => by have := hb j e; omega, ⟨b, ho, fun j e => e⟩,
    sepL_loc h.sep hk.old fun j hj => hk.get j hj (by simp)⟩

theorem Clone_t {v : V} {ys : List UInt8} {r : List HP} {s : AS} (hr : Reads G r v ys) (h : Hs G r s) (hn : ys.length ≤ 1099511627776) :
    Ens (fn107 v) s fun u s' => (∃ n c ex, u = .slice n ys.length c ex) ∧ Hs G (BytesH u ys :: r) s' :=
  (Clone_ok (hr s h).1.toRd (hr s h).2 hn).mono fun _ _ hu => newB_t h hu

def WrH (kw : Nat) (bs : List UInt8) : HP := HP.ex fun vb : V => HP.all [Ob kw (.cells [vb, .int .i64 0] 0), BytesH vb bs]
theorem WrH.iff {kw : Nat} {bs : List UInt8} {r : List HP} {s : AS} : Hs G (WrH kw bs :: r) s ↔ ∃ vb, Hs G (Ob kw (.cells [vb, .int .i64 0] 0) :: BytesH vb bs :: r) s := by
  unfold WrH
  simp only [Hs.ex_iff, Hs.all_iff, List.cons_append, List.nil_append]

theorem wr_step {kw : Nat} {bs bs' : List UInt8} {r : List HP} {s : AS} (h : Hs G (WrH kw bs :: r) s) {m : M} (hm : ∀ b, WrAt s kw bs b → Ens m s (WrTo s kw b bs')) :
    Ens m s fun v s' => v = .ptr (some ⟨.new kw, 0⟩) ∧ Hs G (WrH kw bs' :: r) s' := by
  intro K hK
  obtain ⟨vb, h1⟩ := WrH.iff.1 h
  obtain ⟨F1, F2, i1, i2, d12, hF1, F3, F4, i3, i4, d34, ⟨b, ho, hb⟩, hl⟩ := h1.sep
  have hkw := i1 _ hF1.1
  have hw : WrAt s kw bs b := ⟨⟨vb, hF1.2, ho⟩, hkw, fun j e => ⟨i2 j (i3 j (hb j e)), fun e2 => d12 kw hF1.1 (e2 ▸ i3 j (hb j e))⟩⟩
  refine hm b hw K ?_
  rintro _ s' ⟨rfl, b', hw', hk, hbb⟩
  obtain ⟨vb', hg', ho'⟩ := hw'.ex
  refine hK _ _ ⟨rfl, WrH.iff.2 ⟨vb', hk.old.trans h.old, fun j => j = kw, fun j => j ≠ kw ∧ (F2 j ∨ (s.next ≤ j ∧ j < s'.next)), fun j e => by have := hw'.lt.1; show j < s'.next; omega,
    fun j hj => hj.2.elim (fun x => Nat.lt_of_lt_of_le (i2 j x) hk.next) (·.2), fun j e hj => hj.1 e, ⟨rfl, hg'⟩,
    fun j => b' = some j, F4, fun j e => ⟨(hw'.lt.2 j e).2, ?_⟩, fun j hj => ⟨fun e => d12 kw hF1.1 (e ▸ i4 j hj), .inl (i4 j hj)⟩, fun j e hj => ?_, ⟨b', ho', fun j e => e⟩, sepL_loc hl hk.old fun j hj => hk.get j (i2 j (i4 j hj)) fun hm => ?_⟩⟩
  · rcases hbb with e1 | ⟨k', e1, h3, h4⟩
    · exact .inl (i3 j (hb j (e1.symm.trans e)))
    · rw [e1] at e; cases e; exact .inr ⟨h3, h4⟩
  · rcases hbb with e1 | ⟨k', e1, h3, h4⟩
    · exact d34 j (hb j (e1.symm.trans e)) hj
    · rw [e1] at e; cases e; have := i2 j (i4 j hj); omega
  · simp at hm
    rcases hm with e | e
    · exact d12 kw hF1.1 (e ▸ i4 j hj)
    · exact d34 j (hb j e) hj

theorem wNew_t {r : List HP} {s : AS} (h : Hs G r s) : Ens fn90 s fun v s' => ∃ kw, v = .ptr (some ⟨.new kw, 0⟩) ∧ Hs G (WrH kw [] :: r) s' := by
  intro K hK
  rw [Write_new]
  have h1 := h.alloc (.cells [.slice none 0 0 true, .int .i64 0] 0)
  exact hK _ _ ⟨_, rfl, WrH.iff.2 ⟨_, (h1.slNil 1 true).swap⟩⟩
theorem wNum_t {kw : Nat} {bs : List UInt8} {r : List HP} {s : AS} (h : Hs G (WrH kw bs :: r) s) {w n : Nat} (hw : w = 1 ∨ w = 2 ∨ w = 4 ∨ w = 8) (hn : n ≤ 9007199254740991) (hnw : n / 2 ^ (8 * w) = 0) (hlen : bs.length ≤ 1099511627776) :
    Ens (fn91 (.ptr (some ⟨.new kw, 0⟩)) (.int .i64 w) (.int .i64 n)) s fun v s' => v = .ptr (some ⟨.new kw, 0⟩) ∧ Hs G (WrH kw (bs ++ numB w n) :: r) s' :=
  wr_step h fun _ hb => Num_ok hb hw hn hnw (by omega)
theorem wCount_t {kw : Nat} {bs : List UInt8} {r : List HP} {s : AS} (h : Hs G (WrH kw bs :: r) s) {n : Nat} (hn : n ≤ 9007199254740991) (hlen : bs.length ≤ 1099511627776) :
    Ens (fn92 (.ptr (some ⟨.new kw, 0⟩)) (.int .i64 n)) s fun v s' => v = .ptr (some ⟨.new kw, 0⟩) ∧ Hs G (WrH kw (bs ++ countB n) :: r) s' :=
  wr_step h fun _ hb => Count_ok hb hn (by omega)
theorem put_t {kw : Nat} {bs ys : List UInt8} {v : V} {r : List HP} {s : AS} (h : Hs G (WrH kw bs :: r) s) (hr : Reads G r v ys) (hlen : bs.length + ys.length ≤ 140737488355328) :
    Ens (fn122 (.ptr (some ⟨.new kw, 0⟩)) (.int .i64 0) v) s fun v s' => v = .ptr (some ⟨.new kw, 0⟩) ∧ Hs G (WrH kw (bs ++ ys) :: r) s' := by
  intro K hK
  obtain ⟨vb, h1⟩ := WrH.iff.1 h
  obtain ⟨a, c, ex, rfl⟩ := slH_slice (h1.pull 1)
  unfold fn122 fn122_q
  simp only [bin_ptr_nil, Option.isNone_some, optK_some, condV_false, nilV_ptr, fp_ptr, ld_t h1, Nat.zero_add, List.getElem?_cons_zero, List.getElem?_cons_succ]
  rw [bsl2_ok rfl rfl _ _ rfl]
  have h2 := h1.alloc (.cells [.int .i64 0, .int .i64 0] 0)
  refine Or_ok h2.get _ ?_
  simp only [if_true]
  refine st_t (h2.pull 1) (by simp) rfl fun s3 h3 => ?_
  simp only [List.set_cons_zero, List.set_cons_succ] at h3
  simp only [ld_t h3, List.getElem?_cons_zero, List.getElem?_cons_succ, optK_some, bin_eql, beq_self_eq_true, condV_true]
  have hrd := (hr s3 (h3.drop 0 |>.drop 0 |>.drop 0)).1
  refine app_t (by omega) (h3.pull 2) hrd.len hrd.src (by simp) (byteV_flat ys) (by omega) (by omega) fun v4 s4 h4 => ?_
  rw [← List.map_append, ← List.length_append] at h4
  obtain ⟨a4, c4, ex4, rfl⟩ := slH_slice h4
  refine st_t (h4.pull 1) (by simp) rfl fun s5 h5 => ?_
  simp only [List.set_cons_zero] at h5
  exact hK _ _ ⟨rfl, WrH.iff.2 ⟨_, h5.drop 2⟩⟩

theorem wRaw_t {kw : Nat} {bs ys : List UInt8} {v : V} {r : List HP} {s : AS} (h : Hs G (WrH kw bs :: r) s) (hr : Reads G r v ys) (hlen : bs.length + ys.length ≤ 140737488355328) :
    Ens (fn124 (.ptr (some ⟨.new kw, 0⟩)) v) s fun v s' => v = .ptr (some ⟨.new kw, 0⟩) ∧ Hs G (WrH kw (bs ++ ys) :: r) s' := by
  intro K hK
  unfold fn124 fn124_q
  exact put_t h hr hlen _ hK
theorem countB_len (n : Nat) : (countB n).length ≤ 65 := by
  unfold countB
  have := countT_len 64 (n / 128)
  simp; omega
theorem wText_t {kw : Nat} {bs ys : List UInt8} {v : V} {r : List HP} {s : AS} (h : Hs G (WrH kw bs :: r) s) (hr : Reads G r v ys) (hy : ys.length ≤ 1099511627776) (hlen : bs.length ≤ 1099511627776) :
    Ens (fn94 (.ptr (some ⟨.new kw, 0⟩)) v) s fun v s' => v = .ptr (some ⟨.new kw, 0⟩) ∧ Hs G (WrH kw (bs ++ countB ys.length ++ ys) :: r) s' := by
  intro K hK
  obtain ⟨a, c, ex, rfl⟩ := (hr s h.tail).1.sl
  unfold fn94 fn94_q
  simp only [lenV_slice, optK_some]
  refine wCount_t h (by omega) hlen _ ?_
  rintro _ s1 ⟨rfl, h1⟩
  have := countB_len ys.length
  exact wRaw_t h1 hr (by simp; omega) _ hK
theorem wBytes_t {kw : Nat} {bs : List UInt8} {r : List HP} {s : AS} (h : Hs G (WrH kw bs :: r) s) (hlen : bs.length ≤ 1099511627776) :
    Ens (fn121 (.ptr (some ⟨.new kw, 0⟩))) s fun v s' => ∃ u, v = .tuple [u, .int .i64 0] ∧ (∃ n c ex, u = .slice n bs.length c ex) ∧ Hs G (BytesH u bs :: r) s' := by
  intro K hK
  obtain ⟨vb, h1⟩ := WrH.iff.1 h
  obtain ⟨a, c, ex, rfl⟩ := slH_slice (h1.pull 1)
  unfold fn121 fn121_q
  simp only [bin_ptr_nil, Option.isNone_some, optK_some, condV_false, nilV_ptr, fp_ptr, ld_t h1, Nat.zero_add, List.getElem?_cons_zero, List.getElem?_cons_succ, bin_neq, bne_self_eq_false]
  refine Clone_t reads_bytes (h1.pull 1) hlen _ ?_
  rintro u s' ⟨hu, h2⟩
  exact hK _ _ ⟨u, rfl, hu, h2.drop 1 |>.drop 1⟩
end Go.Proofs.Vt
end
