/- A part of the proofs of the Vote laws: what they share; arguments that are rows. -/
import Derived.Test.YtlmjmjpohjdogaaGreatDoorCE
import Derived.Test.YtlmjmjpohjdogaaGreatDoorRxD
set_option linter.unusedVariables false
set_option linter.unusedSimpArgs false
section
/- The Vote laws: what they share. -/
namespace Go.Proofs.Vt
open Go Go.Rx Go.Proofs
variable {G : Nat → Option (List V)}

theorem old_ld {s : AS} {b o : Nat} {cs : List V} {v : V} {l : List HP} (h : Hs G l s) (hb : G b = some cs) (hv : cs[o]? = some v) (K : K0) : ld1 (.ptr (some ⟨.old b, o⟩)) s K = K v s := by
  simp only [ld1, ldC, cellsAt, h.old, hb, hv, optK_some]
theorem old_holds {ti : TI} (hti : isAggK ti.kind = false) {s : AS} {b o : Nat} {cs : List V} {v : V} {l : List HP} (h : Hs G l s) (hb : G b = some cs) (hv : cs[o]? = some v) (hs : sameV v v = true) : Rx.holds ti (.ptr (some ⟨.old b, o⟩)) s v = true := by
  simp [Rx.holds, peek, hti, ldC, cellsAt, h.old, hb, hv, hs]
theorem bin_bool_neq (c : Bool) (a b : Bool) : binV .neq (some Kd.bool) c (.bool a) (.bool b) = some (.bool (a != b)) := by simp [binV, eqV, bothNil]; cases a <;> cases b <;> rfl

/-- Rows of ints that were there ahead of the call. -/
structure ArgRows (G : Nat → Option (List V)) (w : Nat) (t : V) (rows : List (List Int)) : Prop where
  sl : ∃ a c, t = .slice a rows.length c true
  el : ∀ i row, rows[i]? = some row → row.length = w ∧ ∃ b o cs, elemPtr none w t (.int .i64 (i : Nat)) = some (.ptr (some ⟨.old b, o⟩)) ∧ G b = some cs ∧ ∀ j z, row[j]? = some z → cs[o + j]? = some (iV z)

def nV (n : Nat) : V := .int .i64 n
abbrev arr (B : List Nat) : AObj := .cells (B.map nV) 0
theorem elem9 {k n : Nat} (hn : n < 9) : elemPtr (some 9) 1 (.ptr (some ⟨.new k, 0⟩)) (.int .i64 (n : Nat)) = some (.ptr (some ⟨.new k, n⟩)) := by rw [elemA_ok hn]; simp
theorem arr_get {B : List Nat} (hB : B.length = 9) {n : Nat} (hn : n < 9) : (B.map nV)[n]? = some (.int .i64 (B.getD n 0 : Nat)) := by
  rw [List.getElem?_map, List.getD_eq_getElem?_getD, List.getElem?_eq_getElem (by omega)]; rfl
theorem getD_set {B : List Nat} (hB : B.length = 9) {n m v : Nat} (hn : n < 9) : (B.set n v).getD m 0 = if m = n then v else B.getD m 0 := by
  rw [List.getD_eq_getElem?_getD, List.getElem?_set, List.getD_eq_getElem?_getD]
  by_cases h : n = m
  · subst h; rw [if_pos rfl, if_pos rfl, if_pos (by omega)]; rfl
  · rw [if_neg h, if_neg (fun e => h e.symm)]

theorem nodup_le {α : Type} [DecidableEq α] : ∀ (l k : List α), l.Nodup → (∀ x ∈ l, x ∈ k) → l.length ≤ k.length
  | [], _, _, _ => Nat.zero_le _
  | a :: l, k, hn, hs => by
    rw [List.nodup_cons] at hn
    have ha := hs a (List.mem_cons_self ..)
    have := nodup_le l (k.erase a) hn.2 fun x hx => (List.mem_erase_of_ne (fun e => hn.1 (by rw [← e]; exact hx))).2 (hs x (List.mem_cons_of_mem _ hx))
    rw [List.length_erase_of_mem ha] at this
    have := List.length_pos_of_mem ha
    rw [List.length_cons]; omega

theorem good_nodup {kv kd p f m : Nat} {vs : List Vo} {r : List HP} {s : AS} (h : Hs G (GoodH kv kd p f vs m :: r) s) : (vs.map numOf).Nodup ∧ ∀ x ∈ vs, x.ok := by
  obtain ⟨S, d, hg, h1⟩ := GoodH.iff.1 h
  obtain ⟨kl, km, hok, h2⟩ := VoterH.iff.1 h1
  obtain ⟨L, clock, ⟨hm, hL⟩, _⟩ := MapH.iff.1 (h2.pull 1)
  have := hm.num
  have e : L.map (fun t => numOf t.1) = vs.map numOf := by rw [← hg.v, ← hL, List.map_map]; rfl
  rw [e] at this
  exact ⟨this, fun x hx => hok.vo x (by rw [hg.v]; exact hx)⟩

theorem room8 {vs : List Vo} (hn : (vs.map numOf).Nodup) (hr : ∀ x ∈ vs, 1 ≤ numOf x ∧ numOf x ≤ 8) {n : Nat} (h : 1 ≤ n ∧ n ≤ 8) : roomF vs n = true := by
  unfold roomF
  by_cases hp : vs.any (fun y => numOf y == n) = true
  · rw [hp]; rfl
  · have hne : ∀ x ∈ vs, numOf x ≠ n := fun x hx e => hp (List.any_eq_true.2 ⟨x, hx, by simpa using e⟩)
    have hl := nodup_le (vs.map numOf) (([1, 2, 3, 4, 5, 6, 7, 8] : List Nat).erase n) hn fun z hz => by
      obtain ⟨x, hx, rfl⟩ := List.mem_map.1 hz
      have h1 := hr x hx
      refine (List.mem_erase_of_ne (hne x hx)).2 ?_
      have : numOf x = 1 ∨ numOf x = 2 ∨ numOf x = 3 ∨ numOf x = 4 ∨ numOf x = 5 ∨ numOf x = 6 ∨ numOf x = 7 ∨ numOf x = 8 := by omega
      rcases this with e | e | e | e | e | e | e | e <;> rw [e] <;> decide
    have hin : n ∈ ([1, 2, 3, 4, 5, 6, 7, 8] : List Nat) := by
      have : n = 1 ∨ n = 2 ∨ n = 3 ∨ n = 4 ∨ n = 5 ∨ n = 6 ∨ n = 7 ∨ n = 8 := by omega
      rcases this with e | e | e | e | e | e | e | e <;> rw [e] <;> decide
    rw [List.length_erase_of_mem hin, List.length_map] at hl
    simp at hl
    rw [decide_eq_true (by omega), Bool.or_true]

end Go.Proofs.Vt
end
section
/- Arguments that are rows of ints. -/
namespace Go.Proofs.Vt
open Go Go.Rx Go.Proofs

def rowAt (W : World) (a : Addr) (w i : Nat) : List Int := (List.range w).map fun j => match W.cell? (a.add (i * w + j)) with | some (.int _ z) => z | _ => 0

theorem argRows_of {H : Type} {enc : TypeId × Value → H} {P : Program} {W : World} {t e ei : TypeId} {w : Nat} (hw : 0 < w) (ht : P.underlying t = some (.slice e)) (he : P.underlying e = some (.array w ei)) (hei : P.underlying ei = some (.int .i64)) (hce : P.cellsOf e = w) (hci : P.cellsOf ei = 1)
    {base b0 : Nat} {spare : Nat → Bool} {held : Bool} {v : Value} {d : DataW H} {ps : List MemPlace} {r : Reach} (hval : Value.okWide P W r b0 t v) (h : DataW.Trod enc P W base spare held t v d ps) : ∃ rows, ArgRows (oldOf W) w (cvV v) rows := by
  obtain ⟨fuel, h⟩ := h
  rcases DataW.trod_slice ht h with ⟨hc, _⟩ | ⟨a, len, cap, elems, rest, n, rfl, hc, _, hb, hl, hm, hlen, hel, _, _⟩
  · have hv : v = .slice none 0 0 := by
      cases v <;> simp [Value.cells] at hc <;> simp_all [Value.okWide, Cell.okWide, Cell.ok]
    subst hv
    exact ⟨[], ⟨none, 0, rfl⟩, fun i row hr => by simp at hr⟩
  · have hv : v = .slice (some a) len cap := by
      cases v <;> simp [Value.cells] at hc <;> simp_all [Value.okWide, Cell.okWide, Cell.ok]
    subst hv
    have hsp : a.spot = none := by
      unfold Value.okWide at hval
      rw [ht] at hval
      simp only [Cell.okWide, ht] at hval
      simp only [Cell.ok, ht] at hval
      exact hval.2.2.2.1
    obtain ⟨ab, ao, sp⟩ := a
    simp only at hsp
    subst hsp
    refine ⟨(List.range len).map (rowAt W ⟨ab, ao, none⟩ w), ⟨some ⟨.old ab, ao⟩, cap, by rw [List.length_map, List.length_range]; rfl⟩, fun i row hr => ?_⟩
    obtain ⟨hi, rfl⟩ : i < len ∧ row = rowAt W ⟨ab, ao, none⟩ w i := by
      rw [List.getElem?_map] at hr
      by_cases hi : i < len
      · simp [hi] at hr; exact ⟨hi, hr.symm⟩
      · rw [List.getElem?_eq_none (by simpa using hi)] at hr; simp at hr
    have hx := hel i hi
    obtain ⟨y, hy⟩ : ∃ y, elems[i]? = some y := ⟨elems[i]'(by omega), by simp [show i < elems.length by omega]⟩
    rw [hy, Option.bind_eq_some_iff, hce] at hx
    obtain ⟨l, hcl, htr⟩ := hx
    obtain ⟨_, hll, hcell⟩ := World.cells?_some hcl
    obtain ⟨xs, m, _, _, _, hxl, hxs⟩ := DataW.trod_array he htr
    have each : ∀ j, j < w → ∃ z, W.cell? ⟨ab, ao + (i * w + j), none⟩ = some (.int .i64 z) := by
      intro j hj
      have h1 := hxs j hj
      obtain ⟨q, hq⟩ : ∃ q, xs[j]? = some q := ⟨xs[j]'(by omega), by simp [show j < xs.length by omega]⟩
      rw [hq, hci] at h1
      obtain ⟨z, hz, _, _⟩ := DataW.trod_int hei h1
      have h2 := hcell j hj
      have e1 : (Addr.add (Addr.add ⟨ab, ao, none⟩ (i * w)) j) = ⟨ab, ao + (i * w + j), none⟩ := by rw [add_mk, add_mk, Nat.add_assoc]
      rw [e1] at h2
      refine ⟨z, h2.trans ?_⟩
      have := congrArg (·[0]?) hz
      simpa [List.getElem?_take, List.getElem?_drop] using this
    obtain ⟨z0, hz0⟩ := each 0 hw
    have hblk : ∃ cs e' fr, W.heap[ab]? = some (.cells cs e' fr) := by
      unfold World.cell? at hz0
      simp only at hz0
      split at hz0
      · rename_i cs e' fr hh; exact ⟨cs, e', fr, hh⟩
      · simp at hz0
    obtain ⟨cs, e', fr, hblk⟩ := hblk
    refine ⟨by simp [rowAt], ab, ao + i * w, cs.toList.map cvV, ?_, ?_, fun j z hz => ?_⟩
    · exact elem_ok hi (.inl rfl)
    · unfold oldOf; rw [hblk]
    · have hj : j < w := by
        have := (List.getElem?_eq_some_iff.1 hz).1; simpa [rowAt] using this
      obtain ⟨z', hz'⟩ := each j hj
      have hzz : z = z' := by
        unfold rowAt at hz
        rw [List.getElem?_map] at hz
        simp only [hj, List.getElem?_range, Option.map_some, Option.some.injEq] at hz
        have e1 : (Addr.add ⟨ab, ao, none⟩ (i * w + j)) = ⟨ab, ao + (i * w + j), none⟩ := by rw [add_mk]
        rw [e1, hz'] at hz
        exact hz.symm
      subst hzz
      unfold World.cell? at hz'
      simp only [hblk] at hz'
      have h3 : cs[ao + (i * w + j)]? = some (.int .i64 z) := by simpa using hz'
      rw [List.getElem?_map, Nat.add_assoc]
      have h4 : cs.toList[ao + (i * w + j)]? = some (.int .i64 z) := by simpa using h3
      rw [h4]; rfl
end Go.Proofs.Vt
end
