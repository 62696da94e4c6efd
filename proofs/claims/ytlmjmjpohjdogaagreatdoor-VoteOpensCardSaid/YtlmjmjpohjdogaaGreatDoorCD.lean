/- A part of the proofs of the Vote laws: contracts of the voter's functions. -/
import Derived.Test.YtlmjmjpohjdogaaGreatDoorCC
import Derived.KernelRfl
set_option linter.unusedVariables false
set_option linter.unusedSimpArgs false
section
/- Votes in a map. -/
namespace Go.Proofs.Vt
open Go Go.Rx Go.Proofs
variable {G : Nat → Option (List V)}

structure Vo where
  b : Nat
  c : Cf
def voV (x : Vo) (v : V) : V := .agg [.int .i64 x.b, .int .i64 x.c.num, .int .i64 x.c.full, v]
/-- A vote, where its chain lies, its place in time. -/
abbrev VE := Vo × V × Nat
def ent (t : VE) : V × V × Nat := (iV t.1.c.num, voV t.1 t.2.1, t.2.2)
def chH (t : VE) : HP := NatsH t.2.1 t.1.c.chain
def numOf (x : Vo) : Nat := x.c.num
structure MapOk (L : List VE) (clock : Nat) : Prop where
  st : (L.map (·.2.2)).Nodup
  lt : ∀ t ∈ L, t.2.2 < clock
  num : (L.map fun t => numOf t.1).Nodup
def MapH (km : Nat) (vs : List Vo) : HP := HP.ex fun L : List VE => HP.ex fun clock : Nat => HP.all [HP.pure (MapOk L clock ∧ L.map (·.1) = vs), Ob km (.map (L.map ent) clock), HP.all (L.map chH)]
theorem MapH.iff {km : Nat} {vs : List Vo} {r : List HP} {s : AS} : Hs G (MapH km vs :: r) s ↔ ∃ L clock, (MapOk L clock ∧ L.map (·.1) = vs) ∧ Hs G (Ob km (.map (L.map ent) clock) :: HP.all (L.map chH) :: r) s := by
  unfold MapH
  simp only [Hs.ex_iff, Hs.all_iff (l := [_, _, _]), List.cons_append, List.nil_append, Hs.pure_iff]

/-- Where a number's vote is. -/
theorem find_no : ∀ (L : List VE) (n i : Nat), (∀ t ∈ L, numOf t.1 ≠ n) → findE (Kd.int .i64) (.int .i64 n) (L.map ent) i = some none
  | [], n, i, _ => rfl
  | t :: L, n, i, h => by
    have h1 := h t (List.mem_cons_self ..)
    have e : keyEq (Kd.int .i64) (.int .i64 (n : Nat)) (ent t).1 = some false := by
      simp only [ent, iV, keyEq, if_true]
      congr 1
      unfold numOf at h1
      simp; omega
    rw [List.map_cons]; unfold findE; rw [e]
    exact find_no L n (i + 1) fun t ht => h t (List.mem_cons_of_mem _ ht)
theorem find_yes : ∀ (A B : List VE) (t : VE) (i : Nat), (∀ u ∈ A, numOf u.1 ≠ numOf t.1) → findE (Kd.int .i64) (.int .i64 (numOf t.1 : Nat)) ((A ++ t :: B).map ent) i = some (some (i + A.length, voV t.1 t.2.1))
  | [], B, t, i, _ => by
    have e : keyEq (Kd.int .i64) (.int .i64 (numOf t.1 : Nat)) (ent t).1 = some true := by
      simp [ent, iV, keyEq, numOf]
    rw [List.nil_append, List.map_cons]; unfold findE; rw [e]; rfl
  | u :: A, B, t, i, h => by
    have h1 := h u (List.mem_cons_self ..)
    have e : keyEq (Kd.int .i64) (.int .i64 (numOf t.1 : Nat)) (ent u).1 = some false := by
      simp only [ent, iV, keyEq, if_true]
      congr 1
      unfold numOf at h1 ⊢
      simp; omega
    rw [List.cons_append, List.map_cons]; unfold findE; rw [e]
    have := find_yes A B t (i + 1) fun v hv => h v (List.mem_cons_of_mem _ hv)
    simp only [this, List.length_cons]
    congr 3; omega
theorem split_num {L : List VE} {n : Nat} : (∀ t ∈ L, numOf t.1 ≠ n) ∨ ∃ A t B, L = A ++ t :: B ∧ numOf t.1 = n ∧ ∀ u ∈ A, numOf u.1 ≠ n := by
  induction L with
  | nil => exact .inl (by simp)
  | cons t L ih =>
    by_cases h : numOf t.1 = n
    · exact .inr ⟨[], t, L, rfl, h, by simp⟩
    · rcases ih with h1 | ⟨A, u, B, rfl, h2, h3⟩
      · exact .inl fun u hu => by rcases List.mem_cons.1 hu with rfl | hu; exact h; exact h1 u hu
      · exact .inr ⟨t :: A, u, B, rfl, h2, fun v hv => by rcases List.mem_cons.1 hv with rfl | hv; exact h; exact h3 v hv⟩

abbrev zeroVo : V := .agg [.int .i64 0, .int .i64 0, .int .i64 0, .slice none 0 0 true]
theorem look_no {km clock : Nat} {L : List VE} {n : Nat} {r : List HP} {s : AS} (h : Hs G (Ob km (.map (L.map ent) clock) :: r) s) (hn : ∀ t ∈ L, numOf t.1 ≠ n) (ok : Bool) (K : K0) :
    lookV (Kd.int .i64) zeroVo ok (.map (some km)) (.int .i64 n) s K = K (tupOk ok false zeroVo) s := by
  have e : mapAt s (.map (some km)) = some (L.map ent, clock) := by simp [mapAt, h.get]
  simp only [lookV, e, find_no L n 0 hn]
theorem look_yes {km clock : Nat} {A B : List VE} {t : VE} {r : List HP} {s : AS} (h : Hs G (Ob km (.map ((A ++ t :: B).map ent) clock) :: r) s) (hn : ∀ u ∈ A, numOf u.1 ≠ numOf t.1) (ok : Bool) (K : K0) :
    lookV (Kd.int .i64) zeroVo ok (.map (some km)) (.int .i64 (numOf t.1 : Nat)) s K = K (tupOk ok true (voV t.1 t.2.1)) s := by
  have e : mapAt s (.map (some km)) = some ((A ++ t :: B).map ent, clock) := by simp [mapAt, h.get]
  simp only [lookV, e, find_yes A B t 0 hn]

/-- A vote is put into a list. -/
def putVo (vs : List Vo) (x : Vo) : List Vo := if ∃ y ∈ vs, numOf y = numOf x then vs.map (fun y => if numOf y = numOf x then x else y) else vs ++ [x]

theorem sepL_mid {A : HP} {l r : List HP} {s : AS} {F : Nat → Prop} (h : sepL (l ++ A :: r) s F) : sepL (A :: (l ++ r)) s F := by
  induction l generalizing F with
  | nil => exact h
  | cons B l ih =>
    obtain ⟨F1, F2, h1, h2, hd, hb, hl⟩ := h
    have := ih hl
    exact sepL_swap ⟨F1, F2, h1, h2, hd, hb, this⟩
theorem sepL_unmid {A : HP} {l r : List HP} {s : AS} {F : Nat → Prop} (h : sepL (A :: (l ++ r)) s F) : sepL (l ++ A :: r) s F := by
  induction l generalizing F with
  | nil => exact h
  | cons B l ih =>
    obtain ⟨F1, F2, h1, h2, hd, hb, hl⟩ := sepL_swap h
    exact ⟨F1, F2, h1, h2, hd, hb, ih hl⟩
/-- One of many parts is taken out, and put in. -/
theorem all_mid {A : HP} {l r q : List HP} {s : AS} (h : Hs G (HP.all (l ++ A :: r) :: q) s) : Hs G (A :: HP.all (l ++ r) :: q) s := by
  have h1 := Hs.all_iff.1 h
  rw [List.append_assoc, List.cons_append] at h1
  have h2 : Hs G (A :: (l ++ (r ++ q))) s := ⟨h1.old, sepL_mid h1.sep⟩
  rw [← List.append_assoc] at h2
  obtain ⟨F1, F2, i1, i2, d, ha, hl⟩ := h2.sep
  exact ⟨h.old, F1, F2, i1, i2, d, ha, sepL_append.1 hl⟩
theorem all_unmid {A : HP} {l r q : List HP} {s : AS} (h : Hs G (A :: HP.all (l ++ r) :: q) s) : Hs G (HP.all (l ++ A :: r) :: q) s := by
  obtain ⟨F1, F2, i1, i2, d, ha, hl⟩ := h.sep
  have hl2 := sepL_append.2 hl
  have h2 : Hs G (A :: ((l ++ r) ++ q)) s := ⟨h.old, F1, F2, i1, i2, d, ha, hl2⟩
  rw [List.append_assoc] at h2
  have h3 : Hs G (l ++ A :: (r ++ q)) s := ⟨h2.old, sepL_unmid h2.sep⟩
  rw [← List.cons_append, ← List.append_assoc] at h3
  exact Hs.all_iff.2 h3

theorem modify_mid {α : Type} (f : α → α) (t : α) (B : List α) : ∀ A : List α, (A ++ t :: B).modify A.length f = A ++ f t :: B
  | [] => rfl
  | a :: A => by
    have := modify_mid f t B A
    rw [List.cons_append, List.length_cons, List.modify_succ_cons, this]; rfl
theorem mset_t {km : Nat} {vs : List Vo} {x : Vo} {v : V} {r : List HP} {s : AS} (h : Hs G (MapH km vs :: NatsH v x.c.chain :: r) s) {K : K0} (hK : ∀ s', Hs G (MapH km (putVo vs x) :: r) s' → K undefV s') :
    mapSet (Kd.int .i64) (.map (some km)) (.int .i64 (numOf x : Nat)) (voV x v) s K := by
  obtain ⟨L, clock, ⟨hok, rfl⟩, h1⟩ := MapH.iff.1 h
  have e : mapAt s (.map (some km)) = some (L.map ent, clock) := by simp [mapAt, h1.get]
  rcases split_num (L := L) (n := numOf x) with hn | ⟨A, t, B, rfl, ht, hA⟩
  · simp only [mapSet, e, find_no L (numOf x) 0 hn]
    refine hK _ (MapH.iff.2 ⟨L ++ [(x, v, clock)], clock + 1, ⟨⟨?_, ?_, ?_⟩, ?_⟩, ?_⟩)
    · rw [List.map_append, List.nodup_append]
      refine ⟨hok.st, by simp, fun a ha b hb => ?_⟩
      obtain ⟨t, ht, rfl⟩ := List.mem_map.1 ha
      simp at hb; have := hok.lt t ht; omega
    · intro t ht
      rcases List.mem_append.1 ht with ht | ht
      · have := hok.lt t ht; omega
      · simp at ht; rw [ht]; simp
    · rw [List.map_append, List.nodup_append]
      refine ⟨hok.num, by simp, fun a ha b hb => ?_⟩
      obtain ⟨t, ht, rfl⟩ := List.mem_map.1 ha
      simp at hb; have := hn t ht; omega
    · have : ¬ ∃ y ∈ L.map (·.1), numOf y = numOf x := by
        rintro ⟨y, hy, e⟩
        obtain ⟨t, ht, rfl⟩ := List.mem_map.1 hy
        exact hn t ht e
      unfold putVo; rw [if_neg this]; simp
    · have h2 := h1.put (.map (L.map ent ++ [(.int .i64 (numOf x : Nat), voV x v, clock)]) (clock + 1))
      have e1 : (L ++ [((x, v, clock) : VE)]).map ent = L.map ent ++ [(.int .i64 (numOf x : Nat), voV x v, clock)] := by simp [ent, iV, numOf]
      have e2 : (L ++ [((x, v, clock) : VE)]).map chH = L.map chH ++ [NatsH v x.c.chain] := by simp [chH]
      rw [e1, e2]
      exact (all_snoc.2 (h2.ord [1, 2])).swap
  · have hn2 : numOf t.1 = numOf x := ht
    have e3 : findE (Kd.int .i64) (.int .i64 (numOf x : Nat)) ((A ++ t :: B).map ent) 0 = some (some (A.length, voV t.1 t.2.1)) := by
      have := find_yes A B t 0 (fun u hu => by rw [hn2]; exact hA u hu)
      rw [hn2] at this; simpa using this
    simp only [mapSet, e, e3]
    have hnumB : ∀ u ∈ B, numOf u.1 ≠ numOf x := by
      have := hok.num
      rw [List.map_append, List.map_cons, List.nodup_append] at this
      intro u hu e
      exact (List.nodup_cons.1 this.2.1).1 (by rw [hn2, ← e]; exact List.mem_map_of_mem (f := fun t : VE => numOf t.1) hu)
    refine hK _ (MapH.iff.2 ⟨A ++ (x, v, t.2.2) :: B, clock, ⟨⟨?_, ?_, ?_⟩, ?_⟩, ?_⟩)
    · have := hok.st; simpa using this
    · intro u hu
      rcases List.mem_append.1 hu with hu | hu
      · exact hok.lt u (by simp [hu])
      · rcases List.mem_cons.1 hu with rfl | hu
        · exact hok.lt t (by simp)
        · exact hok.lt u (by simp [hu])
    · have := hok.num; simp only [List.map_append, List.map_cons] at this ⊢; rw [hn2] at this; exact this
    · have : ∃ y ∈ (A ++ t :: B).map (·.1), numOf y = numOf x := ⟨t.1, by simp, hn2⟩
      unfold putVo; rw [if_pos this]
      simp only [List.map_append, List.map_cons, List.map_map]
      congr 1
      · apply List.map_congr_left; intro u hu
        simp [hA u hu]
      · congr 1
        · simp [hn2]
        · apply List.map_congr_left; intro u hu
          simp [hnumB u hu]
    · have h2 := h1.put (.map (updE ((A ++ t :: B).map ent) A.length (.int .i64 (numOf x : Nat)) (voV x v)) clock)
      have e1 : updE ((A ++ t :: B).map ent) A.length (.int .i64 (numOf x : Nat)) (voV x v) = (A ++ ((x, v, t.2.2) : VE) :: B).map ent := by
        unfold updE
        rw [List.map_append, List.map_cons, List.map_append, List.map_cons]
        have : A.length = (A.map ent).length := by simp
        rw [this, modify_mid]
        simp [ent, iV, numOf]
      rw [e1] at h2
      rw [e1]
      have e2 : (A ++ t :: B).map chH = A.map chH ++ chH t :: B.map chH := by simp
      have e4 : (A ++ ((x, v, t.2.2) : VE) :: B).map chH = A.map chH ++ NatsH v x.c.chain :: B.map chH := by simp [chH]
      rw [e2] at h2
      have h3 := (all_mid (h2.pull 1)).tail
      rw [e4]
      exact (all_unmid (h3.ord [2, 0, 1])).swap
end Go.Proofs.Vt
end
section
/- Votes in a map: old ones go. -/
namespace Go.Proofs.Vt
open Go Go.Rx Go.Proofs
variable {G : Nat → Option (List V)}

theorem MapOk.filter {L : List VE} {clock : Nat} (h : MapOk L clock) (P : VE → Bool) : MapOk (L.filter P) clock :=
  ⟨h.st.sublist (List.filter_sublist.map _), fun t ht => h.lt t (List.mem_filter.1 ht).1, h.num.sublist (List.filter_sublist.map _)⟩

theorem next_t {ki km clock : Nat} {L : List VE} {seen : List Nat} {r : List HP} {s : AS} (hok : MapOk L clock) (h : Hs G (Ob ki (.miter (some km) clock seen clock) :: Ob km (.map (L.map ent) clock) :: r) s) {K : K0}
    (h1 : (∀ t ∈ L, t.2.2 ∈ seen) → K overV s)
    (h2 : ∀ A t B, L = A ++ t :: B → t.2.2 ∉ seen → ∀ s', Hs G (Ob ki (.miter (some km) clock (seen ++ [t.2.2]) clock) :: Ob km (.map (L.map ent) clock) :: r) s' → K (.tuple [.bool true, iV t.1.c.num, voV t.1 t.2.1]) s') :
    nextM (.ptr (some ⟨.new ki, 0⟩)) s K := by
  have g1 := h.get
  have g2 := (h.pull 1).get
  simp only [nextM, g1, g2]
  have hc : ¬ ((!seen.isEmpty && !(L.map ent).isEmpty && (L.map ent).all (fun e => decide (e.2.2 ≥ clock))) = true) := by
    intro hh
    simp only [Bool.and_eq_true] at hh
    cases L with
    | nil => simp at hh
    | cons t L =>
      have := hok.lt t (List.mem_cons_self ..)
      have := hh.2
      simp [ent] at this
      omega
  rw [if_neg hc]
  refine ⟨fun hh => h1 fun t ht => ?_, fun e he hs => ?_⟩
  · rw [List.filter_eq_nil_iff] at hh
    by_cases hm : t.2.2 ∈ seen
    · exact hm
    · refine absurd ?_ (hh (ent t) (List.mem_filter.2 ⟨List.mem_map_of_mem ht, ?_⟩))
      · have := hok.lt t ht; exact decide_eq_true this
      · simp [ent, hm]
  · obtain ⟨t, ht, rfl⟩ := List.mem_map.1 he
    obtain ⟨A, B, rfl⟩ := List.append_of_mem ht
    have hns : t.2.2 ∉ seen := by simpa [ent] using hs
    exact h2 A t B rfl hns _ (h.put _)

theorem find_st : ∀ (A B : List VE) (t : VE), ((A ++ t :: B).map (·.2.2)).Nodup → ((A ++ t :: B).map ent).find? (fun e => e.2.2 == t.2.2) = some (ent t)
  | [], B, t, _ => by simp [ent]
  | a :: A, B, t, h => by
    have h' := h
    simp only [List.cons_append, List.map_cons, List.nodup_cons] at h'
    have hne : (a.2.2 == t.2.2) = false := by
      have := h'.1
      simp at this
      simp; exact fun e => this.2.1 e
    have := find_st A B t h'.2
    simp only [List.cons_append, List.map_cons, List.find?_cons]
    simp only [ent, hne]
    simpa [ent] using this

theorem entry_t {ki km clock : Nat} {A B : List VE} {t : VE} {seen : List Nat} {r : List HP} {s : AS} (hok : MapOk (A ++ t :: B) clock) (h : Hs G (Ob ki (.miter (some km) clock (seen ++ [t.2.2]) clock) :: Ob km (.map ((A ++ t :: B).map ent) clock) :: r) s) (K : K0) :
    entryM (.ptr (some ⟨.new ki, 0⟩)) s K = K (.tuple [iV t.1.c.num, voV t.1 t.2.1]) s := by
  have g1 := h.get
  have g2 := (h.pull 1).get
  have hf := find_st A B t hok.st
  have hl : (seen ++ [t.2.2]).getLast? = some t.2.2 := by simp
  simp only [entryM, g1, g2, if_true, hl, hf]
  rfl

theorem does1_t {kb kv : Nat} {lg mp : V} {p f n : Nat} {x : Vo} {v : V} {r : List HP} {s : AS} (h : Hs G (Ob kb (.cells [.ptr (some ⟨.new kv, 0⟩)] 0) :: Ob kv (.cells [lg, .int .i64 p, .int .i64 f, mp] 0) :: r) s) :
    Ens (fn70 (iV n) (voV x v) (.ptr (some ⟨.new kb, 0⟩))) s fun u s' => u = .bool (decide (n < f)) ∧ Hs G (Ob kb (.cells [.ptr (some ⟨.new kv, 0⟩)] 0) :: Ob kv (.cells [lg, .int .i64 p, .int .i64 f, mp] 0) :: r) s' := by
  intro K hK
  unfold fn70 fn70_q voV
  refine boxA_t h fun k s1 h1 => ?_
  have e : decide ((n : Int) < (f : Int)) = decide (n < f) := by by_cases hh : n < f <;> simp [hh]
  simp only [ld_t (h1.pull 1), List.getElem?_cons_zero, optK_some, nilV_ptr, fp_ptr, Nat.zero_add, ld_t (h1.pull 2), List.getElem?_cons_succ, iV, bin_lss, e]
  exact hK _ _ ⟨rfl, h1.tail⟩

theorem cnt_lt {A B : List VE} {t : VE} {q q' : VE → Bool} (hq : ∀ u ∈ A ++ t :: B, q' u = true → q u = true) (ht : q t = true) (ht' : q' t = false) : ((A ++ B).filter q').length < ((A ++ t :: B).filter q).length ∧ ((A ++ t :: B).filter q').length < ((A ++ t :: B).filter q).length := by
  have mono : ∀ l : List VE, (∀ u ∈ l, q' u = true → q u = true) → (l.filter q').length ≤ (l.filter q).length := fun l => by
    induction l with
    | nil => intro _; simp
    | cons a l ih =>
      intro hh
      have h1 := ih fun u hu => hh u (List.mem_cons_of_mem _ hu)
      have h2 := hh a (List.mem_cons_self ..)
      simp only [List.filter_cons]
      cases hb : q' a with
      | false => cases q a <;> simp <;> omega
      | true => rw [h2 hb]; simp; omega
  have hA := mono A fun u hu => hq u (by simp [hu])
  have hB := mono B fun u hu => hq u (by simp [hu])
  simp only [List.filter_append, List.filter_cons, ht, ht', List.length_append]
  simp
  omega

theorem eraseIdx_mid {α : Type} (t : α) (B : List α) : ∀ A : List α, (A ++ t :: B).eraseIdx A.length = A ++ B
  | [] => rfl
  | a :: A => by
    have := eraseIdx_mid t B A
    rw [List.cons_append, List.length_cons, List.eraseIdx_cons_succ, this]; rfl

theorem delF_t {kb kv km : Nat} {lg mp : V} {p f : Nat} {vs : List Vo} {r : List HP} {s : AS} (hf : f ≤ 9007199254740991) (hvs : vs.length ≤ 1000000) (h : Hs G (MapH km vs :: Ob kb (.cells [.ptr (some ⟨.new kv, 0⟩)] 0) :: Ob kv (.cells [lg, .int .i64 p, .int .i64 f, mp] 0) :: r) s) :
    Ens (fn69 (.map (some km)) (.func (.func 70) [] [.ptr (some ⟨.new kb, 0⟩)])) s fun u s' => u = .tuple [] ∧
      Hs G (MapH km (vs.filter fun x => decide (f ≤ numOf x)) :: Ob kb (.cells [.ptr (some ⟨.new kv, 0⟩)] 0) :: Ob kv (.cells [lg, .int .i64 p, .int .i64 f, mp] 0) :: r) s' := by
  intro K hK
  obtain ⟨L, clock, ⟨hok, rfl⟩, h1⟩ := MapH.iff.1 h
  unfold fn69 fn69_q
  have e : mapAt s (.map (some km)) = some (L.map ent, clock) := by simp [mapAt, h1.get]
  simp only [rangeM, e]
  have h2 := h1.alloc (.miter (some km) clock [] clock)
  obtain ⟨ki, hki⟩ : ∃ ki, ki = s.next := ⟨_, rfl⟩
  rw [← hki] at h2 ⊢
  have hfull : L.filter (fun _ => true) = L := List.filter_eq_self.2 (by simp)
  refine loop_rule (fun m tm s1 => ∃ (P : VE → Bool) (seen : List Nat), m = ((L.filter P).filter (fun t => !seen.contains t.2.2)).length ∧ (∀ t ∈ L, P t = false → numOf t.1 < f) ∧ (∀ t ∈ L, P t = true → t.2.2 ∈ seen → f ≤ numOf t.1) ∧
      Hs G (Ob ki (.miter (some km) clock seen clock) :: Ob km (.map ((L.filter P).map ent) clock) :: HP.all ((L.filter P).map chH) :: Ob kb (.cells [.ptr (some ⟨.new kv, 0⟩)] 0) :: Ob kv (.cells [lg, .int .i64 p, .int .i64 f, mp] 0) :: r) s1 ∧
      tm.getD 0 .junk = .map (some km) ∧ tm.getD 1 .junk = .func (.func 70) [] [.ptr (some ⟨.new kb, 0⟩)] ∧ tm.getD 7 .junk = .ptr (some ⟨.new ki, 0⟩)) ?_ (m := L.length) ?_
      ⟨fun _ => true, [], ?_, fun _ _ h => by simp at h, fun _ _ _ h => by simp at h, ?_, rfl, rfl, rfl⟩
  · rintro m tm s1 Kn ⟨P, seen, hm, hP1, hP2, h3, t0, t1, t7⟩ hnext
    simp only [t0, t1, t7]
    unfold fn69_L1
    have hokP := hok.filter P
    refine next_t hokP h3 (fun hall => ?_) (fun A t B hL hns s4 h4 => ?_)
    · simp only [overV, ext0, List.getElem?_cons_zero, optK_some, condV_false, nx_exit, exX_exit, beq_self_eq_true, exB_true]
      refine hK _ _ ⟨rfl, MapH.iff.2 ⟨L.filter P, clock, ⟨hokP, ?_⟩, h3.tail⟩⟩
      rw [List.filter_map]
      congr 1
      apply List.filter_congr
      intro t ht
      cases hp : P t with
      | true => have := hP2 t ht hp (hall t (List.mem_filter.2 ⟨ht, hp⟩)); simp [this]
      | false => have := hP1 t ht hp; simp; omega
    · have hn0 : ∀ z : Nat, (V.int IntKind.i64 (z : Int)) = iV z := fun _ => rfl
      rw [hL] at h4 hokP
      simp only [ext0, List.getElem?_cons_zero, optK_some, condV_true]
      rw [entry_t hokP h4]
      simp only [ext0, List.getElem?_cons_zero, List.getElem?_cons_succ, optK_some]
      refine newC_t h4 fun k5 s5 h5 => ?_
      unfold voV
      refine stAll_t h5 rfl rfl ?_ fun s6 h6 => ?_
      · obtain ⟨F, hF, _⟩ := (all_mid (l := A.map chH) (A := chH t) (r := B.map chH) (by simpa using h5.pull 3)).head
        obtain ⟨b, ho, _⟩ := hF
        obtain ⟨xa, xc, xex, exx⟩ := ho.slice
        rw [exx]; rfl
      rw [ldAll_t (n := 4) h6 rfl]
      have hcall : ∀ s K, callV (E69 fn70) (.func (.func 70) [] [.ptr (some ⟨.new kb, 0⟩)]) [iV t.1.c.num, .agg [.int .i64 t.1.b, .int .i64 t.1.c.num, .int .i64 t.1.c.full, t.2.1]] s K = fn70 (iV t.1.c.num) (voV t.1 t.2.1) (.ptr (some ⟨.new kb, 0⟩)) s K := fun s K => rfl
      rw [hcall]
      refine does1_t ((h6.tail).ord [3, 4]) _ ?_
      rintro _ s7 ⟨rfl, h7⟩
      have htL : t ∈ L := by
        have : t ∈ L.filter P := by rw [hL]; simp
        exact (List.mem_filter.1 this).1
      have huniq : ∀ u ∈ L, u.2.2 = t.2.2 → u = t := by
        intro u hu e
        have hnd := hok.st
        rw [List.nodup_iff_pairwise_ne] at hnd
        obtain ⟨i, hi, rfl⟩ := List.getElem_of_mem hu
        obtain ⟨j, hj, hjt⟩ := List.getElem_of_mem htL
        rw [List.pairwise_map] at hnd
        rcases Nat.lt_trichotomy i j with hij | hij | hij
        · have := List.pairwise_iff_getElem.1 hnd i j hi hj hij; rw [hjt] at this; exact absurd e this
        · subst hij; exact hjt
        · have := List.pairwise_iff_getElem.1 hnd j i hj hi hij; rw [hjt] at this; exact absurd e.symm this
      have hcnt := cnt_lt (A := A) (B := B) (t := t) (q := fun t => !seen.contains t.2.2) (q' := fun u => !(seen ++ [t.2.2]).contains u.2.2) (by
        intro u _ hu
        simp at hu ⊢; exact hu.1) (by simp [hns]) (by simp)
      by_cases hlt : t.1.c.num < f
      · have d : decide (t.1.c.num < f) = true := by simp [hlt]
        simp only [d, condV_true]
        have hA : ∀ u ∈ A, numOf u.1 ≠ numOf t.1 := by
          have := hokP.num
          rw [List.map_append, List.map_cons, List.nodup_append] at this
          exact fun u hu e => this.2.2 _ (List.mem_map_of_mem (f := fun t : VE => numOf t.1) hu) _ (List.mem_cons_self ..) e
        have e2 : mapAt s7 (.map (some km)) = some ((A ++ t :: B).map ent, clock) := by simp [mapAt, (h7.pull 3).get]
        have e3 := find_yes A B t 0 hA
        have e3' : findE (Kd.int .i64) (iV t.1.c.num) ((A ++ t :: B).map ent) 0 = some (some (A.length, voV t.1 t.2.1)) := by simpa [iV, numOf] using e3
        simp only [mapDel, e2, e3', nx_nrm]
        have e4 : ((A ++ t :: B).map ent).eraseIdx A.length = (A ++ B).map ent := by
          rw [List.map_append, List.map_cons]
          have : A.length = (A.map ent).length := by simp
          rw [this, eraseIdx_mid, List.map_append]
        rw [e4]
        have hPf : L.filter (fun u => P u && u.2.2 != t.2.2) = A ++ B := by
          have : L.filter (fun u => P u && u.2.2 != t.2.2) = (L.filter P).filter (fun u => u.2.2 != t.2.2) := by
            rw [List.filter_filter]; apply List.filter_congr; intro u _; rw [Bool.and_comm]
          rw [this, hL, List.filter_append, List.filter_cons]
          have hnd := hokP.st
          rw [List.map_append, List.map_cons, List.nodup_append] at hnd
          have h1 : A.filter (fun u => u.2.2 != t.2.2) = A := List.filter_eq_self.2 fun u hu => by
            have := hnd.2.2 _ (List.mem_map_of_mem (f := fun t : VE => t.2.2) hu) t.2.2 (List.mem_cons_self ..)
            simpa using this
          have h2 : B.filter (fun u => u.2.2 != t.2.2) = B := List.filter_eq_self.2 fun u hu => by
            have := (List.nodup_cons.1 hnd.2.1).1
            simp; intro e; exact this (e ▸ List.mem_map_of_mem (f := fun t : VE => t.2.2) hu)
          rw [h1, h2]; simp
        have h8 := (h7.pull 3).put (.map ((A ++ B).map ent) clock)
        refine hnext _ _ _ ?_ ⟨fun u => P u && u.2.2 != t.2.2, seen ++ [t.2.2], rfl, ?_, ?_, ?_, rfl, rfl, rfl⟩
        · rw [hPf, hm, hL]; exact hcnt.1
        · intro u hu hp
          simp only [Bool.and_eq_false_iff] at hp
          rcases hp with hp | hp
          · exact hP1 u hu hp
          · have : u = t := huniq u hu (by simpa using hp)
            rw [this]; exact hlt
        · intro u hu hp hs
          simp only [Bool.and_eq_true, bne_iff_ne] at hp
          exact hP2 u hu hp.1 (by
            rcases List.mem_append.1 hs with h | h
            · exact h
            · simp at h; exact absurd h hp.2)
        · rw [hPf]
          have e5 : (A ++ t :: B).map chH = A.map chH ++ chH t :: B.map chH := by simp
          rw [e5] at h8
          have h9 := (all_mid (h8.pull 4)).tail
          rw [List.map_append (f := chH)]
          have h10 := h9.ord [4, 1, 0, 2, 3]
          exact h10
      · have d : decide (t.1.c.num < f) = false := by simp [hlt]
        simp only [d, condV_false, nx_nrm]
        refine hnext _ _ _ ?_ ⟨P, seen ++ [t.2.2], rfl, hP1, ?_, ?_, rfl, rfl, rfl⟩
        · rw [hm, hL]; exact hcnt.2
        · intro u hu hp hs
          rcases List.mem_append.1 hs with h | h
          · exact hP2 u hu hp h
          · simp at h
            rw [huniq u hu h]; unfold numOf; omega
        · rw [hL]
          exact (h7.ord [2, 3, 4, 0, 1])
  · have : (L.map (·.1)).length = L.length := by simp
    omega
  · rw [hfull]
    have : L.filter (fun t => !([] : List Nat).contains t.2.2) = L := List.filter_eq_self.2 (by simp)
    rw [this]
  · rw [hfull]; exact h2
end Go.Proofs.Vt
end
section
/- The voter: what a row does. -/
namespace Go.Proofs.Vt
open Go Go.Rx Go.Proofs
variable {G : Nat → Option (List V)}

structure VS where
  p : Nat
  f : Nat
  votes : List Vo
  rows : List (List UInt8)
  dead : Bool
structure Vo.ok (x : Vo) : Prop where
  b : 1 ≤ x.b ∧ x.b ≤ 9007199254740991
  c : x.c.ok
structure VS.ok (S : VS) : Prop where
  p : S.p ≤ 9007199254740991
  f : S.f ≤ 9007199254740991
  v : S.votes.length ≤ 8
  vo : ∀ x ∈ S.votes, x.ok
  r : S.rows.length ≤ 1000000
def VoterH (kv kd : Nat) (S : VS) : HP := HP.ex fun kl : Nat => HP.ex fun km : Nat => HP.all [HP.pure S.ok, Ob kv (.cells [.ptr (some ⟨.new kl, 0⟩), .int .i64 S.p, .int .i64 S.f, .map (some km)] 0), MapH km S.votes, LogH kl kd S.rows S.dead]
theorem VoterH.iff {kv kd : Nat} {S : VS} {r : List HP} {s : AS} : Hs G (VoterH kv kd S :: r) s ↔ ∃ kl km, S.ok ∧ Hs G (Ob kv (.cells [.ptr (some ⟨.new kl, 0⟩), .int .i64 S.p, .int .i64 S.f, .map (some km)] 0) :: MapH km S.votes :: LogH kl kd S.rows S.dead :: r) s := by
  unfold VoterH
  simp only [Hs.ex_iff, Hs.all_iff, List.cons_append, List.nil_append, Hs.pure_iff]

theorem vo_flat {a b c : Int} {v : V} (h : flatV v = true) : [V.int .i64 a, .int .i64 b, .int .i64 c, v].all flatV = true := by
  show (true && (true && (true && (flatV v && true)))) = true
  rw [h]; rfl
theorem nats_flat {v : V} {l : List Nat} {r : List HP} {s : AS} (h : Hs G (NatsH v l :: r) s) : flatV v = true := by
  obtain ⟨a, c, ex, rfl⟩ := slH_slice h; rfl
theorem map_len {km : Nat} {vs : List Vo} {r : List HP} {s : AS} (h : Hs G (MapH km vs :: r) s) (K : K0) : lenM (.map (some km)) s K = K (.int .i64 vs.length) s := by
  obtain ⟨L, clock, ⟨hok, rfl⟩, h1⟩ := MapH.iff.1 h
  have e : mapAt s (.map (some km)) = some (L.map ent, clock) := by simp [mapAt, h1.get]
  simp [lenM, mapLen, e]

def roomF (vs : List Vo) (n : Nat) : Bool := vs.any (fun y => numOf y == n) || decide (vs.length < 8)
theorem room_t {kv km : Nat} {a b c : V} {vs : List Vo} {n : Nat} {r : List HP} {s : AS} (h : Hs G (Ob kv (.cells [a, b, c, .map (some km)] 0) :: MapH km vs :: r) s) :
    Ens (fn43 (.ptr (some ⟨.new kv, 0⟩)) (.int .i64 n)) s fun u s' => u = .bool (roomF vs n) ∧ Hs G (Ob kv (.cells [a, b, c, .map (some km)] 0) :: MapH km vs :: r) s' := by
  intro K hK
  unfold fn43 fn43_q
  simp only [nilV_ptr, fp_ptr, optK_some, Nat.zero_add, ld_t h, List.getElem?_cons_zero, List.getElem?_cons_succ]
  obtain ⟨L, clock, ⟨hok, rfl⟩, h1⟩ := MapH.iff.1 (h.pull 1)
  rcases split_num (L := L) (n := n) with hn | ⟨A, t, B, rfl, rfl, hA⟩
  · rw [look_no h1 hn]
    have hb : (L.map (·.1)).any (fun y => numOf y == n) = false := by
      rw [List.any_eq_false]; intro y hy
      obtain ⟨t, ht, rfl⟩ := List.mem_map.1 hy
      simpa using hn t ht
    simp only [tupOk, ext0, List.getElem?_cons_zero, List.getElem?_cons_succ, optK_some]
    refine newC_t h1 fun k s2 h2 => ?_
    refine stAll_t h2 rfl rfl rfl fun s3 h3 => ?_
    have h4 := (MapH.iff.2 ⟨L, clock, ⟨hok, rfl⟩, h3.tail⟩)
    simp only [grd_false, nilV_ptr, fp_ptr, optK_some, Nat.zero_add, ld_t (h4.pull 1), List.getElem?_cons_zero, List.getElem?_cons_succ, map_len h4, bin_lss]
    refine hK _ _ ⟨?_, h4.swap⟩
    unfold roomF; rw [hb, Bool.false_or]
    congr 1
    by_cases hh : (L.map (·.1)).length < 8
    · rw [decide_eq_true hh, decide_eq_true (by omega)]
    · rw [decide_eq_false hh, decide_eq_false (by omega)]
  · rw [look_yes h1 hA]
    have hb : ((A ++ t :: B).map (·.1)).any (fun y => numOf y == numOf t.1) = true := by
      rw [List.any_eq_true]; exact ⟨t.1, by simp, by simp⟩
    simp only [tupOk, ext0, List.getElem?_cons_zero, List.getElem?_cons_succ, optK_some]
    refine newC_t h1 fun k s2 h2 => ?_
    have hfl : flatV t.2.1 = true := nats_flat (all_mid (l := A.map chH) (A := chH t) (r := B.map chH) (by simpa using h2.pull 2))
    unfold voV
    refine stAll_t h2 rfl rfl (vo_flat hfl) fun s3 h3 => ?_
    simp only [grd_true]
    refine hK _ _ ⟨by unfold roomF; rw [hb]; rfl, (MapH.iff.2 ⟨A ++ t :: B, clock, ⟨hok, rfl⟩, h3.tail⟩).swap⟩

theorem doesP_t {kv kd : Nat} {S : VS} {n : Nat} (hn : n ≤ 9007199254740991) {r : List HP} {s : AS} (h : Hs G (VoterH kv kd S :: r) s) :
    Ens (fn36 (.ptr (some ⟨.new kv, 0⟩)) (.iface 93 (.int .i64 n))) s fun u s' => u = .bool true ∧ Hs G (VoterH kv kd { S with p := max S.p n } :: r) s' := by
  intro K hK
  obtain ⟨kl, km, hok, h1⟩ := VoterH.iff.1 h
  unfold fn36 fn36_q
  refine box1_t rfl h1 fun kb s2 h2 => ?_
  have hm : foldV max2V (.int .i64 S.p) [.int .i64 n] = some (.int .i64 ((max S.p n : Nat) : Int)) := by
    simp only [foldV, max2V]; congr 2; split <;> omega
  simp only [assertV, if_true, optK_some, ext0, List.getElem?_cons_zero, List.getElem?_cons_succ, condV_true, ld_t h2, nilV_ptr, fp_ptr, Nat.zero_add, ld_t (h2.pull 1), hm]
  refine st_t (h2.pull 1) (by simp) rfl fun s3 h3 => ?_
  refine hK _ _ ⟨rfl, VoterH.iff.2 ⟨kl, km, ⟨by have := hok.p; simp only; omega, hok.f, hok.v, hok.vo, hok.r⟩, h3.drop 1⟩⟩

theorem doesF_t {kv kd : Nat} {S : VS} {n : Nat} (hn : n ≤ 9007199254740991) {r : List HP} {s : AS} (h : Hs G (VoterH kv kd S :: r) s) :
    Ens (fn36 (.ptr (some ⟨.new kv, 0⟩)) (.iface 96 (.int .i64 n))) s fun u s' => u = .bool true ∧ Hs G (VoterH kv kd { S with f := max S.f n, votes := S.votes.filter fun x => decide (max S.f n ≤ numOf x) } :: r) s' := by
  intro K hK
  obtain ⟨kl, km, hok, h1⟩ := VoterH.iff.1 h
  unfold fn36 fn36_q
  refine box1_t rfl h1 fun kb s2 h2 => ?_
  have hm : foldV max2V (.int .i64 S.f) [.int .i64 n] = some (.int .i64 ((max S.f n : Nat) : Int)) := by
    simp only [foldV, max2V]; congr 2; split <;> omega
  have hne : ¬ (96 = 93) := by decide
  simp only [assertV, if_true, if_neg hne, optK_some, ext0, List.getElem?_cons_zero, List.getElem?_cons_succ, condV_true, condV_false, ld_t h2, nilV_ptr, fp_ptr, Nat.zero_add, ld_t (h2.pull 1), hm]
  refine st_t (h2.pull 1) (by simp) rfl fun s3 h3 => ?_
  simp only [List.set_cons_zero, List.set_cons_succ] at h3
  simp only [ld_t (h3.pull 1), List.getElem?_cons_zero, optK_some, nilV_ptr, fp_ptr, Nat.zero_add, ld_t h3, List.getElem?_cons_succ]
  refine delF_t (by have := hok.f; omega) (by have := hok.v; omega) (h3.ord [2, 1, 0]) _ ?_
  rintro _ s4 ⟨rfl, h4⟩
  refine hK _ _ ⟨rfl, VoterH.iff.2 ⟨kl, km, ⟨hok.p, by have := hok.f; simp only; omega, ?_, ?_, hok.r⟩, (h4.ord [2, 0, 3, 1]).drop 3⟩⟩
  · have := List.length_filter_le (fun x => decide (max S.f n ≤ numOf x)) S.votes; have := hok.v; simp only; omega
  · exact fun x hx => hok.vo x (List.mem_filter.1 hx).1

theorem putVo_len (vs : List Vo) (x : Vo) (h : roomF vs (numOf x) = true) (hl : vs.length ≤ 8) : (putVo vs x).length ≤ 8 := by
  unfold putVo roomF at *
  split
  · simpa using hl
  · rename_i hno
    have : vs.any (fun y => numOf y == numOf x) = false := by
      rw [List.any_eq_false]; intro y hy e; exact hno ⟨y, hy, by simpa using e⟩
    rw [this] at h; simp at h ⊢; omega
theorem putVo_mem {vs : List Vo} {x y : Vo} (h : y ∈ putVo vs x) : y = x ∨ y ∈ vs := by
  unfold putVo at h
  split at h
  · obtain ⟨z, hz, rfl⟩ := List.mem_map.1 h
    split
    · exact .inl rfl
    · exact .inr hz
  · rcases List.mem_append.1 h with h | h
    · exact .inr h
    · exact .inl (by simpa using h)

/-- A vote that there is room for, of a number that isn't too old. -/
theorem doesV_t {kv kd : Nat} {S : VS} {x : Vo} (hx : x.ok) (hf : S.f ≤ numOf x) (hr : roomF S.votes (numOf x) = true) {v : V} {r : List HP} {s : AS} (h : Hs G (VoterH kv kd S :: NatsH v x.c.chain :: r) s) :
    Ens (fn36 (.ptr (some ⟨.new kv, 0⟩)) (.iface 92 (voV x v))) s fun u s' => u = .bool true ∧ Hs G (VoterH kv kd { S with p := max S.p x.b, votes := putVo S.votes x } :: r) s' := by
  intro K hK
  obtain ⟨kl, km, hok, h1⟩ := VoterH.iff.1 h
  have hfl : flatV v = true := nats_flat (h.pull 1)
  unfold fn36 fn36_q
  refine box1_t rfl h1 fun kb s2 h2 => ?_
  have hm : foldV max2V (.int .i64 S.p) [.int .i64 x.b] = some (.int .i64 ((max S.p x.b : Nat) : Int)) := by
    simp only [foldV, max2V]; congr 2; split <;> omega
  have hne : ¬ (92 = 93) := by decide
  have hne2 : ¬ (92 = 96) := by decide
  have hd : decide ((x.c.num : Int) < (S.f : Int)) = false := by unfold numOf at hf; simp; omega
  simp only [assertV, if_true, if_neg hne, if_neg hne2, optK_some, ext0, List.getElem?_cons_zero, List.getElem?_cons_succ, condV_true, condV_false]
  refine newC_t h2 fun k7 s3 h3 => ?_
  unfold voV
  refine stAll_t h3 rfl rfl (vo_flat hfl) fun s4 h4 => ?_
  simp only [fp_ptr, optK_some, Nat.zero_add, ld_t h4, List.getElem?_cons_zero, List.getElem?_cons_succ, ld_t (h4.pull 1), nilV_ptr, ld_t (h4.pull 2), bin_lss, hd, grd_false]
  refine room_t (n := numOf x) (h4.ord [2, 3]) _ ?_
  rintro _ s5 ⟨rfl, h5⟩

  simp only [hr, un_not, Bool.not_true, optK_some, condV_false, ld_t (h5.pull 3), List.getElem?_cons_zero, List.getElem?_cons_succ, nilV_ptr, fp_ptr, Nat.zero_add, ld_t h5, ld_t (h5.pull 2), hm]
  refine st_t h5 (by simp) rfl fun s6 h6 => ?_
  simp only [List.set_cons_zero, List.set_cons_succ] at h6
  simp only [ld_t (h6.pull 3), List.getElem?_cons_zero, List.getElem?_cons_succ, optK_some, nilV_ptr, fp_ptr, Nat.zero_add, ld_t h6, ld_t (h6.pull 2)]
  rw [ldAll_t (n := 4) (h6.pull 2) rfl]
  refine mset_t (x := x) (v := v) (h6.ord [1, 5]) fun s7 h7 => ?_
  refine hK _ _ ⟨rfl, VoterH.iff.2 ⟨kl, km, ⟨by have := hok.p; have := hx.b; simp only; omega, hok.f, putVo_len _ _ hr hok.v, fun y hy => ?_, hok.r⟩, (h7.ord [1, 0, 4]).drop 3 |>.drop 3⟩⟩
  rcases putVo_mem hy with rfl | hy
  · exact hx
  · exact hok.vo y hy
end Go.Proofs.Vt
end
section
/- The voter: rows' bytes, writes, above. -/
namespace Go.Proofs.Vt
open Go Go.Rx Go.Proofs
variable {G : Nat → Option (List V)}

def rowP (n : Nat) : List UInt8 := numB 1 1 ++ countB n
def rowF (n : Nat) : List UInt8 := numB 1 3 ++ countB n
def rowV (x : Vo) : List UInt8 := numB 1 2 ++ countB x.b ++ countB (confB x.c).length ++ confB x.c

theorem written_t {kw : Nat} {bs : List UInt8} {r : List HP} {s : AS} (h : Hs G (WrH kw bs :: r) s) (hl : bs.length ≤ 1099511627776) : Ens (fn89 (.ptr (some ⟨.new kw, 0⟩))) s fun u s' => Hs G (BytesH u bs :: r) s' := by
  intro K hK
  unfold fn89 fn89_q
  refine wBytes_t h hl _ ?_
  rintro _ s1 ⟨u, rfl, _, h1⟩
  simp only [ext0, List.getElem?_cons_zero, List.getElem?_cons_succ, optK_some]
  exact hK _ _ h1
theorem promiseB_t {n : Nat} (hn : n ≤ 9007199254740991) {r : List HP} {s : AS} (h : Hs G r s) : Ens (fn47 (.int .i64 n)) s fun u s' => Hs G (BytesH u (rowP n) :: r) s' := by
  intro K hK
  unfold fn47 fn47_q
  refine wNew_t h _ ?_
  rintro _ s1 ⟨kw, rfl, h1⟩
  refine wNum_t h1 (w := 1) (n := 1) (by omega) (by omega) rfl (by simp) _ ?_
  rintro _ s2 ⟨rfl, h2⟩
  refine wCount_t h2 hn (by simp) _ ?_
  rintro _ s3 ⟨rfl, h3⟩
  exact written_t h3 (by have := countB_len n; simp; omega) _ hK
theorem flooredB_t {n : Nat} (hn : n ≤ 9007199254740991) {r : List HP} {s : AS} (h : Hs G r s) : Ens (fn48 (.int .i64 n)) s fun u s' => Hs G (BytesH u (rowF n) :: r) s' := by
  intro K hK
  unfold fn48 fn48_q
  refine wNew_t h _ ?_
  rintro _ s1 ⟨kw, rfl, h1⟩
  refine wNum_t h1 (w := 1) (n := 3) (by omega) (by omega) rfl (by simp) _ ?_
  rintro _ s2 ⟨rfl, h2⟩
  refine wCount_t h2 hn (by simp) _ ?_
  rintro _ s3 ⟨rfl, h3⟩
  exact written_t h3 (by have := countB_len n; simp; omega) _ hK
theorem votedB_t {x : Vo} (hx : x.ok) {v : V} {r : List HP} {s : AS} (h : Hs G (NatsH v x.c.chain :: r) s) : Ens (fn49 (voV x v)) s fun u s' => Hs G (BytesH u (rowV x) :: NatsH v x.c.chain :: r) s' := by
  intro K hK
  unfold fn49 fn49_q voV
  refine boxA_t h fun k s1 h1 => ?_
  simp only [fp_ptr, optK_some, Nat.zero_add]
  rw [ldA_t h1 (by simp)]
  refine BytesConf_t hx.c (h1.pull 1) _ ?_
  rintro _ s2 ⟨u, rfl, h2⟩
  simp only [ext0, List.getElem?_cons_zero, List.getElem?_cons_succ, optK_some]
  have hk2 := h2.pull 2
  refine wNew_t h2 _ ?_
  rintro _ s3 ⟨kw, rfl, h3⟩
  have hk3 := h3.pull 3
  refine wNum_t h3 (w := 1) (n := 2) (by omega) (by omega) rfl (by simp) _ ?_
  rintro _ s4 ⟨rfl, h4⟩
  have hk4 := h4.pull 3
  simp only [ld_t hk4, List.getElem?_cons_zero, optK_some]
  rw [holds_t rfl hk3 (by rfl) (by simp [sameV, same0]), chkB_true, holds_t rfl hk2 (by rfl) (by simp [sameV, same0]), chkB_true]
  refine wCount_t h4 hx.b.2 (by simp) _ ?_
  rintro _ s5 ⟨rfl, h5⟩
  have hcl := confB_len hx.c
  have hb := countB_len x.b
  refine wText_t h5 reads_bytes (by omega) (by simp; omega) _ ?_
  rintro _ s6 ⟨rfl, h6⟩
  have hc2 := countB_len (confB x.c).length
  refine written_t h6 (by simp; omega) _ ?_
  intro y s7 h7
  simp only [List.nil_append] at h7
  exact hK _ _ ((h7.ord [0, 2]).drop 2 |>.drop 2)

abbrev EW : Env := E45 fn85 fn36 fn47 fn48 fn49
theorem m93 : meth 93 "sealchain/vote.bytes" = some 47 := by kernel_rfl
theorem m92 : meth 92 "sealchain/vote.bytes" = some 49 := by kernel_rfl
theorem inv93 (v : V) (s : AS) (K : K0) : invV EW (.iface 93 v) "sealchain/vote.bytes" [] s K = fn47 v s K := by
  show (match meth 93 "sealchain/vote.bytes" with | some g => EW.C g [v] s K | none => False) = _
  rw [m93]; rfl
theorem inv92 (v : V) (s : AS) (K : K0) : invV EW (.iface 92 v) "sealchain/vote.bytes" [] s K = fn49 v s K := by
  show (match meth 92 "sealchain/vote.bytes" with | some g => EW.C g [v] s K | none => False) = _
  rw [m92]; rfl

/-- What a row that is written leaves. -/
def VS.wrote (S : VS) (e : Int) (row : List UInt8) : VS := { S with rows := if e = 0 then S.rows ++ [row] else S.rows, dead := e == 130 }

/-- writes: what is common. -/
theorem writes_t (hG : ShaG G) {kv kd : Nat} {S : VS} {d : DS} {nt : Nat} {t : TypeId} {w : V} {row : List UInt8} {A : HP} {S' : VS} {r : List HP} {s : AS} (hdead : S.dead = false) (hrl : row.length ≤ 40000) (hrows : S.rows.length < 1000000) (hnt : nt < 1099511627776)
    (h : Hs G (VoterH kv kd S :: DiskH kd d nt :: A :: r) s)
    (hb : ∀ (r' : List HP) (s : AS), Hs G (A :: r') s → Ens (fun s K => invV EW (.iface t w) "sealchain/vote.bytes" [] s K) s fun u s' => Hs G (BytesH u row :: A :: r') s')
    (hd : ∀ (r' : List HP) (s : AS), Hs G (VoterH kv kd (S.wrote 0 row) :: A :: r') s → Ens (fn36 (.ptr (some ⟨.new kv, 0⟩)) (.iface t w)) s fun _ s' => Hs G (VoterH kv kd S' :: r') s') :
    Ens (fn45 (.ptr (some ⟨.new kv, 0⟩)) (.iface t w)) s fun u s' => u = .int .i64 (addE d (recB row)) ∧
      Hs G (VoterH kv kd (if addE d (recB row) = 0 then S' else S.wrote (addE d (recB row)) row) :: DiskH kd (addD d (recB row)) (nt + 1) :: r) s' := by
  intro K hK
  obtain ⟨kl, km, hok, h1⟩ := VoterH.iff.1 h
  unfold fn45 fn45_q
  simp only [nilV_ptr, fp_ptr, optK_some, Nat.zero_add, ld_t h1, List.getElem?_cons_zero]
  refine hb _ s (h1.pull 4) _ ?_
  intro u s2 h2
  rw [holds_t rfl (h2.pull 2) rfl (by simp [sameV, same0]), chkB_true]
  refine rows_one rfl h2 fun y s3 h3 => ?_
  rw [holds_t rfl (h3.pull 2) rfl (by simp [sameV, same0]), chkB_true]
  refine Add_t hG (h3.ord [4, 5, 0]) (by simp) (by simpa using hrl) (by simp) (by omega) hnt _ ?_
  intro v s4 h4
  rw [if_neg (by simp [hdead])] at h4
  have e1 : [row].flatMap recB = recB row := by simp
  rw [e1] at h4
  obtain ⟨rfl, h4⟩ := h4
  obtain ⟨e, he⟩ : ∃ e, e = addE d (recB row) := ⟨_, rfl⟩
  rw [← he] at h4 hK ⊢
  have hokw : ∀ e, (S.wrote e row).ok := fun e => ⟨hok.p, hok.f, hok.v, hok.vo, by
    show (if e = 0 then S.rows ++ [row] else S.rows).length ≤ 1000000
    split
    · rw [List.length_append, List.length_singleton]; omega
    · omega⟩
  rw [bin_neq, optK_some]
  by_cases h0 : e = 0
  · have d0 : (e != 0) = false := by simp [h0]
    simp only [d0, condV_false]
    rw [if_pos h0] at hK
    have h5 := VoterH.iff.2 ⟨kl, km, hokw e, h4.ord [3, 4, 0]⟩
    rw [h0] at h5
    refine hd _ s4 (h5.ord [0, 2]) _ ?_
    intro u6 s6 h6
    exact hK _ _ ⟨by rw [h0], h6⟩
  · have d0 : (e != 0) = true := by simp [h0]
    simp only [d0, condV_true]
    rw [if_neg h0] at hK
    have h5 := VoterH.iff.2 ⟨kl, km, hokw e, h4.ord [3, 4, 0]⟩
    exact hK _ _ ⟨rfl, h5.drop 2⟩

theorem writesP_t (hG : ShaG G) {kv kd : Nat} {S : VS} {d : DS} {nt n : Nat} (hn : n ≤ 9007199254740991) {r : List HP} {s : AS} (hdead : S.dead = false) (hrows : S.rows.length < 1000000) (hnt : nt < 1099511627776) (h : Hs G (VoterH kv kd S :: DiskH kd d nt :: r) s) :
    Ens (fn45 (.ptr (some ⟨.new kv, 0⟩)) (.iface 93 (.int .i64 n))) s fun u s' => u = .int .i64 (addE d (recB (rowP n))) ∧
      Hs G (VoterH kv kd (if addE d (recB (rowP n)) = 0 then { S.wrote 0 (rowP n) with p := max S.p n } else S.wrote (addE d (recB (rowP n))) (rowP n)) :: DiskH kd (addD d (recB (rowP n))) (nt + 1) :: r) s' := by
  have hp : Hs G (HP.pure True :: VoterH kv kd S :: DiskH kd d nt :: r) s := Hs.pure_iff.2 ⟨trivial, h⟩
  refine writes_t hG (A := HP.pure True) hdead (by have := countB_len n; simp [rowP]; omega) hrows hnt (hp.ord [1, 2, 0]) (fun r' s h K hK => ?_) fun r' s h K hK => ?_
  · show invV EW _ _ _ s K
    rw [inv93]; exact promiseB_t hn h _ hK
  · refine doesP_t hn (h.drop 1) _ ?_
    rintro _ s' ⟨_, h'⟩; exact hK _ _ h'
theorem writesV_t (hG : ShaG G) {kv kd : Nat} {S : VS} {d : DS} {nt : Nat} {x : Vo} (hx : x.ok) (hf : S.f ≤ numOf x) (hr : roomF S.votes (numOf x) = true) {v : V} {r : List HP} {s : AS} (hdead : S.dead = false) (hrows : S.rows.length < 1000000) (hnt : nt < 1099511627776) (h : Hs G (VoterH kv kd S :: DiskH kd d nt :: NatsH v x.c.chain :: r) s) :
    Ens (fn45 (.ptr (some ⟨.new kv, 0⟩)) (.iface 92 (voV x v))) s fun u s' => u = .int .i64 (addE d (recB (rowV x))) ∧
      Hs G (VoterH kv kd (if addE d (recB (rowV x)) = 0 then { S.wrote 0 (rowV x) with p := max S.p x.b, votes := putVo S.votes x } else S.wrote (addE d (recB (rowV x))) (rowV x)) :: DiskH kd (addD d (recB (rowV x))) (nt + 1) :: r) s' := by
  refine writes_t hG (A := NatsH v x.c.chain) hdead (by have := countB_len x.b; have := confB_len hx.c; have := countB_len (confB x.c).length; simp [rowV]; omega) hrows hnt h (fun r' s h K hK => ?_) fun r' s h K hK => ?_
  · show invV EW _ _ _ s K
    rw [inv92]; exact votedB_t hx h _ hK
  · refine doesV_t (S := S.wrote 0 (rowV x)) hx hf hr h _ ?_
    rintro _ s' ⟨_, h'⟩; exact hK _ _ h'

/-! ### small ones -/
theorem vnone_t {kv kl : Nat} {a b c : V} {r : List HP} {s : AS} (h : Hs G (Ob kv (.cells [.ptr (some ⟨.new kl, 0⟩), a, b, c] 0) :: r) s) (K : K0) : fn39 (.ptr (some ⟨.new kv, 0⟩)) s K = K (.bool false) s := by
  unfold fn39 fn39_q
  simp only [bin_ptr_nil, Option.isNone_some, optK_some, grd_false, nilV_ptr, fp_ptr, Nat.zero_add, ld_t h, List.getElem?_cons_zero]
theorem vlive_t {kv kd : Nat} {S : VS} {r : List HP} {s : AS} (h : Hs G (VoterH kv kd S :: r) s) (K : K0) : fn40 (.ptr (some ⟨.new kv, 0⟩)) s K = K (.int .i64 (if S.dead then 130 else 0)) s := by
  obtain ⟨kl, km, hok, h1⟩ := VoterH.iff.1 h
  unfold fn40 fn40_q
  rw [vnone_t h1]
  simp only [condV_false, optK_some, nilV_ptr, fp_ptr, Nat.zero_add, ld_t h1, List.getElem?_cons_zero]
  rw [lDead_t (h1.pull 2)]
  cases S.dead <;> rfl
theorem number_t (n : Int) (s : AS) (K : K0) : fn41 (.int .i64 n) s K = K (.bool (decide (1 ≤ n ∧ n ≤ 9007199254740991))) s := by
  unfold fn41 fn41_q
  by_cases h1 : n ≥ 1
  · have : 1 ≤ n := h1
    simp [this]
  · have : ¬ 1 ≤ n := h1
    simp [this]
theorem Promised_t {kv kd : Nat} {S : VS} {r : List HP} {s : AS} (h : Hs G (VoterH kv kd S :: r) s) (K : K0) : fn11 (.ptr (some ⟨.new kv, 0⟩)) s K = K (.int .i64 S.p) s := by
  obtain ⟨kl, km, hok, h1⟩ := VoterH.iff.1 h
  unfold fn11 fn11_q
  rw [vnone_t h1]
  simp only [condV_false, optK_some, nilV_ptr, fp_ptr, Nat.zero_add, ld_t h1, List.getElem?_cons_zero, List.getElem?_cons_succ]
theorem Floor_t {kv kd : Nat} {S : VS} {r : List HP} {s : AS} (h : Hs G (VoterH kv kd S :: r) s) (K : K0) : fn18 (.ptr (some ⟨.new kv, 0⟩)) s K = K (.int .i64 S.f) s := by
  obtain ⟨kl, km, hok, h1⟩ := VoterH.iff.1 h
  unfold fn18 fn18_q
  rw [vnone_t h1]
  simp only [condV_false, optK_some, nilV_ptr, fp_ptr, Nat.zero_add, ld_t h1, List.getElem?_cons_zero, List.getElem?_cons_succ]

theorem CloneI_t {v : V} {l : List Int} {r : List HP} {s : AS} (h : Hs G (IntsH v l :: r) s) (hl : l.length ≤ 1000000) : Ens (fn44 v) s fun u s' => (∃ n c ex, u = .slice n l.length c ex) ∧ Hs G (IntsH u l :: IntsH v l :: r) s' := by
  intro K hK
  obtain ⟨a, c, ex, rfl⟩ := slH_slice h
  have hc0 : a = none → c = 0 := fun e0 => by
    subst e0
    rcases slH_ob h with ⟨h0, ex', e⟩ | ⟨k, c', ex', cs, u, e, _⟩
    · injection e with _ _ e3 _
    · cases e
  unfold fn44 fn44_q
  rw [bin_slice_nil _ _ _ _ _ _ hc0]
  simp only [optK_some]
  cases a with
  | none =>
    simp only [Option.isNone_none, condV_true]
    rcases slH_ob h with ⟨h0, ex', e⟩ | ⟨k, c', ex', cs, u, e, _⟩
    · have : l = [] := List.eq_nil_of_length_eq_zero h0
      subst this
      cases e
      exact hK _ _ ⟨⟨_, _, _, rfl⟩, h.slNil 1 true⟩
    · cases e
  | some a =>
    simp only [Option.isNone_some, condV_false]
    rw [bsl0_ok _ _ rfl]
    have h1 := ob_slH (sz := 1) (n := 0) (c := 0) (ex := true) (xs := []) (h.alloc (.cells [] 0)) rfl rfl rfl (Nat.le_refl _) (by simp) (.inl rfl)
    obtain ⟨e1, e2⟩ := slH_src (h1.pull 1)
    refine app_t (by omega) h1 e1 e2 (by simp) (iV_flat l) (by omega) (by omega) fun v' s' h2 => ?_
    rw [List.nil_append, Nat.zero_add] at h2
    exact hK _ _ ⟨slH_slice h2, h2⟩
end Go.Proofs.Vt
end
section
/- The voter: the votes from a number on. -/
namespace Go.Proofs.Vt
open Go Go.Rx Go.Proofs
variable {G : Nat → Option (List V)}

abbrev VC := Vo × V
def cells4 (t : VC) : List V := [.int .i64 t.1.b, .int .i64 t.1.c.num, .int .i64 t.1.c.full, t.2]
def chC (t : VC) : HP := NatsH t.2 t.1.c.chain
def VotesH (u : V) (ws : List Vo) : HP := HP.ex fun L : List VC => HP.all [HP.pure (L.map (·.1) = ws), SlH 4 u L.length (L.flatMap cells4), HP.all (L.map chC)]
theorem VotesH.iff {u : V} {ws : List Vo} {r : List HP} {s : AS} : Hs G (VotesH u ws :: r) s ↔ ∃ L : List VC, L.map (·.1) = ws ∧ Hs G (SlH 4 u L.length (L.flatMap cells4) :: HP.all (L.map chC) :: r) s := by
  unfold VotesH
  simp only [Hs.ex_iff, Hs.all_iff (l := [_, _, _]), List.cons_append, List.nil_append, Hs.pure_iff]

theorem bsl4_t {a b c : Int} {v : V} (hv : flatV v = true) {r : List HP} {s : AS} (h : Hs G r s) {K : K0}
    (hK : ∀ x s' k, (∀ r' s'', Hs G (Ob k (.cells [.int .i64 a, .int .i64 b, .int .i64 c, v] 0) :: r') s'' → srcN 4 1 x s'' = some [.int .i64 a, .int .i64 b, .int .i64 c, v]) → srcLen x = some 1 → Hs G (Ob k (.cells [.int .i64 a, .int .i64 b, .int .i64 c, v] 0) :: r) s' → K x s') :
    bsl 4 [.int .i64 0, .int .i64 0, .int .i64 0, .slice none 0 0 true] 1 [(0, .agg [.int .i64 a, .int .i64 b, .int .i64 c, v])] s K := by
  have e : fillV (fun j => some (j * 4, 4)) (zeros [V.int .i64 0, .int .i64 0, .int .i64 0, .slice none 0 0 true] 1) [(0, .agg [.int .i64 a, .int .i64 b, .int .i64 c, v])] = some [.int .i64 a, .int .i64 b, .int .i64 c, v] := rfl
  unfold bsl
  simp only [e]
  rw [if_pos ⟨vo_flat hv, rfl⟩]
  refine newS_t h fun k s' h' => hK _ _ k (fun r' s'' h2 => ?_) rfl h'
  have := h2.get
  simp [srcN, ldN, cellsAt, this]

theorem above_loop {K : KX} {kv km clock from' : Nat} {lg a b kz : V} {L : List VE} {l : List Nat} {tm : Tm} {r : List HP} {s : AS} (hok : MapOk L clock) (hfr : from' ≤ 9007199254740991) (hl : l.length ≤ 8) (hmem : ∀ n ∈ l, ∃ t ∈ L, numOf t.1 = n)
    (h : Hs G (IntsH kz (zs l) :: Ob km (.map (L.map ent) clock) :: HP.all (L.map chH) :: Ob kv (.cells [lg, a, b, .map (some km)] 0) :: r) s)
    (t0 : tm.getD 0 .junk = .ptr (some ⟨.new kv, 0⟩)) (t1 : tm.getD 1 .junk = .int .i64 from') (t4 : tm.getD 4 .junk = .slice none 0 0 true) (t13 : tm.getD 13 .junk = kz) (t14 : tm.getD 14 .junk = .int .i64 l.length) (t15 : tm.getD 15 .junk = .int .i64 0)
    (hcl : ∀ t ∈ L, t.1.c.chain.length ≤ 4)
    (hK : ∀ tm' s' u (Lo : List VC), Lo.map (fun t => numOf t.1) = l.filter (fun n => decide (from' ≤ n)) → (∀ t ∈ Lo, ∃ t' ∈ L, t'.1 = t.1) →
      Hs G (SlH 4 u Lo.length (Lo.flatMap cells4) :: HP.all (Lo.map chC) :: IntsH kz (zs l) :: Ob km (.map (L.map ent) clock) :: HP.all (L.map chH) :: Ob kv (.cells [lg, a, b, .map (some km)] 0) :: r) s' → tm'.getD 4 .junk = u → K (.exit 0) tm' s') :
    loopN LOOPS (fun tm s K => fn46_L1 fn87 fn86 fn88 fn44 (tm.getD 0 .junk) (tm.getD 1 .junk) (tm.getD 4 .junk) (tm.getD 13 .junk) (tm.getD 14 .junk) (tm.getD 15 .junk) s K) tm s K := by
  refine loop_rule (fun m tm s1 => ∃ (i : Nat) (u : V) (Lo : List VC), m + i = l.length ∧ Lo.map (fun t => numOf t.1) = (l.take i).filter (fun n => decide (from' ≤ n)) ∧ (∀ t ∈ Lo, ∃ t' ∈ L, t'.1 = t.1) ∧
      Hs G (SlH 4 u Lo.length (Lo.flatMap cells4) :: HP.all (Lo.map chC) :: IntsH kz (zs l) :: Ob km (.map (L.map ent) clock) :: HP.all (L.map chH) :: Ob kv (.cells [lg, a, b, .map (some km)] 0) :: r) s1 ∧
      tm.getD 0 .junk = .ptr (some ⟨.new kv, 0⟩) ∧ tm.getD 1 .junk = .int .i64 from' ∧ tm.getD 4 .junk = u ∧ tm.getD 13 .junk = kz ∧ tm.getD 14 .junk = .int .i64 l.length ∧ tm.getD 15 .junk = .int .i64 (i : Nat)) ?_ (m := l.length) (by omega)
      ⟨0, .slice none 0 0 true, [], by omega, by simp, by simp, (all_nil h).slNil 4 true, t0, t1, t4, t13, t14, t15⟩
  rintro m tm s1 Kn ⟨i, u, Lo, hm, hnum, hin, h1, t0, t1, t4, t13, t14, t15⟩ hnext
  simp only [t0, t1, t4, t13, t14, t15]
  unfold fn46_L1
  by_cases hi : i < l.length
  · have d : decide ((i : Int) < (l.length : Int)) = true := by simp; omega
    have w : IntKind.i64.wrap ((i : Int) + 1) = ((i + 1 : Nat) : Int) := by rw [wrap64 (by omega) (by omega)]; omega
    obtain ⟨n, hn⟩ : ∃ n, l[i]? = some n := ⟨l[i], by simp [hi]⟩
    have hx : ((zs l).map iV)[i]? = some (iV (n : Nat)) := by simp [hn]
    obtain ⟨p, e1, l1⟩ := elem1_t (h1.pull 2) hx .i64
    have hn' : n ∈ l := List.mem_of_getElem? hn
    obtain ⟨A, t, B, rfl, rfl, hA⟩ : ∃ A t B, L = A ++ t :: B ∧ numOf t.1 = n ∧ ∀ u ∈ A, numOf u.1 ≠ n := by
      rcases split_num (L := L) (n := n) with hh | hh
      · obtain ⟨t, ht, e⟩ := hmem n hn'; exact absurd e (hh t ht)
      · exact hh
    have eL : (A ++ t :: B).map chH = A.map chH ++ chH t :: B.map chH := by simp
    rw [eL] at h1
    have hLo : Lo.length ≤ 8 := by
      have := congrArg List.length hnum
      have h2 := List.length_filter_le (fun n => decide (from' ≤ n)) (l.take i)
      simp at this h2; omega
    rw [bin_lss, optK_some, d, condV_true, e1, optK_some, l1, nilV_ptr, optK_some, fp_ptr, optK_some, ld_t (h1.pull 5)]
    simp only [Nat.zero_add, List.getElem?_cons_zero, List.getElem?_cons_succ, optK_some]
    unfold iV
    rw [look_yes (h1.pull 3) hA]
    unfold tupOk
    refine newC_t h1 fun k7 s2 h2 => ?_
    have hm2 : Hs G (chH t :: HP.all (A.map chH ++ B.map chH) :: _) s2 := all_mid (h2.pull 5)
    have hfl : flatV t.2.1 = true := nats_flat hm2
    unfold voV
    refine stAll_t h2 rfl rfl (vo_flat hfl) fun s3 h3 => ?_
    have etake : (l.take (i + 1)).filter (fun n => decide (from' ≤ n)) = (l.take i).filter (fun n => decide (from' ≤ n)) ++ (if from' ≤ numOf t.1 then [numOf t.1] else []) := by
      rw [List.take_add_one, hn, List.filter_append]; congr 1
      by_cases hh : from' ≤ numOf t.1 <;> simp [hh]
    by_cases hge : from' ≤ numOf t.1
    · have d2 : decide (((numOf t.1 : Nat) : Int) ≥ (from' : Int)) = true := by simp; omega
      rw [if_pos hge] at etake
      simp only [bin_geq, optK_some, d2, condV_true, fp_ptr, Nat.zero_add, ld_t h3, List.getElem?_cons_zero, List.getElem?_cons_succ]
      have h4 : Hs G (chH t :: HP.all (A.map chH ++ B.map chH) :: _) s3 := all_mid (h3.pull 5)
      refine CloneI_t h4 (by have := hcl t (by simp); simp; omega) _ ?_
      rintro v5 s5 ⟨⟨va, vc, vex, rfl⟩, h5⟩
      refine st_t (h5.pull 3) (by simp) rfl fun s6 h6 => ?_
      simp only [List.set_cons_zero, List.set_cons_succ] at h6
      rw [ldAll_t (n := 4) h6 rfl]
      refine bsl4_t rfl h6 fun x s8 k8 hx8 hxl8 h8 => ?_
      have hsrc := hx8 _ _ h8
      refine app_t (by omega) (h8.pull 5) hxl8 hsrc rfl (vo_flat rfl) (by omega) (by omega) fun v9 s9 h9 => ?_
      simp only [bin_add, optK_some, w, nx_nrm]
      refine hnext (l.length - (i + 1)) _ _ (by omega) ⟨i + 1, v9, Lo ++ [(t.1, .slice va (zs t.1.c.chain).length vc vex)], by omega, ?_, ?_, ?_, rfl, rfl, rfl, rfl, rfl, rfl⟩
      · rw [etake, ← hnum]; simp
      · intro z hz
        rcases List.mem_append.1 hz with hz | hz
        · exact hin z hz
        · simp at hz; exact ⟨t, by simp, by rw [hz]⟩
      · rw [List.length_append, List.flatMap_append, List.map_append]
        rw [eL]
        have h10 := (h9.ord [4, 5, 0, 6, 3, 7, 8, 9]).drop 8 |>.drop 8
        have h11 := all_unmid h10
        have h12 := all_snoc.2 (h11.ord [2, 3, 1, 0, 4, 5, 6])
        exact h12.ord [1, 0, 3, 4, 2, 5]
    · have d2 : decide (((numOf t.1 : Nat) : Int) ≥ (from' : Int)) = false := by simp; omega
      rw [if_neg hge, List.append_nil] at etake
      simp only [bin_geq, optK_some, d2, condV_false, bin_add, w, nx_nrm]
      exact hnext (l.length - (i + 1)) _ _ (by omega) ⟨i + 1, u, Lo, by omega, by rw [etake, hnum], hin, by rw [eL]; exact h3.tail, rfl, rfl, rfl, rfl, rfl, rfl⟩
  · have d : decide ((i : Int) < (l.length : Int)) = false := by simp; omega
    have : l.take i = l := List.take_of_length_le (by omega)
    rw [this] at hnum
    simp only [bin_lss, optK_some, d, condV_false, nx_exit]
    exact hK _ _ u Lo hnum hin h1 rfl

theorem nodup_inj : ∀ {vs : List Vo}, (vs.map numOf).Nodup → ∀ x ∈ vs, ∀ y ∈ vs, numOf x = numOf y → x = y
  | [], _, _, h, _, _, _ => by simp at h
  | a :: l, hn, x, hx, y, hy, e => by
    rw [List.map_cons, List.nodup_cons] at hn
    rcases List.mem_cons.1 hx with h1 | h1 <;> rcases List.mem_cons.1 hy with h2 | h2
    · rw [h1, h2]
    · rw [h1] at e; exact absurd (e ▸ List.mem_map_of_mem (f := numOf) h2) hn.1
    · rw [h2] at e; exact absurd (e ▸ List.mem_map_of_mem (f := numOf) h1) hn.1
    · exact nodup_inj hn.2 x h1 y h2 e
theorem nodup_of_map {vs : List Vo} (h : (vs.map numOf).Nodup) : vs.Nodup := by
  rw [List.nodup_iff_pairwise_ne, List.pairwise_map] at h
  rw [List.nodup_iff_pairwise_ne]
  exact h.imp fun h e => h (by rw [e])

/-- These are the votes from a number on, by rising numbers. -/
structure Told (vs : List Vo) (from' : Nat) (ws : List Vo) : Prop where
  up : ws.Pairwise (fun a b => numOf a < numOf b)
  perm : ws.Perm (vs.filter fun x => decide (from' ≤ numOf x))

theorem nats_perm {l' : List Int} {l : List Nat} (hp : l'.Perm (zs l)) (hs : l'.Pairwise (· ≤ ·)) : ∃ k : List Nat, l' = zs k ∧ k.Perm l ∧ k.Pairwise (· ≤ ·) := by
  have e : zs (l'.map Int.toNat) = l' := by
    rw [zs, List.map_map]
    have : ∀ z ∈ l', ((fun n : Nat => (n : Int)) ∘ Int.toNat) z = z := fun z hz => by
      obtain ⟨n, _, rfl⟩ := List.mem_map.1 (hp.mem_iff.1 hz)
      rfl
    rw [List.map_congr_left this, List.map_id']
  refine ⟨l'.map Int.toNat, e.symm, ?_, ?_⟩
  · have := hp.map Int.toNat
    rw [zs, List.map_map] at this
    have e2 : (Int.toNat ∘ fun n : Nat => (n : Int)) = id := rfl
    rw [e2, List.map_id] at this; exact this
  · rw [← e, zs, List.pairwise_map] at hs
    exact hs.imp fun h => by omega

theorem above_t {kv kd : Nat} {S : VS} {from' : Nat} (hfr : from' ≤ 9007199254740991) {r : List HP} {s : AS} (h : Hs G (VoterH kv kd S :: r) s) :
    Ens (fn46 (.ptr (some ⟨.new kv, 0⟩)) (.int .i64 from')) s fun u s' => ∃ ws, Told S.votes from' ws ∧ Hs G (VotesH u ws :: VoterH kv kd S :: r) s' := by
  intro K hK
  obtain ⟨kl, km, hok, h1⟩ := VoterH.iff.1 h
  unfold fn46 fn46_q
  rw [nilV_ptr, optK_some, fp_ptr, optK_some, ld_t h1]
  simp only [Nat.zero_add, List.getElem?_cons_zero, List.getElem?_cons_succ, optK_some]
  refine Keys_t (v := .map (some km)) rfl h1 _ ?_
  rintro _ s2 ⟨k2, rfl, h2⟩
  obtain ⟨L, clock, ⟨hm, hL⟩, h3⟩ := MapH.iff.1 (h2.pull 2)
  have hnum : L.map (fun t => numOf t.1) = S.votes.map numOf := by rw [← hL, List.map_map]; rfl
  have hLl : L.length = S.votes.length := by rw [← hL, List.length_map]
  have hv8 := hok.v
  have hes : (L.map ent).map (·.1) = (zs (L.map fun t => numOf t.1)).map iV := by simp [ent, numOf]
  have hko : KeysOk (L.map ent) clock := by
    refine ⟨fun e he => ?_, ?_, ?_, fun e he => ?_, by rw [List.length_map]; omega⟩
    · obtain ⟨t, ht, rfl⟩ := List.mem_map.1 he
      have := (hok.vo t.1 (by rw [← hL]; exact List.mem_map_of_mem ht)).c.num
      simp only [ent, iV, isInt64, Bool.and_eq_true, decide_eq_true_eq]
      omega
    · have := hm.num
      rw [List.map_map]
      have e2 : ((fun e : V × V × Nat => zOfV e.1) ∘ ent) = fun t : VE => ((numOf t.1 : Nat) : Int) := rfl
      rw [e2]
      rw [List.nodup_iff_pairwise_ne, List.pairwise_map] at this ⊢
      exact this.imp fun h e => h (by omega)
    · have := hm.st
      rw [List.map_map]; exact this
    · obtain ⟨t, ht, rfl⟩ := List.mem_map.1 he
      exact hm.lt t ht
  refine SortedFunc_t hes hko (by simp; omega) (h3.ord [2, 0]) _ ?_
  rintro kz s4 ⟨l', hs', hp', h4⟩
  obtain ⟨l, rfl, hp, hs⟩ := nats_perm hp' hs'
  obtain ⟨ka, kc, kex, rfl⟩ := slH_slice h4
  have hll : l.length = L.length := by rw [hp.length_eq, List.length_map]
  have hzl : (zs l).length = l.length := by simp
  simp only [lenV_slice, optK_some]
  have hvo : ∀ t ∈ L, t.1 ∈ S.votes := fun t ht => by rw [← hL]; exact List.mem_map_of_mem ht
  refine above_loop (l := l) (from' := from') hm hfr (by omega) (fun n hn => ?_) (h4.ord [0, 1, 2, 3]) rfl rfl rfl rfl (by show V.int .i64 ((zs l).length : Nat) = _; rw [hzl]) rfl (fun t ht => (hok.vo _ (hvo t ht)).c.len.2) ?_
  · obtain ⟨t, ht, e⟩ := List.mem_map.1 (hp.mem_iff.1 hn)
    exact ⟨t, ht, e⟩
  intro tm s5 u Lo hn5 hin h5 t4
  simp only [exX_exit, beq_self_eq_true, exB_true, t4]
  have hnd : (S.votes.map numOf).Nodup := by rw [← hnum]; exact hm.num
  have hlnd : l.Nodup := hp.nodup_iff.2 hm.num
  have hlt : l.Pairwise (· < ·) := (hs.and hlnd).imp fun ⟨h1, h2⟩ => by omega
  have hws : (Lo.map (·.1)).map numOf = l.filter (fun n => decide (from' ≤ n)) := by rw [List.map_map]; exact hn5
  have hup : (Lo.map (·.1)).Pairwise (fun a b => numOf a < numOf b) := by
    have := hlt.filter (fun n => decide (from' ≤ n))
    rw [← hws, List.pairwise_map] at this; exact this
  refine hK _ _ ⟨Lo.map (·.1), ⟨hup, ?_⟩, ?_⟩
  · have hwn : ((Lo.map (·.1)).map numOf).Nodup := by rw [hws]; exact hlnd.filter _
    rw [List.perm_ext_iff_of_nodup (nodup_of_map hwn) ((nodup_of_map hnd).filter _)]
    intro x
    have hsub : ∀ y ∈ Lo.map (·.1), y ∈ S.votes := fun y hy => by
      obtain ⟨t, ht, rfl⟩ := List.mem_map.1 hy
      obtain ⟨t', ht', e⟩ := hin t ht
      rw [← e]; exact hvo t' ht'
    constructor
    · intro hx
      have h1 : numOf x ∈ (Lo.map (·.1)).map numOf := List.mem_map_of_mem hx
      rw [hws, List.mem_filter] at h1
      exact List.mem_filter.2 ⟨hsub x hx, h1.2⟩
    · intro hx
      rw [List.mem_filter] at hx
      have h1 : numOf x ∈ l := hp.mem_iff.2 (by rw [hnum]; exact List.mem_map_of_mem hx.1)
      have h2 : numOf x ∈ (Lo.map (·.1)).map numOf := by rw [hws]; exact List.mem_filter.2 ⟨h1, hx.2⟩
      obtain ⟨y, hy, e⟩ := List.mem_map.1 h2
      rw [nodup_inj hnd x hx.1 y (hsub y hy) e.symm]; exact hy
  · have h6 := MapH.iff.2 ⟨L, clock, ⟨hm, hL⟩, h5.ord [3, 4]⟩
    have h7 := VoterH.iff.2 ⟨kl, km, hok, h6.ord [4, 0, 5]⟩
    have h8 := VotesH.iff.2 ⟨Lo, rfl, h7.ord [1, 2, 0]⟩
    exact (h8.drop 2)
end Go.Proofs.Vt
end
section
/- The voter's calls. -/
namespace Go.Proofs.Vt
open Go Go.Rx Go.Proofs
variable {G : Nat → Option (List V)}

theorem VotesH.nil {r : List HP} {s : AS} (h : Hs G r s) (ex : Bool) : Hs G (VotesH (.slice none 0 0 ex) [] :: r) s := VotesH.iff.2 ⟨[], rfl, (all_nil h).slNil 4 ex⟩
theorem DiskH.mono {kd : Nat} {d : DS} {nt nt' : Nat} {r : List HP} {s : AS} (h : Hs G (DiskH kd d nt :: r) s) (hn : nt ≤ nt') (hm : nt' ≤ 1099511627776) : Hs G (DiskH kd d nt' :: r) s := by
  obtain ⟨vb, hf, vt, n, xt, hok, h1⟩ := DiskH.iff.1 h
  exact DiskH.mk h1 ⟨by have := hok.n; omega, hm, hok.sy, hok.bs⟩

def prepE (S : VS) (d : DS) (b : Nat) : Int := if b ≤ S.p then 0 else addE d (recB (rowP b))
def prepS (S : VS) (d : DS) (b : Nat) : VS := if b ≤ S.p then S else if addE d (recB (rowP b)) = 0 then { S.wrote 0 (rowP b) with p := max S.p b } else S.wrote (addE d (recB (rowP b))) (rowP b)
def prepD (S : VS) (d : DS) (b : Nat) : DS := if b ≤ S.p then d else addD d (recB (rowP b))
def prepOk (S : VS) (d : DS) (b : Nat) : Bool := decide (S.p ≤ b) && (prepE S d b == 0)

theorem prepS_votes (S : VS) (d : DS) (b : Nat) : (prepS S d b).votes = S.votes := by
  unfold prepS; split
  · rfl
  · split <;> rfl

theorem Prepare_t (hG : ShaG G) {kv kd : Nat} {S : VS} {d : DS} {nt b n : Nat} (hb : 1 ≤ b ∧ b ≤ 9007199254740991) (hn : 1 ≤ n ∧ n ≤ 9007199254740991) {r : List HP} {s : AS} (hdead : S.dead = false) (hrows : S.rows.length < 1000000) (hnt : nt < 1099511627776)
    (h : Hs G (VoterH kv kd S :: DiskH kd d nt :: r) s) :
    Ens (fn14 (.ptr (some ⟨.new kv, 0⟩)) (.int .i64 b) (.int .i64 n)) s fun u s' => ∃ v ws, u = .tuple [v, .bool (prepOk S d b), .int .i64 (prepE S d b)] ∧ (prepOk S d b = true → Told S.votes n ws) ∧ (prepOk S d b = false → ws = []) ∧
      Hs G (VotesH v ws :: VoterH kv kd (prepS S d b) :: DiskH kd (prepD S d b) (nt + 1) :: r) s' := by
  intro K hK
  unfold fn14 fn14_q
  rw [vlive_t h, hdead]
  have nb : decide ((1 : Int) ≤ (b : Int) ∧ (b : Int) ≤ 9007199254740991) = true := by simp; omega
  have nn : decide ((1 : Int) ≤ (n : Int) ∧ (n : Int) ≤ 9007199254740991) = true := by simp; omega
  simp only [Bool.false_eq_true, if_false, bin_neq, optK_some, bne_self_eq_false, condV_false, number_t, nb, nn, un_not, Bool.not_true]
  obtain ⟨kl, km, hok, h1⟩ := VoterH.iff.1 h
  simp only [nilV_ptr, optK_some, fp_ptr, Nat.zero_add, ld_t h1, List.getElem?_cons_zero, List.getElem?_cons_succ, bin_lss, bin_gtr]
  by_cases hlo : b < S.p
  · have d1 : decide ((b : Int) < (S.p : Int)) = true := by simp; omega
    simp only [d1, condV_true]
    have e1 : prepE S d b = 0 := by unfold prepE; rw [if_pos (by omega)]
    have e2 : prepS S d b = S := by unfold prepS; rw [if_pos (by omega)]
    have e3 : prepD S d b = d := by unfold prepD; rw [if_pos (by omega)]
    have e4 : prepOk S d b = false := by unfold prepOk; simp; omega
    rw [e1, e2, e3, e4] at hK
    refine hK _ _ ⟨_, [], rfl, fun h => by simp at h, fun _ => rfl, VotesH.nil ?_ true⟩
    exact ((DiskH.mono (h.pull 1) (Nat.le_succ _) (by omega)).swap)
  · have d1 : decide ((b : Int) < (S.p : Int)) = false := by simp; omega
    simp only [d1, condV_false]
    by_cases hhi : b > S.p
    · have d2 : decide ((b : Int) > (S.p : Int)) = true := by simp; omega
      simp only [d2, condV_true]
      refine writesP_t hG hb.2 hdead hrows hnt h _ ?_
      rintro _ s2 ⟨rfl, h2⟩
      have e1 : prepE S d b = addE d (recB (rowP b)) := by unfold prepE; rw [if_neg (by omega)]
      have e3 : prepD S d b = addD d (recB (rowP b)) := by unfold prepD; rw [if_neg (by omega)]
      have e2 : prepS S d b = if addE d (recB (rowP b)) = 0 then { S.wrote 0 (rowP b) with p := max S.p b } else S.wrote (addE d (recB (rowP b))) (rowP b) := by unfold prepS; rw [if_neg (by omega)]
      rw [← e2, ← e3] at h2
      rw [← e1]
      obtain ⟨e, he⟩ : ∃ e, e = prepE S d b := ⟨_, rfl⟩
      rw [← he] at hK ⊢
      rw [bin_neq, optK_some]
      by_cases h0 : e = 0
      · have d0 : (e != 0) = false := by simp [h0]
        have e4 : prepOk S d b = true := by unfold prepOk; rw [← he, h0]; simp; omega
        rw [d0, condV_false]
        refine above_t hn.2 h2 _ ?_
        rintro v s3 ⟨ws, hw, h3⟩
        rw [prepS_votes] at hw
        refine hK _ _ ⟨v, ws, by rw [e4, h0], fun _ => hw, fun h => by rw [e4] at h; simp at h, h3⟩
      · have d0 : (e != 0) = true := by simp [h0]
        have e4 : prepOk S d b = false := by unfold prepOk; rw [← he]; simp [h0]
        rw [d0, condV_true]
        exact hK _ _ ⟨_, [], by rw [e4], fun h => by rw [e4] at h; simp at h, fun _ => rfl, VotesH.nil h2 true⟩
    · have d2 : decide ((b : Int) > (S.p : Int)) = false := by simp; omega
      simp only [d2, condV_false]
      have e1 : prepE S d b = 0 := by unfold prepE; rw [if_pos (by omega)]
      have e2 : prepS S d b = S := by unfold prepS; rw [if_pos (by omega)]
      have e3 : prepD S d b = d := by unfold prepD; rw [if_pos (by omega)]
      have e4 : prepOk S d b = true := by unfold prepOk; rw [e1]; simp; omega
      rw [e1, e2, e3, e4] at hK
      refine above_t hn.2 h _ ?_
      rintro v s3 ⟨ws, hw, h3⟩
      exact hK _ _ ⟨v, ws, rfl, fun _ => hw, fun h => by simp at h, (DiskH.mono (h3.pull 2) (Nat.le_succ _) (by omega)).ord [1, 2, 0]⟩

def accGo (S : VS) (x : Vo) : Bool := decide (S.p ≤ x.b ∧ S.f ≤ numOf x) && roomF S.votes (numOf x)
def accE (S : VS) (d : DS) (x : Vo) : Int := if S.p ≤ x.b ∧ S.f ≤ numOf x then (if roomF S.votes (numOf x) = true then addE d (recB (rowV x)) else 5) else 0
def accS (S : VS) (d : DS) (x : Vo) : VS := if accGo S x = true then (if addE d (recB (rowV x)) = 0 then { S.wrote 0 (rowV x) with p := max S.p x.b, votes := putVo S.votes x } else S.wrote (addE d (recB (rowV x))) (rowV x)) else S
def accD (S : VS) (d : DS) (x : Vo) : DS := if accGo S x = true then addD d (recB (rowV x)) else d
def accOk (S : VS) (d : DS) (x : Vo) : Bool := accGo S x && (accE S d x == 0)

theorem Accept_t (hG : ShaG G) {kv kd : Nat} {S : VS} {d : DS} {nt : Nat} {x : Vo} (hx : x.ok) {v : V} {r : List HP} {s : AS} (hdead : S.dead = false) (hrows : S.rows.length < 1000000) (hnt : nt < 1099511627776)
    (h : Hs G (VoterH kv kd S :: DiskH kd d nt :: NatsH v x.c.chain :: r) s) :
    Ens (fn12 (.ptr (some ⟨.new kv, 0⟩)) (.int .i64 x.b) (cfV x.c v)) s fun u s' => u = .tuple [.bool (accOk S d x), .int .i64 (accE S d x)] ∧
      Hs G (VoterH kv kd (accS S d x) :: DiskH kd (accD S d x) (nt + 1) :: r) s' := by
  intro K hK
  have hxb := hx.b
  have hfl : flatV v = true := nats_flat (h.pull 2)
  obtain ⟨va, vc, vex, rfl⟩ := slH_slice (h.pull 2)
  unfold fn12 fn12_q cfV
  refine boxA_t h fun k s1 h1 => ?_
  rw [vlive_t (h1.pull 1), hdead]
  have nb : decide ((1 : Int) ≤ (x.b : Int) ∧ (x.b : Int) ≤ 9007199254740991) = true := by simp; omega
  simp only [Bool.false_eq_true, if_false, bin_neq, optK_some, bne_self_eq_false, condV_false, number_t, nb, un_not, Bool.not_true]
  rw [ldAll_t (n := 3) h1 rfl]
  refine CheckConf_t hx.c (h1.pull 3) _ ?_
  rintro _ s2 ⟨rfl, h2⟩
  have h2' := h2.ord [2, 3, 0, 1]
  obtain ⟨kl, km, hok, h3⟩ := VoterH.iff.1 h2'
  have hk := h2.pull 1
  simp only [bin_neq, optK_some, bne_self_eq_false, condV_false, nilV_ptr, fp_ptr, Nat.zero_add, ld_t h3, List.getElem?_cons_zero, List.getElem?_cons_succ, bin_lss]
  have keepD : ∀ {r' s'}, Hs G (VoterH kv kd S :: DiskH kd d nt :: r') s' → Hs G (VoterH kv kd S :: DiskH kd d (nt + 1) :: r') s' := fun h => (DiskH.mono (h.pull 1) (Nat.le_succ _) (by omega)).swap
  by_cases hlo : x.b < S.p
  · have d1 : decide ((x.b : Int) < (S.p : Int)) = true := by simp; omega
    simp only [d1, condV_true]
    have e0 : accGo S x = false := by unfold accGo; simp; omega
    have e1 : accE S d x = 0 := by unfold accE; rw [if_neg (by omega)]
    have e2 : accS S d x = S := by unfold accS; rw [e0]; rfl
    have e3 : accD S d x = d := by unfold accD; rw [e0]; rfl
    have e4 : accOk S d x = false := by unfold accOk; rw [e0]; rfl
    rw [e1, e2, e3, e4] at hK
    exact hK _ _ ⟨rfl, keepD (h2'.drop 2 |>.drop 2)⟩
  · have d1 : decide ((x.b : Int) < (S.p : Int)) = false := by simp; omega
    simp only [d1, condV_false, ld_t hk, List.getElem?_cons_zero, List.getElem?_cons_succ, optK_some, ld_t h3, bin_lss]
    by_cases hfl2 : numOf x < S.f
    · have d2 : decide ((x.c.num : Int) < (S.f : Int)) = true := by unfold numOf at hfl2; simp; omega
      simp only [d2, condV_true]
      have e0 : accGo S x = false := by unfold accGo; simp; omega
      have e1 : accE S d x = 0 := by unfold accE; rw [if_neg (by omega)]
      have e2 : accS S d x = S := by unfold accS; rw [e0]; rfl
      have e3 : accD S d x = d := by unfold accD; rw [e0]; rfl
      have e4 : accOk S d x = false := by unfold accOk; rw [e0]; rfl
      rw [e1, e2, e3, e4] at hK
      exact hK _ _ ⟨rfl, keepD (h2'.drop 2 |>.drop 2)⟩
    · have d2 : decide ((x.c.num : Int) < (S.f : Int)) = false := by unfold numOf at hfl2; simp; omega
      simp only [d2, condV_false]
      refine room_t (n := numOf x) (h3.ord [0, 1]) _ ?_
      rintro _ s4 ⟨rfl, h4⟩
      have h4' := VoterH.iff.2 ⟨kl, km, hok, h4⟩
      have hk4 := h4'.pull 3
      rw [un_not, optK_some]
      cases hroom : roomF S.votes (numOf x) with
      | false =>
        rw [Bool.not_false, condV_true]
        have e0 : accGo S x = false := by unfold accGo; rw [hroom]; simp
        have e1 : accE S d x = 5 := by unfold accE; rw [if_pos (by omega), hroom]; rfl
        have e2 : accS S d x = S := by unfold accS; rw [e0]; rfl
        have e3 : accD S d x = d := by unfold accD; rw [e0]; rfl
        have e4 : accOk S d x = false := by unfold accOk; rw [e0]; rfl
        rw [e1, e2, e3, e4] at hK
        exact hK _ _ ⟨rfl, keepD (h4'.drop 2 |>.drop 2)⟩
      | true =>
        rw [Bool.not_true, condV_false, ld_t hk4]
        simp only [List.getElem?_cons_zero, List.getElem?_cons_succ, optK_some]
        have hclen := hx.c.len
        refine CloneI_t (h4'.pull 2) (by simp; omega) _ ?_
        rintro _ s5 ⟨⟨ua, uc, uex, rfl⟩, h5⟩
        refine st_t (h5.pull 4) (by simp) rfl fun s6 h6 => ?_
        simp only [List.set_cons_zero, List.set_cons_succ] at h6
        rw [ldAll_t (n := 3) h6 rfl]
        have hag : aggO (fillV (placeS [(0, 3), (1, 37)] ty) [V.int .i64 0, .int .i64 0, .int .i64 0, .slice none 0 0 true] [(0, .int .i64 x.b), (1, .agg [.int .i64 x.c.num, .int .i64 x.c.full, .slice ua (zs x.c.chain).length uc uex])]) =
            some (voV x (.slice ua (zs x.c.chain).length uc uex)) := by
          simp [fillV, placeS, cellsV, spl, aggO, voV]
        rw [hag, optK_some]
        refine writesV_t hG hx (by omega) hroom hdead hrows hnt (h6.ord [3, 4, 1]) _ ?_
        rintro _ s7 ⟨rfl, h7⟩
        have e0 : accGo S x = true := by unfold accGo; rw [hroom]; simp; omega
        have e1 : accE S d x = addE d (recB (rowV x)) := by unfold accE; rw [if_pos (by omega), if_pos hroom]
        have e3 : accD S d x = addD d (recB (rowV x)) := by unfold accD; rw [if_pos e0]
        have e2 : accS S d x = if addE d (recB (rowV x)) = 0 then { S.wrote 0 (rowV x) with p := max S.p x.b, votes := putVo S.votes x } else S.wrote (addE d (recB (rowV x))) (rowV x) := by unfold accS; rw [if_pos e0]
        have e4 : accOk S d x = (addE d (recB (rowV x)) == 0) := by unfold accOk; rw [e0, e1]; rfl
        rw [e4, e1, e2, e3] at hK
        rw [bin_eql, optK_some]
        exact hK _ _ ⟨rfl, (h7.drop 2 |>.drop 2)⟩

theorem Votes_t {kv kd : Nat} {S : VS} {r : List HP} {s : AS} (h : Hs G (VoterH kv kd S :: r) s) :
    Ens (fn16 (.ptr (some ⟨.new kv, 0⟩))) s fun u s' => ∃ ws, Told S.votes S.f ws ∧ Hs G (VotesH u ws :: VoterH kv kd S :: r) s' := by
  intro K hK
  obtain ⟨kl, km, hok, h1⟩ := VoterH.iff.1 h
  unfold fn16 fn16_q
  rw [vnone_t h1]
  simp only [condV_false, optK_some, nilV_ptr, fp_ptr, Nat.zero_add, ld_t h1, List.getElem?_cons_zero, List.getElem?_cons_succ]
  exact above_t hok.f h _ hK
end Go.Proofs.Vt
end
section
/- The voter: Forget. -/
namespace Go.Proofs.Vt
open Go Go.Rx Go.Proofs
variable {G : Nat → Option (List V)}

theorem push_row {v x : V} {rows : List (List UInt8)} {row : List UInt8} {r : List HP} {s : AS} (h : Hs G (RowsH v rows :: BytesH x row :: r) s) (hr : rows.length ≤ 1099511627776) {K : K0} (hK : ∀ v' s', Hs G (RowsH v' (rows ++ [row]) :: r) s' → K v' s') :
    bsl 1 [V.slice none 0 0 true] 1 [(0, x)] s (fun t s => app 1 24 v t s K) := by
  obtain ⟨a, c, ex, rfl⟩ := slH_slice (h.pull 1)
  refine bsl1_t rfl rfl h fun y s2 hy hyl h2 => ?_
  exact rows_push (h2.ord [1, 2, 0]) hy hyl hr hK

theorem flat4_get : ∀ (L : List VC) (i : Nat) (t : VC), L[i]? = some t → ((L.flatMap cells4).drop (i * 4)).take 4 = cells4 t
  | [], i, t, h => by simp at h
  | a :: L, 0, t, h => by
    simp at h; subst h
    simp [List.flatMap_cons, cells4]
  | a :: L, i + 1, t, h => by
    have h' : L[i]? = some t := by simpa using h
    have ih := flat4_get L i t h'
    have e : (i + 1) * 4 = i * 4 + 1 + 1 + 1 + 1 := by omega
    rw [List.flatMap_cons, e]
    simpa [cells4] using ih
theorem elem4_t {u : V} {L : List VC} {r : List HP} {s : AS} (h : Hs G (SlH 4 u L.length (L.flatMap cells4) :: r) s) {i : Nat} {t : VC} (ht : L[i]? = some t) (q : IntKind) :
    ∃ p, elemPtr none 4 u (.int q (i : Nat)) = some (.ptr (some p)) ∧ ∀ K, ldA 4 (.ptr (some p)) s K = K (.agg (cells4 t)) s := by
  have hi : i < L.length := (List.getElem?_eq_some_iff.1 ht).1
  rcases slH_ob h with ⟨h0, ex, rfl⟩ | ⟨k, c, ex, cs, u', rfl, htk, hn, hc, he, h'⟩
  · omega
  · refine ⟨⟨.new k, 0 + i * 4⟩, elem_ok hi (he.imp id (·.1)), fun K => ?_⟩
    rw [ldA_t h' (by omega)]
    have e1 := flat4_get L i t ht
    rw [← htk] at e1
    rw [List.drop_take, List.take_take] at e1
    have e2 : min 4 (L.length * 4 - i * 4) = 4 := by omega
    rw [e2] at e1
    rw [Nat.zero_add, e1]

def forgRows (S : VS) (below : Nat) (ws : List Vo) : List (List UInt8) := (if 0 < S.p then [rowP S.p] else []) ++ [rowF below] ++ ws.map rowV
def forgB (S : VS) (below : Nat) (ws : List Vo) : List UInt8 := (forgRows S below ws).flatMap recB
def forgE (S : VS) (d : DS) (below : Nat) (ws : List Vo) : Int := if below ≤ S.f then 0 else d.swapE (forgB S below ws)
def forgS (S : VS) (d : DS) (below : Nat) (ws : List Vo) : VS := if below ≤ S.f then S else if d.swapE (forgB S below ws) = 0 then
  ⟨S.p, below, S.votes.filter (fun x => decide (below ≤ numOf x)), forgRows S below ws, false⟩ else { S with dead := d.swapE (forgB S below ws) == 130 }
def forgD (S : VS) (d : DS) (below : Nat) (ws : List Vo) : DS := if below ≤ S.f then d else d.swap (forgB S below ws)

theorem forget_loop {K : KX} {kv kd below : Nat} {u v0 : V} {S : VS} {L : List VC} {rows0 : List (List UInt8)} {tm : Tm} {r : List HP} {s : AS} (hL : ∀ t ∈ L, t.1.ok) (hl : L.length ≤ 8) (hr0 : rows0.length ≤ 10)
    (h : Hs G (RowsH v0 rows0 :: SlH 4 u L.length (L.flatMap cells4) :: HP.all (L.map chC) :: r) s)
    (t0 : tm.getD 0 .junk = .ptr (some ⟨.new kv, 0⟩)) (t1 : tm.getD 1 .junk = .int .i64 below) (t6 : tm.getD 6 .junk = v0) (t46 : tm.getD 46 .junk = u) (t47 : tm.getD 47 .junk = .int .i64 L.length) (t48 : tm.getD 48 .junk = .int .i64 0)
    (hK : ∀ tm' s' v', Hs G (RowsH v' (rows0 ++ L.map fun t => rowV t.1) :: SlH 4 u L.length (L.flatMap cells4) :: HP.all (L.map chC) :: r) s' → tm'.getD 0 .junk = .ptr (some ⟨.new kv, 0⟩) → tm'.getD 1 .junk = .int .i64 below → tm'.getD 6 .junk = v' → K (.exit 1) tm' s') :
    loopN LOOPS (fun tm s K => fn17_L1 fn40 fn41 fn47 fn48 fn46 fn49 fn50 fn36 (tm.getD 0 .junk) (tm.getD 1 .junk) (tm.getD 6 .junk) (tm.getD 46 .junk) (tm.getD 47 .junk) (tm.getD 48 .junk) s K) tm s K := by
  refine loop_rule (fun m tm s1 => ∃ (i : Nat) (v6 : V), m + i = L.length ∧ Hs G (RowsH v6 (rows0 ++ (L.take i).map fun t => rowV t.1) :: SlH 4 u L.length (L.flatMap cells4) :: HP.all (L.map chC) :: r) s1 ∧
      tm.getD 0 .junk = .ptr (some ⟨.new kv, 0⟩) ∧ tm.getD 1 .junk = .int .i64 below ∧ tm.getD 6 .junk = v6 ∧ tm.getD 46 .junk = u ∧ tm.getD 47 .junk = .int .i64 L.length ∧ tm.getD 48 .junk = .int .i64 (i : Nat)) ?_ (m := L.length) (by omega)
      ⟨0, v0, by omega, by simpa using h, t0, t1, t6, t46, t47, t48⟩
  rintro m tm s1 Kn ⟨i, v6, hm, h1, t0, t1, t6, t46, t47, t48⟩ hnext
  simp only [t0, t1, t6, t46, t47, t48]
  unfold fn17_L1
  by_cases hi : i < L.length
  · have d : decide ((i : Int) < (L.length : Int)) = true := by simp; omega
    have w : IntKind.i64.wrap ((i : Int) + 1) = ((i + 1 : Nat) : Int) := by rw [wrap64 (by omega) (by omega)]; omega
    obtain ⟨t, ht⟩ : ∃ t, L[i]? = some t := ⟨L[i], by simp [hi]⟩
    obtain ⟨p, e1, l1⟩ := elem4_t (h1.pull 1) ht .i64
    have htL := List.mem_of_getElem? ht
    obtain ⟨A, B, hAB⟩ := List.append_of_mem htL
    have eL : L.map chC = A.map chC ++ chC t :: B.map chC := by rw [hAB]; simp
    rw [eL] at h1
    have hfl : flatV t.2 = true := nats_flat (all_mid (h1.pull 2))
    rw [bin_lss, optK_some, d, condV_true, e1, optK_some, l1]
    refine newC_t h1 fun k8 s2 h2 => ?_
    unfold cells4
    refine stAll_t h2 rfl rfl (vo_flat hfl) fun s3 h3 => ?_
    rw [ldAll_t (n := 4) h3 rfl]
    have h4 := all_mid (h3.pull 3)
    refine votedB_t (hL t htL) (v := t.2) h4 _ ?_
    intro x s5 h5
    have h6 := all_unmid (h5.ord [1, 2, 0])
    refine push_row (h6.ord [3, 1]) (by simp; omega) fun v7 s7 h7 => ?_
    simp only [bin_add, optK_some, w, nx_nrm]
    refine hnext (L.length - (i + 1)) _ _ (by omega) ⟨i + 1, v7, by omega, ?_, rfl, rfl, rfl, rfl, rfl, rfl⟩
    have e2 : (L.take (i + 1)).map (fun t => rowV t.1) = (L.take i).map (fun t => rowV t.1) ++ [rowV t.1] := by rw [List.take_add_one, ht]; simp
    rw [e2, ← List.append_assoc, eL]
    exact (h7.ord [0, 3, 1]).drop 3
  · have d : decide ((i : Int) < (L.length : Int)) = false := by simp; omega
    have : L.take i = L := List.take_of_length_le (by omega)
    rw [this] at h1
    simp only [bin_lss, optK_some, d, condV_false, nx_exit]
    exact hK _ _ v6 h1 rfl rfl rfl

theorem told_ok {S : VS} (hok : S.ok) {n : Nat} {ws : List Vo} (hw : Told S.votes n ws) : (∀ x ∈ ws, x.ok) ∧ ws.length ≤ 8 := by
  refine ⟨fun x hx => hok.vo x (List.mem_filter.1 (hw.perm.mem_iff.1 hx)).1, ?_⟩
  have := hw.perm.length_eq
  have := List.length_filter_le (fun x => decide (n ≤ numOf x)) S.votes
  have := hok.v
  omega

/-- What follows the first rows. -/
theorem forget_tail (hG : ShaG G) {kv kd below : Nat} {S : VS} {d : DS} {nt : Nat} (hb : 1 ≤ below ∧ below ≤ 9007199254740991) (hdead : S.dead = false) (hbf : ¬ below ≤ S.f) (hnt : nt < 1099511627776) {v0 : V} {r : List HP} {s : AS} {K : K0}
    (h : Hs G (RowsH v0 ((if 0 < S.p then [rowP S.p] else []) ++ [rowF below]) :: VoterH kv kd S :: DiskH kd d nt :: r) s)
    (hK : ∀ u s', (∃ ws, Told S.votes below ws ∧ u = .int .i64 (forgE S d below ws) ∧ Hs G (VoterH kv kd (forgS S d below ws) :: DiskH kd (forgD S d below ws) (nt + 1) :: r) s') → K u s') :
    ((fn46 (.ptr (some ⟨.new kv, 0⟩)) (.int .i64 below)) s fun t46 s =>
 (optK (lenV (some (Kd.slice 43)) t46) s fun t47 s => (loopN LOOPS (fun tm s K => fn17_L1 fn40 fn41 fn47 fn48 fn46 fn49 fn50 fn36 (tm.getD 0 .junk) (tm.getD 1 .junk) (tm.getD 6 .junk) (tm.getD 46 .junk) (tm.getD 47 .junk) (tm.getD 48 .junk) s K) [(.ptr (some ⟨.new kv, 0⟩)), (.int .i64 below), V.junk, V.junk, V.junk, V.junk, v0, V.junk, V.junk, V.junk, V.junk, V.junk, V.junk, V.junk, V.junk, V.junk, V.junk, V.junk, V.junk, V.junk, V.junk, V.junk, V.junk, V.junk, V.junk, V.junk, V.junk, V.junk, V.junk, V.junk, V.junk, V.junk, V.junk, V.junk, V.junk, V.junk, V.junk, V.junk, V.junk, V.junk, V.junk, V.junk, V.junk, V.junk, V.junk, V.junk, t46, t47, (V.int .i64 0), V.junk, V.junk, V.junk, V.junk, V.junk, V.junk, V.junk, V.junk, V.junk, V.junk, V.junk, V.junk, V.junk, V.junk, V.junk, V.junk, V.junk, V.junk, V.junk, V.junk, V.junk, V.junk] s (fun e tm s => exX e (fun j1 => (exB (j1 == 1)
 (optK (nilV (tm.getD 0 .junk)) s fun t59 s => (optK (fp 0 t59) s fun t60 s => ((ld1 t60) s fun t61 s =>
 ((fn50 t61 (tm.getD 6 .junk)) s fun t63 s =>
 (optK (binV .neq (some (Kd.int .i64)) true t63 (V.int .i64 0)) s fun t65 s => (condV t65
 (K t63 s)
 ((fn36 (tm.getD 0 .junk) (V.iface 96 (tm.getD 1 .junk))) s fun t70 s =>
 (K (V.int .i64 0) s))))))))
 False)) (K V.junk s))))) := by
  refine above_t hb.2 (h.pull 1) _ ?_
  rintro u s2 ⟨ws, hw, h2⟩
  obtain ⟨L, hLw, h3⟩ := VotesH.iff.1 h2
  obtain ⟨ua, uc, uex, rfl⟩ := slH_slice h3
  obtain ⟨kl, km, hok, _⟩ := VoterH.iff.1 (h3.pull 2)
  obtain ⟨hwok, hw8⟩ := told_ok hok hw
  have hLl : L.length = ws.length := by rw [← hLw, List.length_map]
  simp only [lenV_slice, optK_some]
  refine forget_loop (kv := kv) (kd := kd) (below := below) (S := S) (L := L) (fun t ht => hwok _ (by rw [← hLw]; exact List.mem_map_of_mem ht)) (by omega) (by simp; split <;> simp) (h3.ord [3, 0, 1]) rfl rfl rfl rfl rfl rfl ?_
  intro tm s4 v4 h4 t0 t1 t6
  simp only [exX_exit, beq_self_eq_true, exB_true, t0, t1, t6, nilV_ptr, fp_ptr, optK_some, Nat.zero_add]
  have erows : (if 0 < S.p then [rowP S.p] else []) ++ [rowF below] ++ L.map (fun t => rowV t.1) = forgRows S below ws := by
    unfold forgRows; rw [← hLw, List.map_map]; rfl
  rw [erows] at h4
  obtain ⟨kl, km, hok, h5⟩ := VoterH.iff.1 (h4.pull 3)
  rw [ld_t h5]
  simp only [List.getElem?_cons_zero, optK_some]
  have hrl : ∀ row ∈ forgRows S below ws, row.length ≤ 40000 := by
    intro row hrow
    unfold forgRows at hrow
    rcases List.mem_append.1 hrow with hrow | hrow
    · rcases List.mem_append.1 hrow with hrow | hrow
      · split at hrow
        · simp at hrow; rw [hrow]; have := countB_len S.p; simp [rowP]; omega
        · simp at hrow
      · simp at hrow; rw [hrow]; have := countB_len below; simp [rowF]; omega
    · obtain ⟨x, hx, rfl⟩ := List.mem_map.1 hrow
      have := countB_len x.b; have := confB_len (hwok x hx).c; have := countB_len (confB x.c).length
      simp [rowV]; omega
  have hrn : (forgRows S below ws).length ≤ 1000 := by unfold forgRows; simp; split <;> simp <;> omega
  refine lSwap_t hG (h5.ord [2, 6, 3]) hrl hrn (by have := hok.r; omega) hnt _ ?_
  intro v6 s6 h6
  rw [if_neg (by simp [hdead])] at h6
  obtain ⟨rfl, h6⟩ := h6
  have eb : (forgRows S below ws).flatMap recB = forgB S below ws := rfl
  rw [eb] at h6 ⊢
  have eD : forgD S d below ws = d.swap (forgB S below ws) := by unfold forgD; rw [if_neg hbf]
  have eE : forgE S d below ws = d.swapE (forgB S below ws) := by unfold forgE; rw [if_neg hbf]
  obtain ⟨e, he⟩ : ∃ e, e = d.swapE (forgB S below ws) := ⟨_, rfl⟩
  rw [bin_neq, optK_some]
  by_cases h0 : e = 0
  · have d0 : (d.swapE (forgB S below ws) != 0) = false := by rw [← he, h0]; rfl
    rw [d0, condV_false]
    rw [← he, if_pos h0, h0] at h6
    have h7 := VoterH.iff.2 ⟨kl, km, (⟨hok.p, hok.f, hok.v, hok.vo, by show (forgRows S below ws).length ≤ _; omega⟩ : VS.ok { S with rows := forgRows S below ws, dead := false }), (h6.ord [2, 3, 0])⟩
    refine doesF_t hb.2 h7 _ ?_
    rintro _ s8 ⟨_, h8⟩
    have emax : max S.f below = below := by omega
    have eS : forgS S d below ws = ⟨S.p, below, S.votes.filter (fun x => decide (below ≤ numOf x)), forgRows S below ws, false⟩ := by unfold forgS; rw [if_neg hbf, if_pos (by rw [← he]; exact h0)]
    refine hK _ _ ⟨ws, hw, by rw [eE, ← he, h0], ?_⟩
    rw [eS, eD]
    simp only [emax] at h8
    exact (h8.ord [0, 1]).drop 2 |>.drop 2
  · have d0 : (d.swapE (forgB S below ws) != 0) = true := by rw [← he]; simp [h0]
    rw [d0, condV_true]
    rw [← he, if_neg h0] at h6
    have eS : forgS S d below ws = { S with dead := e == 130 } := by unfold forgS; rw [if_neg hbf, ← he, if_neg h0]
    have h7 := VoterH.iff.2 ⟨kl, km, (⟨hok.p, hok.f, hok.v, hok.vo, hok.r⟩ : VS.ok { S with dead := e == 130 }), (h6.ord [2, 3, 0])⟩
    refine hK _ _ ⟨ws, hw, by rw [eE], ?_⟩
    rw [eS, eD]
    exact (h7.ord [0, 1]).drop 2 |>.drop 2

set_option maxHeartbeats 1000000 in
theorem Forget_t (hG : ShaG G) {kv kd below : Nat} {S : VS} {d : DS} {nt : Nat} (hb : 1 ≤ below ∧ below ≤ 9007199254740991) (hdead : S.dead = false) (hbf : ¬ below ≤ S.f) (hnt : nt < 1099511627776) {r : List HP} {s : AS}
    (h : Hs G (VoterH kv kd S :: DiskH kd d nt :: r) s) :
    Ens (fn17 (.ptr (some ⟨.new kv, 0⟩)) (.int .i64 below)) s fun u s' => ∃ ws, Told S.votes below ws ∧ u = .int .i64 (forgE S d below ws) ∧ Hs G (VoterH kv kd (forgS S d below ws) :: DiskH kd (forgD S d below ws) (nt + 1) :: r) s' := by
  intro K hK
  unfold fn17 fn17_q
  rw [vlive_t h, hdead]
  have nb : decide ((1 : Int) ≤ (below : Int) ∧ (below : Int) ≤ 9007199254740991) = true := by simp; omega
  obtain ⟨kl, km, hok, h1⟩ := VoterH.iff.1 h
  have d1 : decide ((below : Int) ≤ (S.f : Int)) = false := by simp; omega
  rw [if_neg (by simp), bin_neq, optK_some, bne_self_eq_false, condV_false, number_t, nb, un_not, optK_some, Bool.not_true, condV_false, nilV_ptr, optK_some, fp_ptr, optK_some, ld_t h1]
  have g2 : ([V.ptr (some ⟨.new kl, 0⟩), .int .i64 S.p, .int .i64 S.f, .map (some km)] : List V)[0 + 2]? = some (.int .i64 S.f) := rfl
  have g1 : ([V.ptr (some ⟨.new kl, 0⟩), .int .i64 S.p, .int .i64 S.f, .map (some km)] : List V)[0 + 1]? = some (.int .i64 S.p) := rfl
  rw [g2, optK_some, bin_leq, optK_some, d1, condV_false, optK_some, fp_ptr, optK_some, ld_t h1, g1, optK_some, bin_gtr, optK_some]
  by_cases hp : 0 < S.p
  · have d2 : decide ((S.p : Int) > 0) = true := by simp; omega
    rw [d2, condV_true, optK_some, fp_ptr, optK_some, ld_t h1, g1, optK_some]
    refine promiseB_t hok.p h _ ?_
    intro x s2 h2
    refine push_row (v := .slice none 0 0 true) (x := x) (row := rowP S.p) (rows := []) (RowsH.nil h2 true) (by simp) ?_
    intro v3 s3 h3
    refine flooredB_t hb.2 h3 _ ?_
    intro y s4 h4
    refine push_row (v := v3) (x := y) (row := rowF below) (rows := [rowP S.p]) (h4.ord [1, 0]) (by simp) ?_
    intro v5 s5 h5
    refine forget_tail hG hb hdead hbf hnt (v0 := v5) (by rw [if_pos hp]; exact h5) hK
  · have d2 : decide ((S.p : Int) > 0) = false := by simp; omega
    rw [d2, condV_false]
    refine flooredB_t hb.2 h _ ?_
    intro y s4 h4
    refine push_row (v := .slice none 0 0 true) (x := y) (row := rowF below) (rows := []) (RowsH.nil h4 true) (by simp) ?_
    intro v5 s5 h5
    refine forget_tail hG hb hdead hbf hnt (v0 := v5) (by rw [if_neg hp]; exact h5) hK
end Go.Proofs.Vt
end
