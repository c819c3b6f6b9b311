/- The program's IsGrowing returns what the reference's returns: for all lists of words that fit the row's reach and all letters. -/
import Derived.Test.YtkklcjfpgfgkdacQFnExactIsGrowingx3
import Derived.Test.YtkklcjfpgfgkdacThy
set_option linter.unusedVariables false
set_option linter.unusedSimpArgs false
namespace Go.Proofs.Ytkklcjfpgfgkdac.Pure
open Go.RowKit Go.Proofs.Ytkklcjfpgfgkdac.QFnExactIsGrowing Go.Proofs.YtkklcjfpgfgkdacW.PrintWords Go.Proofs.YtkklcjfpgfgkdacW.PrintLast Go.Proofs.YtkklcjfpgfgkdacW.PrintMore Go.Proofs.Ytkklcjfpgfgkdac.Thy

def sumSz (l : List ByteArray) : Nat := (l.map ByteArray.size).sum
theorem sumSz_cons (s : ByteArray) (l : List ByteArray) : sumSz (s :: l) = s.size + sumSz l := by simp [sumSz]
theorem mem_sumSz {s : ByteArray} : ∀ {l : List ByteArray}, s ∈ l → s.size ≤ sumSz l
  | x :: l, h => by
    rw [sumSz_cons]
    rcases List.mem_cons.1 h with rfl | h
    · omega
    · have := mem_sumSz h; omega
theorem laws_szStringS_l0 (xs : List ByteArray) (hx : xs.length ≤ 140737488351232) (hz : ∀ s ∈ xs, s.size ≤ 140737488351232) : ∀ (d i : Nat) (a : Int), i + d = xs.length → 0 ≤ a → a ≤ 140737488351232 → ∃ r, Ev (fun k => laws_szStringS.l0 k xs a i) r ∧ (0 ≤ r → (sumSz (xs.drop i) : Int) ≤ a) := by
  intro d
  induction d with
  | zero => intro i a h h0 h1; exact ⟨a, Ev.step (fun _ => rfl) (Ev.neg (by omega) (Ev.now _)), fun _ => by rw [List.drop_of_length_le (by omega)]; exact h0⟩
  | succ d ih =>
    intro i a h h0 h1
    have hi : i < xs.length := by omega
    have hm := hz xs[i] (List.getElem_mem hi)
    have hr : rdOf ByteArray.empty xs (i : Int) = xs[i] := rdOf_nat hi
    have w1 : wrap64 ((i : Int) + 1) = ((i + 1 : Nat) : Int) := by rw [wr (by omega) (by omega)]; rfl
    have w2 : wrap64 (a - ((xs[i].size : Nat) : Int)) = a - xs[i].size := wr (by omega) (by omega)
    by_cases c : a - xs[i].size < 0
    · exact ⟨-1, Ev.step (fun k => by rw [laws_szStringS.l0, hr, w2]) (Ev.pos (by omega) (Ev.pos (by omega) (Ev.pos c (Ev.now _)))), fun h => absurd h (by omega)⟩
    · obtain ⟨r, e, hh⟩ := ih (i + 1) (a - xs[i].size) (by omega) (by omega) (by omega)
      refine ⟨r, Ev.step (fun k => by rw [laws_szStringS.l0, hr, w2, w1]) (Ev.pos (by omega) (Ev.pos (by omega) (Ev.neg c e))), fun h => ?_⟩
      have := hh h
      rw [List.drop_eq_getElem_cons hi, sumSz_cons]
      omega
theorem laws_szStringS_ev (xs : List ByteArray) (hx : xs.length * 16 ≤ 140737488351232) (hz : ∀ s ∈ xs, s.size ≤ 140737488351232) (a : Int) (a0 : 0 ≤ a) (a1 : a ≤ 140737488351232) : ∃ r, Ev (fun k => laws_szStringS.f k xs a) r ∧ (0 ≤ r → (xs.length : Int) + sumSz xs ≤ a) := by
  unfold laws_szStringS.f
  have w : wrap64 (a - (xs.length : Int)) = a - xs.length := wr (by omega) (by omega)
  rw [w]
  by_cases c : a - (xs.length : Int) < 0
  · exact ⟨-1, Ev.pos c (Ev.now _), fun h => absurd h (by omega)⟩
  · obtain ⟨r, e, hh⟩ := laws_szStringS_l0 xs (by omega) hz xs.length 0 (a - xs.length) (by omega) (by omega) (by omega)
    exact ⟨r, Ev.neg c e, fun h => by have := hh h; rw [List.drop_zero] at this; omega⟩

theorem spec_l01In_eq (a b c : Int) : spec_l01In.f a b c = some (decide (b ≤ a ∧ a ≤ c)) := by
  unfold spec_l01In.f; split <;> simp <;> omega

theorem spec_WordOk_l0 (x : Int) (w : ByteArray) (hw : w.size ≤ 140737488351232) (hx : 1 ≤ x ∧ x ≤ 4) : ∀ (d : Nat) (i : Int), 0 ≤ i → i ≤ w.size → (w.size : Int) - i = d → Ev (fun k => spec_WordOk.l0 k x w i) (letters x ((N w).drop i.toNat)) := by
  intro d
  induction d with
  | zero =>
    intro i h0 h1 hd
    refine Ev.step (fun _ => rfl) (Ev.neg (by omega) (Ev.now' ?_))
    rw [N_done w i (by omega)]; rfl
  | succ d ih =>
    intro i h0 h1 hd
    have hb := bt_range w i
    rw [N_cons w i h0 (by omega), letters_cons]
    refine Ev.step (fun _ => rfl) (Ev.pos (by omega) (Ev.pos h0 (Ev.ite (fun h => Ev.now' ?_) (fun h => Ev.ite (fun h2 => Ev.now' ?_) (fun h2 => ?_)))))
    · simp; omega
    · simp; omega
    · rw [wr (by omega) (by omega)]
      refine Ev.eq (ih (i + 1) (by omega) (by omega) (by omega)) ?_
      rw [decide_eq_true (by omega), decide_eq_true (by omega)]; simp
theorem spec_WordOk_ev (x : Int) (w : ByteArray) (hw : w.size ≤ 140737488351232) : Ev (fun k => spec_WordOk.f k x w) (longOk 16 x w) := by
  unfold spec_WordOk.f longOk
  refine Ev.bind (spec_l01In_eq .. ▸ Ev.now _) (Ev.ite (fun h => ?_) (fun h => ?_))
  · have h2 := of_decide_eq_true h
    refine Ev.step (fun _ => rfl) (Ev.ite (fun h => Ev.now' ?_) (fun h => Ev.eq (spec_WordOk_l0 x w hw h2 w.size 0 (by omega) (by omega) (by omega)) ?_))
    · grind
    · grind
  · refine Ev.step (fun _ => spec_WordOk.j0.eq_2 ..) (Ev.pos rfl (Ev.now' ?_))
    grind

def substOk (l : List ByteArray) : Bool := decide (1 ≤ l.length) && decide (l.length ≤ 4) && l.all (fun w => longOk 16 l.length w && decide (w.size ≤ 8))

theorem spec_SubstitutionOk_l0 (l : List ByteArray) (hl : l.length ≤ 4) (hz : ∀ s ∈ l, s.size ≤ 140737488351232) : ∀ (d i : Nat), i + d = l.length → Ev (fun k => spec_SubstitutionOk.l0 k l l l.length i) ((l.drop i).all (fun w => longOk 16 l.length w && decide (w.size ≤ 8))) := by
  intro d
  induction d with
  | zero => intro i h; exact Ev.step (fun _ => rfl) (Ev.neg (by omega) (Ev.now' (by rw [List.drop_of_length_le (by omega)]; rfl)))
  | succ d ih =>
    intro i h
    have hi : i < l.length := by omega
    have hs := hz l[i] (List.getElem_mem hi)
    have w1 : Aside0 (wrap64 ((i : Int) + 1) = ((i + 1 : Nat) : Int)) := ⟨by rw [wr (by omega) (by omega)]; rfl⟩
    rw [List.drop_eq_getElem_cons hi, List.all_cons]
    refine Ev.step (fun k => by rw [spec_SubstitutionOk.l0, w1.out, rdOf_nat hi]) (Ev.pos (by omega) (Ev.pos (by omega) (Ev.pos (by omega) (Ev.bind (spec_WordOk_ev l.length l[i] hs) ?_))))
    refine Ev.ite (fun c => ?_) (fun c => Ev.now' (by rw [Bool.eq_false_iff.2 c]; rfl))
    refine Ev.ite (fun c2 => Ev.now' (by rw [decide_eq_false (show ¬ l[i].size ≤ 8 by omega)]; simp)) (fun c2 => Ev.eq (ih (i + 1) (by omega)) ?_)
    rw [c, decide_eq_true (show l[i].size ≤ 8 by omega)]; rfl
theorem spec_SubstitutionOk_ev (l : List ByteArray) (hl : l.length ≤ 140737488351232) (hz : ∀ s ∈ l, s.size ≤ 140737488351232) : Ev (fun k => spec_SubstitutionOk.f k l) (substOk l) := by
  unfold spec_SubstitutionOk.f substOk
  refine Ev.bind (Ev.eqc (spec_l01In_eq ..)) ?_
  by_cases h : 1 ≤ (l.length : Int) ∧ (l.length : Int) ≤ 4
  · rw [decide_eq_true h, decide_eq_true (show 1 ≤ l.length by omega), decide_eq_true (show l.length ≤ 4 by omega)]
    refine Ev.pos rfl (Ev.eq (spec_SubstitutionOk_l0 l (by omega) hz l.length 0 (by omega)) ?_)
    rw [List.drop_zero]; rfl
  · rw [decide_eq_false h]
    refine Ev.neg (by simp) (Ev.now' ?_)
    by_cases h1 : 1 ≤ l.length
    · rw [decide_eq_false (show ¬ l.length ≤ 4 by omega)]; simp
    · rw [decide_eq_false h1]; rfl

def nonEmpty (l : List ByteArray) : Bool := l.all fun w => !decide (w.size = 0)
def grows (w : ByteArray) (a : Int) : Bool := decide (2 ≤ w.size) && (bt w 0 == 97 + a)
def growing (l : List ByteArray) (a : Int) : Bool := substOk l && decide (0 ≤ a ∧ a ≤ (l.length : Int) - 1) && nonEmpty l && grows (rdOf ByteArray.empty l a) a
theorem nonEmpty_mem (l : List ByteArray) : decide ((⟨#[]⟩ : ByteArray) ∈ l) = !nonEmpty l := by
  by_cases h : (⟨#[]⟩ : ByteArray) ∈ l
  · rw [decide_eq_true h]
    have : nonEmpty l = false := List.all_eq_false.2 ⟨_, h, by rw [decide_eq_true (show (⟨#[]⟩ : ByteArray).size = 0 from rfl)]; decide⟩
    rw [this]; rfl
  · rw [decide_eq_false h]
    have : nonEmpty l = true := List.all_eq_true.2 fun w hw => by
      have : ¬ w.size = 0 := fun z => by
        have e : w = ⟨#[]⟩ := toList_inj.1 ((toList_nil.2 z).trans (toList_nil.2 (show (⟨#[]⟩ : ByteArray).size = 0 from rfl)).symm)
        exact h (e ▸ hw)
      rw [decide_eq_false this]; rfl
    rw [this]; rfl
theorem substOk_len {l : List ByteArray} (h : substOk l = true) : 1 ≤ l.length ∧ l.length ≤ 4 := by
  unfold substOk at h
  rw [Bool.and_eq_true, Bool.and_eq_true, decide_eq_true_iff, decide_eq_true_iff] at h
  exact h.1

theorem spec_IsGrowing_l0 (l : List ByteArray) (a : Int) (h0 : 0 ≤ a) (h1 : a < l.length) (h4 : l.length ≤ 4) : ∀ (d i : Nat), i + d = l.length → Ev (fun k => spec_IsGrowing.l0 k l a l l.length i) (nonEmpty (l.drop i) && grows (rdOf ByteArray.empty l a) a) := by
  intro d
  induction d with
  | zero =>
    intro i h
    rw [List.drop_of_length_le (by omega)]
    have w1 : Aside0 (wrap64 (97 + a) % 256 = 97 + a) := ⟨by rw [wr (by omega) (by omega)]; omega⟩
    refine Ev.step (fun k => by rw [spec_IsGrowing.l0, w1.out]) (Ev.neg (by omega) (Ev.pos h0 (Ev.pos h1 ?_)))
    generalize rdOf ByteArray.empty l a = w
    unfold grows
    refine Ev.ite (fun c => Ev.pos (by omega) (Ev.now' ?_)) (fun c => Ev.now' ?_)
    · rw [decide_eq_true (show 2 ≤ w.size by omega)]; rfl
    · rw [decide_eq_false (show ¬ 2 ≤ w.size by omega)]; rfl
  | succ d ih =>
    intro i h
    have hi : i < l.length := by omega
    have w1 : Aside0 (wrap64 ((i : Int) + 1) = ((i + 1 : Nat) : Int)) := ⟨by rw [wr (by omega) (by omega)]; rfl⟩
    rw [List.drop_eq_getElem_cons hi]
    refine Ev.step (fun k => by rw [spec_IsGrowing.l0, w1.out, rdOf_nat hi]) ?_
    refine Ev.pos (by omega) (Ev.pos (by omega) (Ev.pos (by omega) ?_))
    refine Ev.ite (fun c => Ev.now' ?_) (fun c => Ev.eq (ih (i + 1) (by omega)) ?_)
    · unfold nonEmpty; rw [List.all_cons, decide_eq_true (toList_nil.1 c)]; rfl
    · unfold nonEmpty; rw [List.all_cons, decide_eq_false (fun z => c (toList_nil.2 z))]; rfl
theorem spec_IsGrowing_ev (l : List ByteArray) (a : Int) (hl : l.length ≤ 140737488351232) (hz : ∀ s ∈ l, s.size ≤ 140737488351232) : Ev (fun k => spec_IsGrowing.f k l a) (growing l a) := by
  unfold spec_IsGrowing.f
  refine Ev.bind (spec_SubstitutionOk_ev l hl hz) ?_
  refine Ev.ite (fun c => ?_) (fun c => ?_)
  · have h4 := substOk_len c
    have w1 : Aside0 (wrap64 ((l.length : Int) - 1) = (l.length : Int) - 1) := ⟨wr (by omega) (by omega)⟩
    rw [w1.out]
    refine Ev.bind (Ev.eqc (spec_l01In_eq ..)) ?_
    by_cases h : 0 ≤ a ∧ a ≤ (l.length : Int) - 1
    · rw [decide_eq_true h]
      refine Ev.step (fun k => by rw [spec_IsGrowing.j0]) ?_
      refine Ev.neg (by decide) (Ev.eq (spec_IsGrowing_l0 l a h.1 (by omega) h4.2 l.length 0 (by omega)) ?_)
      rw [List.drop_zero]; unfold growing; rw [c, decide_eq_true h]; rfl
    · rw [decide_eq_false h]
      refine Ev.step (fun k => by rw [spec_IsGrowing.j0]) ?_
      refine Ev.pos (by decide) (Ev.now' ?_)
      unfold growing; rw [decide_eq_false h, Bool.and_false]; rfl
  · refine Ev.step (fun k => by rw [spec_IsGrowing.j0]) (Ev.pos rfl (Ev.now' ?_))
    unfold growing; rw [Bool.eq_false_iff.2 c]; rfl

theorem laws_toStringS_l0 (xs : List ByteArray) (hx : xs.length ≤ 17592186044416) : ∀ (d i : Nat), i + d = xs.length → Ev (fun k => laws_toStringS.l0 k xs (xs.take i ++ List.replicate d (⟨#[]⟩ : ByteArray)) i) xs := by
  intro d
  induction d with
  | zero => intro i h; exact Ev.step (fun _ => rfl) (Ev.neg (by omega) (Ev.now' (by rw [List.take_of_length_le (by omega)]; simp)))
  | succ d ih =>
    intro i h
    have w1 : wrap64 ((i : Int) + 1) = ((i + 1 : Nat) : Int) := by rw [wr (by omega) (by omega)]; rfl
    have hl : (xs.take i).length = i := by rw [List.length_take]; omega
    have hs : (xs.take i ++ List.replicate (d + 1) (⟨#[]⟩ : ByteArray)).set i (rdOf ByteArray.empty xs (i : Int)) = xs.take (i + 1) ++ List.replicate d (⟨#[]⟩ : ByteArray) := by
      rw [rdOf_nat (by omega), List.set_append_right _ _ (by omega), hl, Nat.sub_self, List.replicate_succ, List.set_cons_zero, List.take_succ_eq_append_getElem (by omega), List.append_assoc]
      rfl
    refine Ev.step (fun k => by rw [laws_toStringS.l0, w1, Int.toNat_natCast, hs]) (Ev.pos (by omega) (Ev.pos (by omega) (Ev.pos (by rw [List.length_append, hl, List.length_replicate]; omega) (ih (i + 1) (by omega)))))
theorem laws_toStringS_ev (xs : List ByteArray) (hx : xs.length ≤ 17592186044416) : Ev (fun k => laws_toStringS.f k xs) xs := by
  unfold laws_toStringS.f
  refine Ev.pos (by omega) (Ev.pos (by omega) ?_)
  simpa using laws_toStringS_l0 xs hx xs.length 0 (by omega)

theorem impl_within_eq (a b c : Int) : impl_within.f a b c = some (decide (b ≤ a ∧ a ≤ c)) := by
  unfold impl_within.f; split <;> simp <;> omega

theorem impl_hasLetters_l0 (x : Int) (w : ByteArray) (hw : w.size ≤ 140737488351232) (hx : 1 ≤ x ∧ x ≤ 4) : ∀ (d : Nat) (i : Int), 0 ≤ i → i ≤ w.size → (w.size : Int) - i = d → Ev (fun k => impl_hasLetters.l0 k x w w.size i) (letters x ((N w).drop i.toNat)) := by
  intro d
  induction d with
  | zero =>
    intro i h0 h1 hd
    refine Ev.step (fun _ => rfl) (Ev.neg (by omega) (Ev.now' ?_))
    rw [N_done w i (by omega)]; rfl
  | succ d ih =>
    intro i h0 h1 hd
    have hb := bt_range w i
    rw [N_cons w i h0 (by omega), letters_cons]
    refine Ev.step (fun _ => rfl) (Ev.pos (by omega) (Ev.pos h0 (Ev.pos (by omega) (Ev.bind (impl_within_eq .. ▸ Ev.now _) ?_))))
    rw [wr (by omega) (by omega), wr (n := 97 + x) (by omega) (by omega), wr (n := 97 + x - 1) (by omega) (by omega)]
    refine Ev.ite (fun h => ?_) (fun h => Ev.now' ?_)
    · rw [wr (by omega) (by omega)]
      refine Ev.eq (ih (i + 1) (by omega) (by omega) (by omega)) ?_
      grind
    · grind

theorem impl_WordOk_ev (x : Int) (w : ByteArray) (hw : w.size ≤ 140737488351232) : Ev (fun k => impl_WordOk.f k x w) (longOk 16 x w) := by
  unfold impl_WordOk.f longOk
  refine Ev.bind (impl_within_eq .. ▸ Ev.now _) (Ev.ite (fun h => ?_) (fun h => Ev.now' (by grind)))
  have h2 := of_decide_eq_true h
  refine Ev.ite (fun h => Ev.bind (impl_hasLetters_l0 x w hw h2 w.size 0 (by omega) (by omega) (by omega)) (Ev.now' (by grind))) (fun h => Ev.now' (by grind))

theorem impl_SubstitutionOk_1_ev (w : ByteArray) (l : List ByteArray) (hw : w.size ≤ 140737488351232) : Ev (fun k => impl_SubstitutionOk_1.f k w l) (!(longOk 16 l.length w && decide (w.size ≤ 8))) := by
  unfold impl_SubstitutionOk_1.f
  refine Ev.ite (fun c => Ev.now' (by rw [decide_eq_false (show ¬ w.size ≤ 8 by omega)]; simp)) (fun c => Ev.bind (impl_WordOk_ev l.length w hw) (Ev.now' ?_))
  rw [decide_eq_true (show w.size ≤ 8 by omega), Bool.and_true]

theorem IndexFunc_SubstitutionOk_l0 (l m : List ByteArray) (hl : l.length ≤ 140737488351232) (hz : ∀ s ∈ l, s.size ≤ 140737488351232) : ∀ (d i : Nat), i + d = l.length → ∃ r : Int, Ev (fun k => slices_IndexFunc_string_string_at_impl_SubstitutionOk_1.l0 k l l.length i m) r ∧ (0 ≤ r ↔ ((l.drop i).all (fun w => longOk 16 m.length w && decide (w.size ≤ 8))) = false) := by
  intro d
  induction d with
  | zero => intro i h; refine ⟨-1, Ev.step (fun _ => rfl) (Ev.neg (by omega) (Ev.now _)), ?_⟩; rw [List.drop_of_length_le (by omega)]; simp
  | succ d ih =>
    intro i h
    have hi : i < l.length := by omega
    have w1 : Aside0 (wrap64 ((i : Int) + 1) = ((i + 1 : Nat) : Int)) := ⟨by rw [wr (by omega) (by omega)]; rfl⟩
    have E := impl_SubstitutionOk_1_ev l[i] m (hz _ (List.getElem_mem hi))
    rw [List.drop_eq_getElem_cons hi, List.all_cons]
    cases c : (longOk 16 m.length l[i] && decide (l[i].size ≤ 8)) with
    | false =>
      rw [c] at E
      exact ⟨i, Ev.step (fun k => by rw [slices_IndexFunc_string_string_at_impl_SubstitutionOk_1.l0, w1.out, rdOf_nat hi]) (Ev.pos (by omega) (Ev.pos (by omega) (Ev.pos (by omega) (Ev.bind E (Ev.pos rfl (Ev.now _)))))), by simp⟩
    | true =>
      rw [c] at E
      obtain ⟨r, e, hr⟩ := ih (i + 1) (by omega)
      refine ⟨r, Ev.step (fun k => by rw [slices_IndexFunc_string_string_at_impl_SubstitutionOk_1.l0, w1.out, rdOf_nat hi]) (Ev.pos (by omega) (Ev.pos (by omega) (Ev.pos (by omega) (Ev.bind E ?_)))), by rw [Bool.true_and]; exact hr⟩
      exact Ev.neg (by decide) e

theorem ContainsFunc_SubstitutionOk_ev (l m : List ByteArray) (hl : l.length ≤ 140737488351232) (hz : ∀ s ∈ l, s.size ≤ 140737488351232) : Ev (fun k => slices_ContainsFunc_string_string_at_impl_SubstitutionOk_1.f k l m) (!(l.all (fun w => longOk 16 m.length w && decide (w.size ≤ 8)))) := by
  unfold slices_ContainsFunc_string_string_at_impl_SubstitutionOk_1.f slices_IndexFunc_string_string_at_impl_SubstitutionOk_1.f
  obtain ⟨r, e, hr⟩ := IndexFunc_SubstitutionOk_l0 l m hl hz l.length 0 (by omega)
  rw [List.drop_zero] at hr
  refine Ev.bind e (Ev.now' ?_)
  cases c : l.all (fun w => longOk 16 m.length w && decide (w.size ≤ 8)) with
  | false => rw [c] at hr; rw [decide_eq_true (hr.2 rfl)]; rfl
  | true => rw [c] at hr; rw [decide_eq_false (fun z => by have := hr.1 z; simp at this)]; rfl

theorem impl_SubstitutionOk_ev (l : List ByteArray) (hl : l.length ≤ 140737488351232) (hz : ∀ s ∈ l, s.size ≤ 140737488351232) : Ev (fun k => impl_SubstitutionOk.f k l) (substOk l) := by
  unfold impl_SubstitutionOk.f substOk
  refine Ev.bind (Ev.eqc (impl_within_eq ..)) ?_
  by_cases h : 1 ≤ (l.length : Int) ∧ (l.length : Int) ≤ 4
  · rw [decide_eq_true h, decide_eq_true (show 1 ≤ l.length by omega), decide_eq_true (show l.length ≤ 4 by omega)]
    exact Ev.pos rfl (Ev.bind (ContainsFunc_SubstitutionOk_ev l l hl hz) (Ev.now' (by rw [Bool.not_not]; rfl)))
  · rw [decide_eq_false h]
    refine Ev.neg (by simp) (Ev.now' ?_)
    by_cases h1 : 1 ≤ l.length
    · rw [decide_eq_false (show ¬ l.length ≤ 4 by omega)]; simp
    · rw [decide_eq_false h1]; rfl

theorem slices_Index_l0 (l : List ByteArray) (x : ByteArray) (hl : l.length ≤ 140737488351232) : ∀ (d i : Nat), i + d = l.length → ∃ r : Int, Ev (fun k => slices_Index_string_string.l0 k l x l.length i) r ∧ (0 ≤ r ↔ x ∈ l.drop i) := by
  intro d
  induction d with
  | zero => intro i h; refine ⟨-1, Ev.step (fun _ => rfl) (Ev.neg (by omega) (Ev.now _)), ?_⟩; rw [List.drop_of_length_le (by omega)]; simp
  | succ d ih =>
    intro i h
    have hi : i < l.length := by omega
    have w1 : wrap64 ((i : Int) + 1) = ((i + 1 : Nat) : Int) := by rw [wr (by omega) (by omega)]; rfl
    rw [List.drop_eq_getElem_cons hi]
    by_cases c : x = l[i]
    · exact ⟨i, Ev.step (fun k => by rw [slices_Index_string_string.l0, w1, rdOf_nat hi]) (Ev.pos (by omega) (Ev.pos (by omega) (Ev.pos (by omega) (Ev.pos (toList_inj.2 c) (Ev.now _))))), by rw [List.mem_cons]; simp [c]⟩
    · obtain ⟨r, e, hr⟩ := ih (i + 1) (by omega)
      exact ⟨r, Ev.step (fun k => by rw [slices_Index_string_string.l0, w1, rdOf_nat hi]) (Ev.pos (by omega) (Ev.pos (by omega) (Ev.pos (by omega) (Ev.neg (fun z => c (toList_inj.1 z)) e)))), by rw [List.mem_cons]; simp [c, hr]⟩

theorem slices_Contains_ev (l : List ByteArray) (x : ByteArray) (hl : l.length ≤ 140737488351232) : Ev (fun k => slices_Contains_string_string.f k l x) (decide (x ∈ l)) := by
  unfold slices_Contains_string_string.f slices_Index_string_string.f
  obtain ⟨r, e, hr⟩ := slices_Index_l0 l x hl l.length 0 (by omega)
  refine Ev.bind e (Ev.now' ?_)
  rw [List.drop_zero] at hr
  by_cases h : x ∈ l
  · rw [decide_eq_true h, decide_eq_true (hr.2 h)]
  · rw [decide_eq_false h, decide_eq_false (fun z => h (hr.1 z))]

theorem HasPrefix_eq (s t : ByteArray) : stringslite_HasPrefix.f s t = some ((N s).take t.size == N t) := by
  unfold stringslite_HasPrefix.f
  by_cases h : (s.size : Int) ≥ (t.size : Int)
  · rw [if_pos h, if_pos (by omega), if_pos (by omega)]
    congr 1
    rw [Bool.eq_iff_iff, beq_iff_eq, beq_iff_eq, bytes_eqN, N_extract, Int.toNat_natCast, List.drop_zero, Nat.sub_zero]
  · rw [if_neg h]
    congr 1
    symm
    rw [beq_eq_false_iff_ne]
    intro z
    have := congrArg List.length z
    rw [List.length_take, N_length, N_length] at this
    omega

theorem strings_HasPrefix_eq (s t : ByteArray) : strings_HasPrefix.f s t = some ((N s).take t.size == N t) := by
  unfold strings_HasPrefix.f
  rw [HasPrefix_eq]; rfl

theorem impl_letterOf_eq {x : Int} (h0 : 0 ≤ x) (h1 : x < 159) : impl_letterOf.f x = some (letterB x) := by
  unfold impl_letterOf.f; rw [letterB_raw h0 h1]

theorem impl_IsGrowing_ev (l : List ByteArray) (a : Int) (hl : l.length ≤ 140737488351232) (hz : ∀ s ∈ l, s.size ≤ 140737488351232) : Ev (fun k => impl_IsGrowing.f k l a) (growing l a) := by
  unfold impl_IsGrowing.f
  refine Ev.bind (impl_SubstitutionOk_ev l hl hz) ?_
  refine Ev.ite (fun c => ?_) (fun c => ?_)
  · have h4 := substOk_len c
    have w1 : Aside0 (wrap64 ((l.length : Int) - 1) = (l.length : Int) - 1) := ⟨wr (by omega) (by omega)⟩
    rw [w1.out]
    refine Ev.bind (Ev.eqc (impl_within_eq ..)) ?_
    by_cases h : 0 ≤ a ∧ a ≤ (l.length : Int) - 1
    · rw [decide_eq_true h]
      refine Ev.pos rfl (Ev.bind (slices_Contains_ev l _ hl) ?_)
      rw [nonEmpty_mem]
      refine Ev.step (fun k => by rw [impl_IsGrowing.j0]) ?_
      unfold growing
      rw [c, decide_eq_true h]
      refine Ev.ite (fun c2 => Ev.now' ?_) (fun c2 => ?_)
      · rw [Bool.not_eq_true'] at c2; rw [c2]; rfl
      · rw [Bool.not_eq_true', Bool.not_eq_false] at c2
        rw [c2]
        refine Ev.pos h.1 (Ev.pos (by omega) ?_)
        generalize rdOf ByteArray.empty l a = w
        unfold grows
        refine Ev.ite (fun c3 => ?_) (fun c3 => Ev.now' ?_)
        · refine Ev.bind (Ev.eqc (impl_letterOf_eq h.1 (by omega))) (Ev.bind (Ev.eqc (strings_HasPrefix_eq ..)) (Ev.now' ?_))
          rw [decide_eq_true (show 2 ≤ w.size by omega), letterB_size, N_letterB h.1 (by omega)]
          have e : (N w).drop 0 = bt w 0 :: (N w).drop (0 + 1 : Int).toNat := N_cons w 0 (by omega) (by omega)
          rw [List.drop_zero] at e
          rw [e, List.take_succ_cons, List.take_zero, List.cons_beq_cons]
          cases (bt w 0 == 97 + a) <;> rfl
        · rw [decide_eq_false (show ¬ 2 ≤ w.size by omega)]; rfl
    · rw [decide_eq_false h]
      refine Ev.neg (by decide) (Ev.step (fun k => by rw [impl_IsGrowing.j0]) (Ev.pos rfl (Ev.now' ?_)))
      unfold growing; rw [decide_eq_false h, Bool.and_false]; rfl
  · refine Ev.step (fun k => by rw [impl_IsGrowing.j0]) (Ev.pos rfl (Ev.now' ?_))
    unfold growing; rw [Bool.eq_false_iff.2 c]; rfl

theorem laws_eqStringS_l0 (xs : List ByteArray) (hx : xs.length ≤ 140737488351232) : ∀ (d i : Nat), i + d = xs.length → Ev (fun k => laws_eqStringS.l0 k xs xs i) true := by
  intro d
  induction d with
  | zero => intro i h; exact Ev.step (fun _ => rfl) (Ev.neg (by omega) (Ev.now _))
  | succ d ih =>
    intro i h
    have w1 : wrap64 ((i : Int) + 1) = ((i + 1 : Nat) : Int) := by rw [wr (by omega) (by omega)]; rfl
    exact Ev.step (fun k => by rw [laws_eqStringS.l0, w1]) (Ev.pos (by omega) (Ev.pos (by omega) (Ev.pos (by omega) (Ev.pos rfl (ih (i + 1) (by omega))))))
theorem laws_eqStringS_same (xs : List ByteArray) (hx : xs.length ≤ 140737488351232) : Ev (fun k => laws_eqStringS.f k xs xs) true := by
  unfold laws_eqStringS.f
  exact Ev.pos rfl (laws_eqStringS_l0 xs hx xs.length 0 (by omega))

theorem FnExactIsGrowing : laws_FnExactIsGrowing.Pure := by
  intro l a hl hz _
  apply Ev.rounds
  unfold laws_FnExactIsGrowing.f
  have hn : l.length ≤ 17592186044416 := by omega
  obtain ⟨r, e, _⟩ := laws_szStringS_ev l hl hz 1048576 (by omega) (by omega)
  exact Ev.bind e (Ev.ite (fun h => Ev.now _) (fun h => Ev.bind (laws_toStringS_ev l hn) (Ev.bind (spec_IsGrowing_ev l a (by omega) hz) (Ev.bind (laws_toStringS_ev l hn) (Ev.bind (impl_IsGrowing_ev l a (by omega) hz) (Ev.neg (by simp) (Ev.bind (laws_toStringS_ev l hn) (Ev.bind (laws_eqStringS_same l (by omega)) (Ev.pos rfl (Ev.now _))))))))))

end Go.Proofs.Ytkklcjfpgfgkdac.Pure
