/- The program's CountReadings returns what the reference's returns: for all lists of words and all words that fit the row's reach. -/
import Derived.Test.YtkklcjfpgfgkdacQFnExactCountReadingsx4
import Derived.Test.YtkklcjfpgfgkdacThy
set_option linter.unusedVariables false
set_option linter.unusedSimpArgs false
namespace Go.Proofs.Ytkklcjfpgfgkdac.Pure
open Go.RowKit Go.Proofs.Ytkklcjfpgfgkdac.QFnExactCountReadings Go.Proofs.YtkklcjfpgfgkdacW.PrintWords Go.Proofs.YtkklcjfpgfgkdacW.PrintLast Go.Proofs.YtkklcjfpgfgkdacW.PrintMore Go.Proofs.Ytkklcjfpgfgkdac.Thy

def sumSz (l : List ByteArray) : Nat := (l.map ByteArray.size).sum
theorem sumSz_cons (s : ByteArray) (l : List ByteArray) : sumSz (s :: l) = s.size + sumSz l := by simp [sumSz]
theorem mem_sumSz {s : ByteArray} : ∀ {l : List ByteArray}, s ∈ l → s.size ≤ sumSz l
  | x :: l, h => by
    rw [sumSz_cons]
    rcases List.mem_cons.1 h with rfl | h
    · omega
    · have := mem_sumSz h; omega
theorem laws_szStringS_l0 (xs : List ByteArray) (hx : xs.length ≤ 140737488351232) (hz : ∀ s ∈ xs, s.size ≤ 140737488351232) : ∀ (d i : Nat) (a : Int), i + d = xs.length → 0 ≤ a → a ≤ 140737488351232 → ∃ r, Ev (fun k => laws_szStringS.l0 k xs a i) r ∧ (0 ≤ r → (sumSz (xs.drop i) : Int) ≤ a) := by
  intro d
  induction d with
  | zero => intro i a h h0 h1; exact ⟨a, Ev.step (fun _ => rfl) (Ev.neg (by omega) (Ev.now _)), fun _ => by rw [List.drop_of_length_le (by omega)]; exact h0⟩
  | succ d ih =>
    intro i a h h0 h1
    have hi : i < xs.length := by omega
    have hm := hz xs[i] (List.getElem_mem hi)
    have hr : rdOf ByteArray.empty xs (i : Int) = xs[i] := rdOf_nat hi
    have w1 : wrap64 ((i : Int) + 1) = ((i + 1 : Nat) : Int) := by rw [wr (by omega) (by omega)]; rfl
    have w2 : wrap64 (a - ((xs[i].size : Nat) : Int)) = a - xs[i].size := wr (by omega) (by omega)
    by_cases c : a - xs[i].size < 0
    · exact ⟨-1, Ev.step (fun k => by rw [laws_szStringS.l0, hr, w2]) (Ev.pos (by omega) (Ev.pos (by omega) (Ev.pos c (Ev.now _)))), fun h => absurd h (by omega)⟩
    · obtain ⟨r, e, hh⟩ := ih (i + 1) (a - xs[i].size) (by omega) (by omega) (by omega)
      refine ⟨r, Ev.step (fun k => by rw [laws_szStringS.l0, hr, w2, w1]) (Ev.pos (by omega) (Ev.pos (by omega) (Ev.neg c e))), fun h => ?_⟩
      have := hh h
      rw [List.drop_eq_getElem_cons hi, sumSz_cons]
      omega
theorem laws_szStringS_ev (xs : List ByteArray) (hx : xs.length * 16 ≤ 140737488351232) (hz : ∀ s ∈ xs, s.size ≤ 140737488351232) (a : Int) (a0 : 0 ≤ a) (a1 : a ≤ 140737488351232) : ∃ r, Ev (fun k => laws_szStringS.f k xs a) r ∧ (0 ≤ r → (xs.length : Int) + sumSz xs ≤ a) := by
  unfold laws_szStringS.f
  have w : wrap64 (a - (xs.length : Int)) = a - xs.length := wr (by omega) (by omega)
  rw [w]
  by_cases c : a - (xs.length : Int) < 0
  · exact ⟨-1, Ev.pos c (Ev.now _), fun h => absurd h (by omega)⟩
  · obtain ⟨r, e, hh⟩ := laws_szStringS_l0 xs (by omega) hz xs.length 0 (a - xs.length) (by omega) (by omega) (by omega)
    exact ⟨r, Ev.neg c e, fun h => by have := hh h; rw [List.drop_zero] at this; omega⟩

theorem laws_toStringS_l0 (xs : List ByteArray) (hx : xs.length ≤ 17592186044416) : ∀ (d i : Nat), i + d = xs.length → Ev (fun k => laws_toStringS.l0 k xs (xs.take i ++ List.replicate d (⟨#[]⟩ : ByteArray)) i) xs := by
  intro d
  induction d with
  | zero => intro i h; exact Ev.step (fun _ => rfl) (Ev.neg (by omega) (Ev.now' (by rw [List.take_of_length_le (by omega)]; simp)))
  | succ d ih =>
    intro i h
    have w1 : wrap64 ((i : Int) + 1) = ((i + 1 : Nat) : Int) := by rw [wr (by omega) (by omega)]; rfl
    have hl : (xs.take i).length = i := by rw [List.length_take]; omega
    have hs : (xs.take i ++ List.replicate (d + 1) (⟨#[]⟩ : ByteArray)).set i (rdOf ByteArray.empty xs (i : Int)) = xs.take (i + 1) ++ List.replicate d (⟨#[]⟩ : ByteArray) := by
      rw [rdOf_nat (by omega), List.set_append_right _ _ (by omega), hl, Nat.sub_self, List.replicate_succ, List.set_cons_zero, List.take_succ_eq_append_getElem (by omega), List.append_assoc]
      rfl
    refine Ev.step (fun k => by rw [laws_toStringS.l0, w1, Int.toNat_natCast, hs]) (Ev.pos (by omega) (Ev.pos (by omega) (Ev.pos (by rw [List.length_append, hl, List.length_replicate]; omega) (ih (i + 1) (by omega)))))
theorem laws_toStringS_ev (xs : List ByteArray) (hx : xs.length ≤ 17592186044416) : Ev (fun k => laws_toStringS.f k xs) xs := by
  unfold laws_toStringS.f
  refine Ev.pos (by omega) (Ev.pos (by omega) ?_)
  simpa using laws_toStringS_l0 xs hx xs.length 0 (by omega)

theorem laws_eqStringS_l0 (xs : List ByteArray) (hx : xs.length ≤ 140737488351232) : ∀ (d i : Nat), i + d = xs.length → Ev (fun k => laws_eqStringS.l0 k xs xs i) true := by
  intro d
  induction d with
  | zero => intro i h; exact Ev.step (fun _ => rfl) (Ev.neg (by omega) (Ev.now _))
  | succ d ih =>
    intro i h
    have w1 : wrap64 ((i : Int) + 1) = ((i + 1 : Nat) : Int) := by rw [wr (by omega) (by omega)]; rfl
    exact Ev.step (fun k => by rw [laws_eqStringS.l0, w1]) (Ev.pos (by omega) (Ev.pos (by omega) (Ev.pos (by omega) (Ev.pos rfl (ih (i + 1) (by omega))))))
theorem laws_eqStringS_same (xs : List ByteArray) (hx : xs.length ≤ 140737488351232) : Ev (fun k => laws_eqStringS.f k xs xs) true := by
  unfold laws_eqStringS.f
  exact Ev.pos rfl (laws_eqStringS_l0 xs hx xs.length 0 (by omega))

theorem spec_l01In_eq (a b c : Int) : spec_l01In.f a b c = some (decide (b ≤ a ∧ a ≤ c)) := by
  unfold spec_l01In.f; split <;> simp <;> omega

theorem spec_WordOk_l0 (x : Int) (w : ByteArray) (hw : w.size ≤ 140737488351232) (hx : 1 ≤ x ∧ x ≤ 4) : ∀ (d : Nat) (i : Int), 0 ≤ i → i ≤ w.size → (w.size : Int) - i = d → Ev (fun k => spec_WordOk.l0 k x w i) (letters x ((N w).drop i.toNat)) := by
  intro d
  induction d with
  | zero =>
    intro i h0 h1 hd
    refine Ev.step (fun _ => rfl) (Ev.neg (by omega) (Ev.now' ?_))
    rw [N_done w i (by omega)]; rfl
  | succ d ih =>
    intro i h0 h1 hd
    have hb := bt_range w i
    rw [N_cons w i h0 (by omega), letters_cons]
    refine Ev.step (fun _ => rfl) (Ev.pos (by omega) (Ev.pos h0 (Ev.ite (fun h => Ev.now' ?_) (fun h => Ev.ite (fun h2 => Ev.now' ?_) (fun h2 => ?_)))))
    · simp; omega
    · simp; omega
    · rw [wr (by omega) (by omega)]
      refine Ev.eq (ih (i + 1) (by omega) (by omega) (by omega)) ?_
      rw [decide_eq_true (by omega), decide_eq_true (by omega)]; simp
theorem spec_WordOk_ev (x : Int) (w : ByteArray) (hw : w.size ≤ 140737488351232) : Ev (fun k => spec_WordOk.f k x w) (longOk 16 x w) := by
  unfold spec_WordOk.f longOk
  refine Ev.bind (spec_l01In_eq .. ▸ Ev.now _) (Ev.ite (fun h => ?_) (fun h => ?_))
  · have h2 := of_decide_eq_true h
    refine Ev.step (fun _ => rfl) (Ev.ite (fun h => Ev.now' ?_) (fun h => Ev.eq (spec_WordOk_l0 x w hw h2 w.size 0 (by omega) (by omega) (by omega)) ?_))
    · grind
    · grind
  · refine Ev.step (fun _ => spec_WordOk.j0.eq_2 ..) (Ev.pos rfl (Ev.now' ?_))
    grind

theorem spec_l04Has_l0 (l : List ByteArray) (x : ByteArray) (hl : l.length ≤ 140737488351232) : ∀ (d i : Nat), i + d = l.length → Ev (fun k => spec_l04Has.l0 k x l l.length i) (decide (x ∈ l.drop i)) := by
  intro d
  induction d with
  | zero => intro i h; refine Ev.step (fun _ => rfl) (Ev.neg (by omega) (Ev.now' ?_)); rw [List.drop_of_length_le (by omega)]; simp
  | succ d ih =>
    intro i h
    have hi : i < l.length := by omega
    have w1 : wrap64 ((i : Int) + 1) = ((i + 1 : Nat) : Int) := by rw [wr (by omega) (by omega)]; rfl
    rw [List.drop_eq_getElem_cons hi]
    refine Ev.step (fun k => by rw [spec_l04Has.l0, w1, rdOf_nat hi]) (Ev.pos (by omega) (Ev.pos (by omega) (Ev.pos (by omega) (Ev.ite (fun c => Ev.now' ?_) (fun c => Ev.eq (ih (i + 1) (by omega)) ?_)))))
    · rw [toList_inj] at c; symm; rw [decide_eq_true_eq, List.mem_cons]; exact .inl c.symm
    · rw [toList_inj] at c; rw [decide_eq_decide, List.mem_cons]; exact ⟨.inr, fun h => h.resolve_left (fun z => c z.symm)⟩
theorem spec_l04Has_ev (l : List ByteArray) (x : ByteArray) (hl : l.length ≤ 140737488351232) : Ev (fun k => spec_l04Has.f k l x) (decide (x ∈ l)) := by
  unfold spec_l04Has.f
  exact Ev.eq (spec_l04Has_l0 l x hl l.length 0 (by omega)) (by rw [List.drop_zero])

/-- Are the words from place i on good, and none of them among those before? -/
def listFrom (l : List ByteArray) : Nat → Nat → Bool
  | 0, _ => true
  | d + 1, i => (longOk 16 4 (l.getD i ByteArray.empty) && decide (1 ≤ (l.getD i ByteArray.empty).size) && decide ((l.getD i ByteArray.empty).size ≤ 6) && !decide (l.getD i ByteArray.empty ∈ l.take i)) && listFrom l d (i + 1)
def listOk (l : List ByteArray) : Bool := decide (1 ≤ l.length) && decide (l.length ≤ 8) && listFrom l l.length 0

theorem spec_ListOk_l0 (l : List ByteArray) (hl : l.length ≤ 8) (hz : ∀ s ∈ l, s.size ≤ 140737488351232) : ∀ (d i : Nat), i + d = l.length → Ev (fun k => spec_ListOk.l0 k l l l.length i) (listFrom l d i) := by
  intro d
  induction d with
  | zero => intro i h; exact Ev.step (fun _ => rfl) (Ev.neg (by omega) (Ev.now _))
  | succ d ih =>
    intro i h
    have hi : i < l.length := by omega
    have hs := hz l[i] (List.getElem_mem hi)
    have w1 : wrap64 ((i : Int) + 1) = ((i + 1 : Nat) : Int) := by rw [wr (by omega) (by omega)]; rfl
    have hg : l.getD i ByteArray.empty = l[i] := by rw [List.getD_eq_getElem?_getD, List.getElem?_eq_getElem hi]; rfl
    rw [listFrom, hg]
    refine Ev.step (fun k => by rw [spec_ListOk.l0, w1, rdOf_nat hi, Int.toNat_natCast]) (Ev.pos (by omega) (Ev.pos (by omega) (Ev.pos (by omega) (Ev.bind (spec_WordOk_ev 4 l[i] hs) ?_))))
    refine Ev.ite (fun c => ?_) (fun c => Ev.now' (by rw [Bool.eq_false_iff.2 c]; simp))
    refine Ev.bind (Ev.eqc (spec_l01In_eq ..)) ?_
    refine Ev.ite (fun c2 => ?_) (fun c2 => Ev.now' (by grind))
    refine Ev.pos (by omega) (Ev.bind (spec_l04Has_ev (l.take i) l[i] (by rw [List.length_take]; omega)) ?_)
    refine Ev.ite (fun c3 => Ev.now' (by rw [c3]; simp)) (fun c3 => Ev.eq (ih (i + 1) (by omega)) ?_)
    rw [Bool.eq_false_iff.2 c3, c]; grind
theorem spec_ListOk_ev (l : List ByteArray) (hl : l.length ≤ 140737488351232) (hz : ∀ s ∈ l, s.size ≤ 140737488351232) : Ev (fun k => spec_ListOk.f k l) (listOk l) := by
  unfold spec_ListOk.f listOk
  refine Ev.bind (spec_l01In_eq .. ▸ Ev.now _) (Ev.ite (fun h => ?_) (fun h => Ev.now' (by grind)))
  have h2 := of_decide_eq_true h
  refine Ev.eq (spec_ListOk_l0 l (by omega) hz l.length 0 (by omega)) ?_
  rw [decide_eq_true (by omega), decide_eq_true (by omega)]; simp

theorem spec_l22Begins_eq (s t : ByteArray) : spec_l22Begins.f s t = some ((N s).take t.size == N t) := by
  unfold spec_l22Begins.f
  by_cases h : (t.size : Int) ≤ (s.size : Int)
  · rw [if_pos h, if_pos (by omega)]
    congr 1
    rw [Bool.eq_iff_iff, beq_iff_eq, beq_iff_eq, bytes_eqN, N_extract, Int.toNat_natCast, List.drop_zero, Nat.sub_zero]
  · rw [if_neg h]
    congr 1
    symm
    rw [beq_eq_false_iff_ne]
    intro z
    have := congrArg List.length z
    rw [List.length_take, N_length, N_length] at this
    omega

/-- The word p stands at place i of w. -/
def preAt (w : List Int) (i : Nat) (p : ByteArray) : Bool := (w.drop i).take p.size == N p
/-- What one part adds to the count at place i, T holding the counts behind it. -/
def cntAdd (w : List Int) (i : Nat) (T : List Int) (p : ByteArray) : Int := if preAt w i p = true then T.getD (p.size - 1) 0 else 0
/-- The counts of the last d places, and of the end. -/
def cntT (l : List ByteArray) (w : List Int) : Nat → List Int
  | 0 => [1]
  | d + 1 => (l.map (cntAdd w (w.length - (d + 1)) (cntT l w d))).sum :: cntT l w d
theorem cntT_length (l : List ByteArray) (w : List Int) : ∀ d, (cntT l w d).length = d + 1
  | 0 => rfl
  | d + 1 => by rw [cntT, List.length_cons, cntT_length l w d]
theorem sum_range {B : Int} (f : ByteArray → Int) : ∀ (l : List ByteArray), (∀ p ∈ l, 0 ≤ f p ∧ f p ≤ B) → 0 ≤ (l.map f).sum ∧ (l.map f).sum ≤ l.length * B
  | [], _ => by simp
  | p :: l, h => by
    have h1 := h p List.mem_cons_self
    have h2 := sum_range f l (fun q hq => h q (List.mem_cons_of_mem _ hq))
    rw [List.map_cons, List.sum_cons, List.length_cons, Int.natCast_add, Int.add_mul]
    simp only [Int.natCast_one, Int.one_mul]
    omega
theorem cntT_range (l : List ByteArray) (hl : l.length ≤ 8) (w : List Int) : ∀ d, ∀ x ∈ cntT l w d, 0 ≤ x ∧ x ≤ 8 ^ d
  | 0 => by intro x hx; simp [cntT] at hx; subst hx; decide
  | d + 1 => by
    intro x hx
    have ih := cntT_range l hl w d
    have hB : (0 : Int) ≤ 8 ^ d := Int.pow_nonneg (by decide)
    rw [cntT, List.mem_cons] at hx
    rw [Int.pow_succ]
    rcases hx with rfl | hx
    · have := sum_range (B := 8 ^ d) (cntAdd w (w.length - (d + 1)) (cntT l w d)) l (fun p _ => by
        unfold cntAdd
        split
        · rw [List.getD_eq_getElem?_getD]
          rcases Nat.lt_or_ge (p.size - 1) (cntT l w d).length with h | h
          · rw [List.getElem?_eq_getElem h]
            exact ih _ (List.getElem_mem h)
          · rw [List.getElem?_eq_none h]; exact ⟨by decide, hB⟩
        · exact ⟨by decide, hB⟩)
      refine ⟨this.1, Int.le_trans this.2 ?_⟩
      rw [Int.mul_comm]
      exact Int.mul_le_mul_of_nonneg_left (by omega) hB
    · have := ih x hx
      omega
theorem cntAdd_range (l : List ByteArray) (hl : l.length ≤ 8) (w : List Int) (d i : Nat) (p : ByteArray) : 0 ≤ cntAdd w i (cntT l w d) p ∧ cntAdd w i (cntT l w d) p ≤ 8 ^ d := by
  have hB : (0 : Int) ≤ 8 ^ d := Int.pow_nonneg (by decide)
  unfold cntAdd
  split
  · rw [List.getD_eq_getElem?_getD]
    rcases Nat.lt_or_ge (p.size - 1) (cntT l w d).length with h | h
    · rw [List.getElem?_eq_getElem h]
      exact cntT_range l hl w d _ (List.getElem_mem h)
    · rw [List.getElem?_eq_none h]; exact ⟨by decide, hB⟩
  · exact ⟨by decide, hB⟩
theorem pow8_le {d : Nat} (h : d ≤ 16) : (8 : Int) ^ d ≤ 281474976710656 := by
  have : ∀ d : Nat, d ≤ 16 → (8 : Int) ^ d ≤ 281474976710656 := by decide
  exact this d h
theorem preAt_le {w : List Int} {i : Nat} {p : ByteArray} (h : preAt w i p = true) (hi : i ≤ w.length) : i + p.size ≤ w.length := by
  unfold preAt at h
  rw [beq_iff_eq] at h
  have := congrArg List.length h
  rw [List.length_take, List.length_drop, N_length] at this
  omega
theorem row_set (m : Nat) (a v : Int) (T : List Int) : (List.replicate m (0 : Int) ++ a :: T).set m v = List.replicate m (0 : Int) ++ v :: T := by
  rw [List.set_append_right _ _ (by simp), List.length_replicate, Nat.sub_self, List.set_cons_zero]
theorem row_rd (m : Nat) (a : Int) (T : List Int) : rd (List.replicate m (0 : Int) ++ a :: T) (m : Int) = a := by
  unfold rd
  rw [List.getD_eq_getElem?_getD, Int.toNat_natCast, List.getElem?_append_right (by simp), List.length_replicate, Nat.sub_self]; rfl
theorem row_rd2 (m s : Nat) (hs : 1 ≤ s) (a : Int) (T : List Int) : rd (List.replicate m (0 : Int) ++ a :: T) ((m + s : Nat) : Int) = T.getD (s - 1) 0 := by
  obtain ⟨s, rfl⟩ : ∃ t, s = t + 1 := ⟨s - 1, by omega⟩
  unfold rd
  rw [List.getD_eq_getElem?_getD, Int.toNat_natCast, List.getElem?_append_right (by simp), List.length_replicate, show m + (s + 1) - m = s + 1 by omega, List.getElem?_cons_succ, List.getD_eq_getElem?_getD]; rfl

theorem listFrom_size {l : List ByteArray} : ∀ {d i j : Nat}, listFrom l d i = true → i ≤ j → j < i + d → 1 ≤ (l.getD j ByteArray.empty).size ∧ (l.getD j ByteArray.empty).size ≤ 6 := by
  intro d
  induction d with
  | zero => intro i j h h1 h2; omega
  | succ d ih =>
    intro i j h h1 h2
    rw [listFrom] at h
    simp only [Bool.and_eq_true, decide_eq_true_eq] at h
    rcases Nat.eq_or_lt_of_le h1 with rfl | h3
    · exact ⟨h.1.1.1.2, h.1.1.2⟩
    · exact ih h.2 h3 (by omega)
theorem listOk_size {l : List ByteArray} (h : listOk l = true) {i : Nat} (hi : i < l.length) : 1 ≤ l[i].size ∧ l[i].size ≤ 6 := by
  unfold listOk at h
  simp only [Bool.and_eq_true, decide_eq_true_eq] at h
  have := listFrom_size (j := i) h.2 (by omega) (by omega)
  rw [List.getD_eq_getElem?_getD, List.getElem?_eq_getElem hi] at this
  exact this
theorem listOk_length {l : List ByteArray} (h : listOk l = true) : 1 ≤ l.length ∧ l.length ≤ 8 := by
  unfold listOk at h
  simp only [Bool.and_eq_true, decide_eq_true_eq] at h
  exact ⟨h.1.1, h.1.2⟩

theorem spec_l22Counts_l1 (l : List ByteArray) (hl : l.length ≤ 8) (hz : ∀ (i : Nat) (h : i < l.length), 1 ≤ l[i].size ∧ l[i].size ≤ 6) (w : ByteArray) (m d : Nat) (hm : m + d + 1 = w.size) (hw : w.size ≤ 16) (R : List Int)
    (next : Ev (fun k => spec_l22Counts.l0 k l w (List.replicate m (0 : Int) ++ (l.map (cntAdd (N w) m (cntT l (N w) d))).sum :: cntT l (N w) d) ((m : Int) - 1)) R) :
    ∀ (e i : Nat), i + e = l.length → Ev (fun k => spec_l22Counts.l1 k l w (List.replicate m (0 : Int) ++ ((l.take i).map (cntAdd (N w) m (cntT l (N w) d))).sum :: cntT l (N w) d) m l l.length i) R := by
  have hT := cntT_length l (N w) d
  have hN := N_length w
  intro e
  induction e with
  | zero =>
    intro i h
    rw [show i = l.length by omega, List.take_length]
    refine Ev.step (fun k => by rw [spec_l22Counts.l1]) (Ev.neg (by omega) ?_)
    rw [wr (by omega) (by omega)]
    exact next
  | succ e ih =>
    intro i h
    have hi : i < l.length := by omega
    have hs := hz i hi
    have hp := pow8_le (d := d) (by omega)
    have w1 : Aside0 (wrap64 ((i : Int) + 1) = ((i + 1 : Nat) : Int)) := ⟨by rw [wr (by omega) (by omega)]; rfl⟩
    have w2 : Aside0 (wrap64 ((m : Int) + (l[i].size : Int)) = ((m + l[i].size : Nat) : Int)) := ⟨by rw [wr (by omega) (by omega)]; rfl⟩
    have hb : Aside0 (spec_l22Begins.f (w.extract m w.size) l[i] = some (preAt (N w) m l[i])) := ⟨by
      rw [spec_l22Begins_eq, N_extract]
      unfold preAt
      rw [List.take_of_length_le (l := (N w).drop m) (by rw [List.length_drop]; omega)]⟩
    have hsum : ((l.take (i + 1)).map (cntAdd (N w) m (cntT l (N w) d))).sum = ((l.take i).map (cntAdd (N w) m (cntT l (N w) d))).sum + cntAdd (N w) m (cntT l (N w) d) l[i] := by
      rw [List.take_succ_eq_append_getElem hi, List.map_append, List.sum_append]; simp
    have hacc := sum_range (B := 8 ^ d) (cntAdd (N w) m (cntT l (N w) d)) (l.take i) (fun p _ => cntAdd_range l hl (N w) d m p)
    have hmul : ((l.take i).length : Int) * 8 ^ d ≤ 8 * 281474976710656 := Int.mul_le_mul (by rw [List.length_take]; omega) hp (Int.pow_nonneg (by decide)) (by decide)
    have hlen : (List.replicate m (0 : Int) ++ ((l.take i).map (cntAdd (N w) m (cntT l (N w) d))).sum :: cntT l (N w) d).length = w.size + 1 := by
      rw [List.length_append, List.length_replicate, List.length_cons, hT]; omega
    have next2 := ih (i + 1) (by omega)
    rw [hsum] at next2
    refine Ev.step (fun k => by rw [spec_l22Counts.l1, w1.out, rdOf_nat hi, Int.toNat_natCast, hb.out, Option.bind_some, w2.out]) (Ev.pos (by omega) (Ev.pos (by omega) (Ev.pos (by omega) (Ev.pos (by omega) (Ev.pos (by omega) ?_)))))
    by_cases c : preAt (N w) m l[i] = true
    · have hle := preAt_le c (by omega)
      have hv := cntAdd_range l hl (N w) d m l[i]
      refine Ev.pos c (Ev.pos (by omega) (Ev.pos (by omega) (Ev.pos (by omega) ?_)))
      rw [row_set, row_rd, row_rd2 m l[i].size hs.1]
      have hc : cntAdd (N w) m (cntT l (N w) d) l[i] = (cntT l (N w) d).getD (l[i].size - 1) 0 := by unfold cntAdd; rw [if_pos c]
      rw [hc] at next2 hv
      rw [wr (by omega) (by omega)]
      exact next2
    · have hc : cntAdd (N w) m (cntT l (N w) d) l[i] = 0 := by unfold cntAdd; rw [if_neg c]
      rw [hc, Int.add_zero] at next2
      exact Ev.neg c next2
theorem spec_l22Counts_l0 (l : List ByteArray) (hl : l.length ≤ 8) (hz : ∀ (i : Nat) (h : i < l.length), 1 ≤ l[i].size ∧ l[i].size ≤ 6) (w : ByteArray) (hw : w.size ≤ 16) : ∀ (m d : Nat), m + d = w.size → Ev (fun k => spec_l22Counts.l0 k l w (List.replicate m (0 : Int) ++ cntT l (N w) d) ((m : Int) - 1)) (cntT l (N w) w.size) := by
  have hN := N_length w
  intro m
  induction m with
  | zero => intro d h; exact Ev.step (fun k => by rw [spec_l22Counts.l0]) (Ev.neg (by omega) (Ev.now' (by rw [show d = w.size by omega]; rfl)))
  | succ m ih =>
    intro d h
    have next := ih (d + 1) (by omega)
    rw [cntT, show (N w).length - (d + 1) = m by omega] at next
    have := spec_l22Counts_l1 l hl hz w m d (by omega) hw _ next l.length 0 (by omega)
    rw [List.take_zero, List.map_nil, List.sum_nil] at this
    refine Ev.step (fun k => by rw [spec_l22Counts.l0]) (Ev.pos (by omega) ?_)
    rw [show ((m + 1 : Nat) : Int) - 1 = m by omega, show List.replicate (m + 1) (0 : Int) ++ cntT l (N w) d = List.replicate m (0 : Int) ++ 0 :: cntT l (N w) d by rw [List.replicate_succ', List.append_assoc]; rfl]
    exact this
theorem spec_l22Counts_ev (l : List ByteArray) (hl : listOk l = true) (w : ByteArray) (hw : w.size ≤ 16) : Ev (fun k => spec_l22Counts.f k l w) (cntT l (N w) w.size) := by
  unfold spec_l22Counts.f
  have w1 : Aside0 (wrap64 ((w.size : Int) + 1) = ((w.size + 1 : Nat) : Int)) := ⟨by rw [wr (by omega) (by omega)]; rfl⟩
  have w2 : Aside0 (wrap64 ((w.size : Int) - 1) = (w.size : Int) - 1) := ⟨by rw [wr (by omega) (by omega)]⟩
  rw [w1.out, w2.out]
  refine Ev.pos (by omega) (Ev.pos (by omega) ?_)
  simp only [Option.bind_some, Int.toNat_natCast]
  refine Ev.pos (by omega) (Ev.pos (by rw [List.length_replicate]; omega) ?_)
  have := spec_l22Counts_l0 l (listOk_length hl).2 (fun i h => listOk_size hl h) w hw w.size 0 (by omega)
  rw [show (List.replicate (w.size + 1) (0 : Int)).set w.size 1 = List.replicate w.size (0 : Int) ++ cntT l (N w) 0 by
    rw [List.replicate_succ', row_set]; rfl]
  exact this

def countReadings (l : List ByteArray) (w : ByteArray) : Int := if listOk l = true ∧ longOk 16 4 w = true then (cntT l (N w) w.size).getD 0 0 else -1
theorem spec_CountReadings_ev (l : List ByteArray) (w : ByteArray) (hl : l.length ≤ 140737488351232) (hz : ∀ s ∈ l, s.size ≤ 140737488351232) (hw : w.size ≤ 140737488351232) : Ev (fun k => spec_CountReadings.f k l w) (countReadings l w) := by
  unfold spec_CountReadings.f countReadings
  refine Ev.bind (spec_ListOk_ev l hl hz) ?_
  by_cases h : listOk l = true
  · refine Ev.pos h (Ev.bind (spec_WordOk_ev 4 w hw) ?_)
    by_cases h2 : longOk 16 4 w = true
    · rw [if_pos ⟨h, h2⟩]
      refine Ev.pos h2 (Ev.bind (spec_l22Counts_ev l h w (by have := longOk_size h2; omega)) (Ev.pos ?_ (Ev.now' rfl)))
      rw [cntT_length]; omega
    · rw [if_neg (fun z => h2 z.2)]; exact Ev.neg h2 (Ev.now _)
  · rw [if_neg (fun z => h z.1)]; exact Ev.neg h (Ev.now _)

theorem impl_within_eq (a b c : Int) : impl_within.f a b c = some (decide (b ≤ a ∧ a ≤ c)) := by
  unfold impl_within.f; split <;> simp <;> omega

theorem slices_Index_l0 (l : List ByteArray) (x : ByteArray) (hl : l.length ≤ 140737488351232) : ∀ (d i : Nat), i + d = l.length → ∃ r : Int, Ev (fun k => slices_Index_string_string.l0 k l x l.length i) r ∧ (0 ≤ r ↔ x ∈ l.drop i) := by
  intro d
  induction d with
  | zero => intro i h; refine ⟨-1, Ev.step (fun _ => rfl) (Ev.neg (by omega) (Ev.now _)), ?_⟩; rw [List.drop_of_length_le (by omega)]; simp
  | succ d ih =>
    intro i h
    have hi : i < l.length := by omega
    have w1 : wrap64 ((i : Int) + 1) = ((i + 1 : Nat) : Int) := by rw [wr (by omega) (by omega)]; rfl
    rw [List.drop_eq_getElem_cons hi]
    by_cases c : x = l[i]
    · exact ⟨i, Ev.step (fun k => by rw [slices_Index_string_string.l0, w1, rdOf_nat hi]) (Ev.pos (by omega) (Ev.pos (by omega) (Ev.pos (by omega) (Ev.pos (toList_inj.2 c) (Ev.now _))))), by rw [List.mem_cons]; simp [c]⟩
    · obtain ⟨r, e, hr⟩ := ih (i + 1) (by omega)
      exact ⟨r, Ev.step (fun k => by rw [slices_Index_string_string.l0, w1, rdOf_nat hi]) (Ev.pos (by omega) (Ev.pos (by omega) (Ev.pos (by omega) (Ev.neg (fun z => c (toList_inj.1 z)) e)))), by rw [List.mem_cons]; simp [c, hr]⟩

theorem slices_Contains_ev (l : List ByteArray) (x : ByteArray) (hl : l.length ≤ 140737488351232) : Ev (fun k => slices_Contains_string_string.f k l x) (decide (x ∈ l)) := by
  unfold slices_Contains_string_string.f slices_Index_string_string.f
  obtain ⟨r, e, hr⟩ := slices_Index_l0 l x hl l.length 0 (by omega)
  refine Ev.bind e (Ev.now' ?_)
  rw [List.drop_zero] at hr
  by_cases h : x ∈ l
  · rw [decide_eq_true h, decide_eq_true (hr.2 h)]
  · rw [decide_eq_false h, decide_eq_false (fun z => h (hr.1 z))]

theorem impl_hasLetters_l0 (x : Int) (w : ByteArray) (hw : w.size ≤ 140737488351232) (hx : 1 ≤ x ∧ x ≤ 4) : ∀ (d : Nat) (i : Int), 0 ≤ i → i ≤ w.size → (w.size : Int) - i = d → Ev (fun k => impl_hasLetters.l0 k x w w.size i) (letters x ((N w).drop i.toNat)) := by
  intro d
  induction d with
  | zero =>
    intro i h0 h1 hd
    refine Ev.step (fun _ => rfl) (Ev.neg (by omega) (Ev.now' ?_))
    rw [N_done w i (by omega)]; rfl
  | succ d ih =>
    intro i h0 h1 hd
    have hb := bt_range w i
    rw [N_cons w i h0 (by omega), letters_cons]
    refine Ev.step (fun _ => rfl) (Ev.pos (by omega) (Ev.pos h0 (Ev.pos (by omega) (Ev.bind (impl_within_eq .. ▸ Ev.now _) ?_))))
    rw [wr (by omega) (by omega), wr (n := 97 + x) (by omega) (by omega), wr (n := 97 + x - 1) (by omega) (by omega)]
    refine Ev.ite (fun h => ?_) (fun h => Ev.now' ?_)
    · rw [wr (by omega) (by omega)]
      refine Ev.eq (ih (i + 1) (by omega) (by omega) (by omega)) ?_
      grind
    · grind

theorem impl_WordOk_ev (x : Int) (w : ByteArray) (hw : w.size ≤ 140737488351232) : Ev (fun k => impl_WordOk.f k x w) (longOk 16 x w) := by
  unfold impl_WordOk.f longOk
  refine Ev.bind (impl_within_eq .. ▸ Ev.now _) (Ev.ite (fun h => ?_) (fun h => Ev.now' (by grind)))
  have h2 := of_decide_eq_true h
  refine Ev.ite (fun h => Ev.bind (impl_hasLetters_l0 x w hw h2 w.size 0 (by omega) (by omega) (by omega)) (Ev.now' (by grind))) (fun h => Ev.now' (by grind))

theorem impl_ListOk_l0 (l : List ByteArray) (hl : l.length ≤ 8) (hz : ∀ s ∈ l, s.size ≤ 140737488351232) : ∀ (d i : Nat), i + d = l.length → Ev (fun k => impl_ListOk.l0 k l l l.length i) (listFrom l d i) := by
  intro d
  induction d with
  | zero => intro i h; exact Ev.step (fun _ => rfl) (Ev.neg (by omega) (Ev.now _))
  | succ d ih =>
    intro i h
    have hi : i < l.length := by omega
    have hs := hz l[i] (List.getElem_mem hi)
    have w1 : wrap64 ((i : Int) + 1) = ((i + 1 : Nat) : Int) := by rw [wr (by omega) (by omega)]; rfl
    have hg : l.getD i ByteArray.empty = l[i] := by rw [List.getD_eq_getElem?_getD, List.getElem?_eq_getElem hi]; rfl
    rw [listFrom, hg]
    refine Ev.step (fun k => by rw [impl_ListOk.l0, w1, rdOf_nat hi, Int.toNat_natCast]) (Ev.pos (by omega) (Ev.pos (by omega) (Ev.pos (by omega) (Ev.bind (Ev.eqc (impl_within_eq ..)) ?_))))
    refine Ev.ite (fun c2 => ?_) (fun c2 => Ev.now' (by grind))
    refine Ev.bind (impl_WordOk_ev 4 l[i] hs) ?_
    refine Ev.ite (fun c => ?_) (fun c => Ev.now' (by rw [Bool.eq_false_iff.2 c]; simp))
    refine Ev.pos (by omega) (Ev.bind (slices_Contains_ev (l.take i) l[i] (by rw [List.length_take]; omega)) ?_)
    refine Ev.ite (fun c3 => Ev.now' (by rw [c3]; simp)) (fun c3 => Ev.eq (ih (i + 1) (by omega)) ?_)
    rw [Bool.eq_false_iff.2 c3, c]; grind
theorem impl_ListOk_ev (l : List ByteArray) (hl : l.length ≤ 140737488351232) (hz : ∀ s ∈ l, s.size ≤ 140737488351232) : Ev (fun k => impl_ListOk.f k l) (listOk l) := by
  unfold impl_ListOk.f listOk
  refine Ev.bind (impl_within_eq .. ▸ Ev.now _) (Ev.ite (fun h => ?_) (fun h => Ev.now' (by grind)))
  have h2 := of_decide_eq_true h
  refine Ev.eq (impl_ListOk_l0 l (by omega) hz l.length 0 (by omega)) ?_
  rw [decide_eq_true (by omega), decide_eq_true (by omega)]; simp

theorem HasPrefix_eq (s t : ByteArray) : stringslite_HasPrefix.f s t = some ((N s).take t.size == N t) := by
  unfold stringslite_HasPrefix.f
  by_cases h : (s.size : Int) ≥ (t.size : Int)
  · rw [if_pos h, if_pos (by omega), if_pos (by omega)]
    congr 1
    rw [Bool.eq_iff_iff, beq_iff_eq, beq_iff_eq, bytes_eqN, N_extract, Int.toNat_natCast, List.drop_zero, Nat.sub_zero]
  · rw [if_neg h]
    congr 1
    symm
    rw [beq_eq_false_iff_ne]
    intro z
    have := congrArg List.length z
    rw [List.length_take, N_length, N_length] at this
    omega

theorem strings_HasPrefix_eq (s t : ByteArray) : strings_HasPrefix.f s t = some ((N s).take t.size == N t) := by
  unfold strings_HasPrefix.f
  rw [HasPrefix_eq]; rfl

theorem impl_readings_l1 (l : List ByteArray) (hl : l.length ≤ 8) (hz : ∀ (i : Nat) (h : i < l.length), 1 ≤ l[i].size ∧ l[i].size ≤ 6) (w : ByteArray) (m d : Nat) (hm : m + d + 1 = w.size) (hw : w.size ≤ 16) (R : List Int)
    (next : Ev (fun k => impl_readings.l0 k l w (List.replicate m (0 : Int) ++ (l.map (cntAdd (N w) m (cntT l (N w) d))).sum :: cntT l (N w) d) ((m : Int) - 1)) R) :
    ∀ (e i : Nat), i + e = l.length → Ev (fun k => impl_readings.l1 k l w (List.replicate m (0 : Int) ++ ((l.take i).map (cntAdd (N w) m (cntT l (N w) d))).sum :: cntT l (N w) d) m l l.length i) R := by
  have hT := cntT_length l (N w) d
  have hN := N_length w
  intro e
  induction e with
  | zero =>
    intro i h
    rw [show i = l.length by omega, List.take_length]
    refine Ev.step (fun k => by rw [impl_readings.l1]) (Ev.neg (by omega) ?_)
    rw [wr (by omega) (by omega)]
    exact next
  | succ e ih =>
    intro i h
    have hi : i < l.length := by omega
    have hs := hz i hi
    have hp := pow8_le (d := d) (by omega)
    have w1 : Aside0 (wrap64 ((i : Int) + 1) = ((i + 1 : Nat) : Int)) := ⟨by rw [wr (by omega) (by omega)]; rfl⟩
    have w2 : Aside0 (wrap64 ((m : Int) + (l[i].size : Int)) = ((m + l[i].size : Nat) : Int)) := ⟨by rw [wr (by omega) (by omega)]; rfl⟩
    have hb : Aside0 (strings_HasPrefix.f (w.extract m w.size) l[i] = some (preAt (N w) m l[i])) := ⟨by
      rw [strings_HasPrefix_eq, N_extract]
      unfold preAt
      rw [List.take_of_length_le (l := (N w).drop m) (by rw [List.length_drop]; omega)]⟩
    have hsum : ((l.take (i + 1)).map (cntAdd (N w) m (cntT l (N w) d))).sum = ((l.take i).map (cntAdd (N w) m (cntT l (N w) d))).sum + cntAdd (N w) m (cntT l (N w) d) l[i] := by
      rw [List.take_succ_eq_append_getElem hi, List.map_append, List.sum_append]; simp
    have hacc := sum_range (B := 8 ^ d) (cntAdd (N w) m (cntT l (N w) d)) (l.take i) (fun p _ => cntAdd_range l hl (N w) d m p)
    have hmul : ((l.take i).length : Int) * 8 ^ d ≤ 8 * 281474976710656 := Int.mul_le_mul (by rw [List.length_take]; omega) hp (Int.pow_nonneg (by decide)) (by decide)
    have hlen : (List.replicate m (0 : Int) ++ ((l.take i).map (cntAdd (N w) m (cntT l (N w) d))).sum :: cntT l (N w) d).length = w.size + 1 := by
      rw [List.length_append, List.length_replicate, List.length_cons, hT]; omega
    have next2 := ih (i + 1) (by omega)
    rw [hsum] at next2
    refine Ev.step (fun k => by rw [impl_readings.l1, w1.out, rdOf_nat hi, Int.toNat_natCast, hb.out, Option.bind_some, w2.out]) (Ev.pos (by omega) (Ev.pos (by omega) (Ev.pos (by omega) (Ev.pos (by omega) (Ev.pos (by omega) ?_)))))
    by_cases c : preAt (N w) m l[i] = true
    · have hle := preAt_le c (by omega)
      have hv := cntAdd_range l hl (N w) d m l[i]
      refine Ev.pos c (Ev.pos (by omega) (Ev.pos (by omega) (Ev.pos (by omega) ?_)))
      rw [row_set, row_rd, row_rd2 m l[i].size hs.1]
      have hc : cntAdd (N w) m (cntT l (N w) d) l[i] = (cntT l (N w) d).getD (l[i].size - 1) 0 := by unfold cntAdd; rw [if_pos c]
      rw [hc] at next2 hv
      rw [wr (by omega) (by omega)]
      exact next2
    · have hc : cntAdd (N w) m (cntT l (N w) d) l[i] = 0 := by unfold cntAdd; rw [if_neg c]
      rw [hc, Int.add_zero] at next2
      exact Ev.neg c next2
theorem impl_readings_l0 (l : List ByteArray) (hl : l.length ≤ 8) (hz : ∀ (i : Nat) (h : i < l.length), 1 ≤ l[i].size ∧ l[i].size ≤ 6) (w : ByteArray) (hw : w.size ≤ 16) : ∀ (m d : Nat), m + d = w.size → Ev (fun k => impl_readings.l0 k l w (List.replicate m (0 : Int) ++ cntT l (N w) d) ((m : Int) - 1)) (cntT l (N w) w.size) := by
  have hN := N_length w
  intro m
  induction m with
  | zero => intro d h; exact Ev.step (fun k => by rw [impl_readings.l0]) (Ev.neg (by omega) (Ev.now' (by rw [show d = w.size by omega]; rfl)))
  | succ m ih =>
    intro d h
    have next := ih (d + 1) (by omega)
    rw [cntT, show (N w).length - (d + 1) = m by omega] at next
    have := impl_readings_l1 l hl hz w m d (by omega) hw _ next l.length 0 (by omega)
    rw [List.take_zero, List.map_nil, List.sum_nil] at this
    refine Ev.step (fun k => by rw [impl_readings.l0]) (Ev.pos (by omega) ?_)
    rw [show ((m + 1 : Nat) : Int) - 1 = m by omega, show List.replicate (m + 1) (0 : Int) ++ cntT l (N w) d = List.replicate m (0 : Int) ++ 0 :: cntT l (N w) d by rw [List.replicate_succ', List.append_assoc]; rfl]
    exact this
theorem impl_readings_ev (l : List ByteArray) (hl : listOk l = true) (w : ByteArray) (hw : w.size ≤ 16) : Ev (fun k => impl_readings.f k l w) (cntT l (N w) w.size) := by
  unfold impl_readings.f
  have w1 : Aside0 (wrap64 ((w.size : Int) + 1) = ((w.size + 1 : Nat) : Int)) := ⟨by rw [wr (by omega) (by omega)]; rfl⟩
  have w2 : Aside0 (wrap64 ((w.size : Int) - 1) = (w.size : Int) - 1) := ⟨by rw [wr (by omega) (by omega)]⟩
  rw [w1.out, w2.out]
  refine Ev.pos (by omega) (Ev.pos (by omega) ?_)
  simp only [Option.bind_some, Int.toNat_natCast]
  refine Ev.pos (by omega) (Ev.pos (by rw [List.length_replicate]; omega) ?_)
  have := impl_readings_l0 l (listOk_length hl).2 (fun i h => listOk_size hl h) w hw w.size 0 (by omega)
  rw [show (List.replicate (w.size + 1) (0 : Int)).set w.size 1 = List.replicate w.size (0 : Int) ++ cntT l (N w) 0 by
    rw [List.replicate_succ', row_set]; rfl]
  exact this

theorem impl_CountReadings_ev (l : List ByteArray) (w : ByteArray) (hl : l.length ≤ 140737488351232) (hz : ∀ s ∈ l, s.size ≤ 140737488351232) (hw : w.size ≤ 140737488351232) : Ev (fun k => impl_CountReadings.f k l w) (countReadings l w) := by
  unfold impl_CountReadings.f countReadings
  refine Ev.bind (impl_ListOk_ev l hl hz) ?_
  by_cases h : listOk l = true
  · refine Ev.pos h (Ev.bind (impl_WordOk_ev 4 w hw) ?_)
    by_cases h2 : longOk 16 4 w = true
    · rw [if_pos ⟨h, h2⟩]
      refine Ev.pos h2 (Ev.bind (impl_readings_ev l h w (by have := longOk_size h2; omega)) (Ev.pos ?_ (Ev.now' rfl)))
      rw [cntT_length]; omega
    · rw [if_neg (fun z => h2 z.2)]; exact Ev.neg h2 (Ev.now _)
  · rw [if_neg (fun z => h z.1)]; exact Ev.neg h (Ev.now _)

theorem FnExactCountReadings : laws_FnExactCountReadings.Pure := by
  intro l w hl hz hw
  apply Ev.rounds
  unfold laws_FnExactCountReadings.f
  have hn : l.length ≤ 17592186044416 := by omega
  obtain ⟨r, e, _⟩ := laws_szStringS_ev l hl hz 1048576 (by omega) (by omega)
  exact Ev.ite (fun h => Ev.now _) (fun h => Ev.bind e (Ev.ite (fun h => Ev.now _) (fun h => Ev.bind (laws_toStringS_ev l hn) (Ev.bind (spec_CountReadings_ev l w (by omega) hz hw) (Ev.bind (laws_toStringS_ev l hn) (Ev.bind (impl_CountReadings_ev l w (by omega) hz hw) (Ev.pos rfl (Ev.bind (laws_toStringS_ev l hn) (Ev.bind (laws_eqStringS_same l (by omega)) (Ev.pos rfl (Ev.now _)))))))))))

end Go.Proofs.Ytkklcjfpgfgkdac.Pure
