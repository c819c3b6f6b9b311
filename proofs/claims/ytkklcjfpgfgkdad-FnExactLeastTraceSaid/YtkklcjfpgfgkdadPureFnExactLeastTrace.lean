/- The program's LeastTrace returns what the reference's returns: for all numbers, lists of pairs and words that fit the row's reach. -/
import Derived.Test.YtkklcjfpgfgkdadQFnExactLeastTracex6
import Derived.Test.YtkklcjfpgfgkdadThy
set_option linter.unusedVariables false
set_option linter.unusedSimpArgs false
namespace Go.Proofs.Ytkklcjfpgfgkdad.Pure
open Go.RowKit Go.Proofs.Ytkklcjfpgfgkdad.QFnExactLeastTrace Go.Proofs.YtkklcjfpgfgkdadW.PrintWords Go.Proofs.YtkklcjfpgfgkdadW.PrintLast Go.Proofs.YtkklcjfpgfgkdadW.PrintMore Go.Proofs.Ytkklcjfpgfgkdad.Thy

def sumSz (l : List ByteArray) : Nat := (l.map ByteArray.size).sum
theorem sumSz_cons (s : ByteArray) (l : List ByteArray) : sumSz (s :: l) = s.size + sumSz l := by simp [sumSz]
theorem mem_sumSz {s : ByteArray} : ∀ {l : List ByteArray}, s ∈ l → s.size ≤ sumSz l
  | x :: l, h => by
    rw [sumSz_cons]
    rcases List.mem_cons.1 h with rfl | h
    · omega
    · have := mem_sumSz h; omega
theorem laws_szStringS_l0 (xs : List ByteArray) (hx : xs.length ≤ 140737488351232) (hz : ∀ s ∈ xs, s.size ≤ 140737488351232) : ∀ (d i : Nat) (a : Int), i + d = xs.length → 0 ≤ a → a ≤ 140737488351232 → ∃ r, Ev (fun k => laws_szStringS.l0 k xs a i) r ∧ (0 ≤ r → (sumSz (xs.drop i) : Int) ≤ a) := by
  intro d
  induction d with
  | zero => intro i a h h0 h1; exact ⟨a, Ev.step (fun _ => rfl) (Ev.neg (by omega) (Ev.now _)), fun _ => by rw [List.drop_of_length_le (by omega)]; exact h0⟩
  | succ d ih =>
    intro i a h h0 h1
    have hi : i < xs.length := by omega
    have hm := hz xs[i] (List.getElem_mem hi)
    have hr : rdOf ByteArray.empty xs (i : Int) = xs[i] := rdOf_nat hi
    have w1 : wrap64 ((i : Int) + 1) = ((i + 1 : Nat) : Int) := by rw [wr (by omega) (by omega)]; rfl
    have w2 : wrap64 (a - ((xs[i].size : Nat) : Int)) = a - xs[i].size := wr (by omega) (by omega)
    by_cases c : a - xs[i].size < 0
    · exact ⟨-1, Ev.step (fun k => by rw [laws_szStringS.l0, hr, w2]) (Ev.pos (by omega) (Ev.pos (by omega) (Ev.pos c (Ev.now _)))), fun h => absurd h (by omega)⟩
    · obtain ⟨r, e, hh⟩ := ih (i + 1) (a - xs[i].size) (by omega) (by omega) (by omega)
      refine ⟨r, Ev.step (fun k => by rw [laws_szStringS.l0, hr, w2, w1]) (Ev.pos (by omega) (Ev.pos (by omega) (Ev.neg c e))), fun h => ?_⟩
      have := hh h
      rw [List.drop_eq_getElem_cons hi, sumSz_cons]
      omega
theorem laws_szStringS_ev (xs : List ByteArray) (hx : xs.length * 16 ≤ 140737488351232) (hz : ∀ s ∈ xs, s.size ≤ 140737488351232) (a : Int) (a0 : 0 ≤ a) (a1 : a ≤ 140737488351232) : ∃ r, Ev (fun k => laws_szStringS.f k xs a) r ∧ (0 ≤ r → (xs.length : Int) + sumSz xs ≤ a) := by
  unfold laws_szStringS.f
  have w : wrap64 (a - (xs.length : Int)) = a - xs.length := wr (by omega) (by omega)
  rw [w]
  by_cases c : a - (xs.length : Int) < 0
  · exact ⟨-1, Ev.pos c (Ev.now _), fun h => absurd h (by omega)⟩
  · obtain ⟨r, e, hh⟩ := laws_szStringS_l0 xs (by omega) hz xs.length 0 (a - xs.length) (by omega) (by omega) (by omega)
    exact ⟨r, Ev.neg c e, fun h => by have := hh h; rw [List.drop_zero] at this; omega⟩

theorem laws_toStringS_l0 (xs : List ByteArray) (hx : xs.length ≤ 17592186044416) : ∀ (d i : Nat), i + d = xs.length → Ev (fun k => laws_toStringS.l0 k xs (xs.take i ++ List.replicate d (⟨#[]⟩ : ByteArray)) i) xs := by
  intro d
  induction d with
  | zero => intro i h; exact Ev.step (fun _ => rfl) (Ev.neg (by omega) (Ev.now' (by rw [List.take_of_length_le (by omega)]; simp)))
  | succ d ih =>
    intro i h
    have w1 : wrap64 ((i : Int) + 1) = ((i + 1 : Nat) : Int) := by rw [wr (by omega) (by omega)]; rfl
    have hl : (xs.take i).length = i := by rw [List.length_take]; omega
    have hs : (xs.take i ++ List.replicate (d + 1) (⟨#[]⟩ : ByteArray)).set i (rdOf ByteArray.empty xs (i : Int)) = xs.take (i + 1) ++ List.replicate d (⟨#[]⟩ : ByteArray) := by
      rw [rdOf_nat (by omega), List.set_append_right _ _ (by omega), hl, Nat.sub_self, List.replicate_succ, List.set_cons_zero, List.take_succ_eq_append_getElem (by omega), List.append_assoc]
      rfl
    refine Ev.step (fun k => by rw [laws_toStringS.l0, w1, Int.toNat_natCast, hs]) (Ev.pos (by omega) (Ev.pos (by omega) (Ev.pos (by rw [List.length_append, hl, List.length_replicate]; omega) (ih (i + 1) (by omega)))))
theorem laws_toStringS_ev (xs : List ByteArray) (hx : xs.length ≤ 17592186044416) : Ev (fun k => laws_toStringS.f k xs) xs := by
  unfold laws_toStringS.f
  refine Ev.pos (by omega) (Ev.pos (by omega) ?_)
  simpa using laws_toStringS_l0 xs hx xs.length 0 (by omega)

theorem laws_eqStringS_l0 (xs : List ByteArray) (hx : xs.length ≤ 140737488351232) : ∀ (d i : Nat), i + d = xs.length → Ev (fun k => laws_eqStringS.l0 k xs xs i) true := by
  intro d
  induction d with
  | zero => intro i h; exact Ev.step (fun _ => rfl) (Ev.neg (by omega) (Ev.now _))
  | succ d ih =>
    intro i h
    have w1 : wrap64 ((i : Int) + 1) = ((i + 1 : Nat) : Int) := by rw [wr (by omega) (by omega)]; rfl
    exact Ev.step (fun k => by rw [laws_eqStringS.l0, w1]) (Ev.pos (by omega) (Ev.pos (by omega) (Ev.pos (by omega) (Ev.pos rfl (ih (i + 1) (by omega))))))
theorem laws_eqStringS_same (xs : List ByteArray) (hx : xs.length ≤ 140737488351232) : Ev (fun k => laws_eqStringS.f k xs xs) true := by
  unfold laws_eqStringS.f
  exact Ev.pos rfl (laws_eqStringS_l0 xs hx xs.length 0 (by omega))

theorem spec_l01In_eq (a b c : Int) : spec_l01In.f a b c = some (decide (b ≤ a ∧ a ≤ c)) := by
  unfold spec_l01In.f; split <;> simp <;> omega

theorem spec_WordOk_l0 (x : Int) (w : ByteArray) (hw : w.size ≤ 140737488351232) (hx : 1 ≤ x ∧ x ≤ 4) : ∀ (d : Nat) (i : Int), 0 ≤ i → i ≤ w.size → (w.size : Int) - i = d → Ev (fun k => spec_WordOk.l0 k x w i) (letters x ((N w).drop i.toNat)) := by
  intro d
  induction d with
  | zero =>
    intro i h0 h1 hd
    refine Ev.step (fun _ => rfl) (Ev.neg (by omega) (Ev.now' ?_))
    rw [N_done w i (by omega)]; rfl
  | succ d ih =>
    intro i h0 h1 hd
    have hb := bt_range w i
    rw [N_cons w i h0 (by omega), letters_cons]
    refine Ev.step (fun _ => rfl) (Ev.pos (by omega) (Ev.pos h0 (Ev.ite (fun h => Ev.now' ?_) (fun h => Ev.ite (fun h2 => Ev.now' ?_) (fun h2 => ?_)))))
    · simp; omega
    · simp; omega
    · rw [wr (by omega) (by omega)]
      refine Ev.eq (ih (i + 1) (by omega) (by omega) (by omega)) ?_
      rw [decide_eq_true (by omega), decide_eq_true (by omega)]; simp
theorem spec_WordOk_ev (x : Int) (w : ByteArray) (hw : w.size ≤ 140737488351232) : Ev (fun k => spec_WordOk.f k x w) (longOk 16 x w) := by
  unfold spec_WordOk.f longOk
  refine Ev.bind (spec_l01In_eq .. ▸ Ev.now _) (Ev.ite (fun h => ?_) (fun h => ?_))
  · have h2 := of_decide_eq_true h
    refine Ev.step (fun _ => rfl) (Ev.ite (fun h => Ev.now' ?_) (fun h => Ev.eq (spec_WordOk_l0 x w hw h2 w.size 0 (by omega) (by omega) (by omega)) ?_))
    · grind
    · grind
  · refine Ev.step (fun _ => spec_WordOk.j0.eq_2 ..) (Ev.pos rfl (Ev.now' ?_))
    grind

theorem spec_l04Has_l0 (l : List ByteArray) (x : ByteArray) (hl : l.length ≤ 140737488351232) : ∀ (d i : Nat), i + d = l.length → Ev (fun k => spec_l04Has.l0 k x l l.length i) (decide (x ∈ l.drop i)) := by
  intro d
  induction d with
  | zero => intro i h; refine Ev.step (fun _ => rfl) (Ev.neg (by omega) (Ev.now' ?_)); rw [List.drop_of_length_le (by omega)]; simp
  | succ d ih =>
    intro i h
    have hi : i < l.length := by omega
    have w1 : wrap64 ((i : Int) + 1) = ((i + 1 : Nat) : Int) := by rw [wr (by omega) (by omega)]; rfl
    rw [List.drop_eq_getElem_cons hi]
    refine Ev.step (fun k => by rw [spec_l04Has.l0, w1, rdOf_nat hi]) (Ev.pos (by omega) (Ev.pos (by omega) (Ev.pos (by omega) (Ev.ite (fun c => Ev.now' ?_) (fun c => Ev.eq (ih (i + 1) (by omega)) ?_)))))
    · rw [toList_inj] at c; symm; rw [decide_eq_true_eq, List.mem_cons]; exact .inl c.symm
    · rw [toList_inj] at c; rw [decide_eq_decide, List.mem_cons]; exact ⟨.inr, fun h => h.resolve_left (fun z => c z.symm)⟩
theorem spec_l04Has_ev (l : List ByteArray) (x : ByteArray) (hl : l.length ≤ 140737488351232) : Ev (fun k => spec_l04Has.f k l x) (decide (x ∈ l)) := by
  unfold spec_l04Has.f
  exact Ev.eq (spec_l04Has_l0 l x hl l.length 0 (by omega)) (by rw [List.drop_zero])

/-- Are the pairs from place i on good, and none of them among those before? -/
def pairGood (K : Int) (l : List ByteArray) (i : Nat) : Bool := longOk 16 K (l.getD i ByteArray.empty) && decide ((l.getD i ByteArray.empty).size = 2) && decide (bt (l.getD i ByteArray.empty) 0 < bt (l.getD i ByteArray.empty) 1) && !decide (l.getD i ByteArray.empty ∈ l.take i)
def pairsFrom (K : Int) (l : List ByteArray) : Nat → Nat → Bool
  | 0, _ => true
  | d + 1, i => pairGood K l i && pairsFrom K l d (i + 1)
def commuteOk (K : Int) (l : List ByteArray) : Bool := decide (1 ≤ K) && decide (K ≤ 4) && pairsFrom K l l.length 0

theorem spec_CommuteOk_l0 (K : Int) (l : List ByteArray) (hl : l.length ≤ 140737488351232) (hz : ∀ s ∈ l, s.size ≤ 140737488351232) : ∀ (d i : Nat), i + d = l.length → Ev (fun k => spec_CommuteOk.l0 k K l l l.length i) (pairsFrom K l d i) := by
  intro d
  induction d with
  | zero => intro i h; exact Ev.step (fun _ => rfl) (Ev.neg (by omega) (Ev.now _))
  | succ d ih =>
    intro i h
    have hi : i < l.length := by omega
    have hs := hz l[i] (List.getElem_mem hi)
    have w1 : Aside0 (wrap64 ((i : Int) + 1) = ((i + 1 : Nat) : Int)) := ⟨by rw [wr (by omega) (by omega)]; rfl⟩
    have hg : l.getD i ByteArray.empty = l[i] := by rw [List.getD_eq_getElem?_getD, List.getElem?_eq_getElem hi]; rfl
    rw [pairsFrom, pairGood, hg]
    refine Ev.step (fun k => by rw [spec_CommuteOk.l0, w1.out, rdOf_nat hi, Int.toNat_natCast]) (Ev.pos (by omega) (Ev.pos (by omega) (Ev.pos (by omega) (Ev.bind (spec_WordOk_ev K l[i] hs) ?_))))
    refine Ev.ite (fun c => ?_) (fun c => Ev.now' (by rw [Bool.eq_false_iff.2 c]; simp))
    refine Ev.ite (fun c2 => Ev.pos (by omega) (Ev.pos (by omega) ?_)) (fun c2 => Ev.now' (by rw [decide_eq_false (show ¬ l[i].size = 2 by omega)]; simp))
    refine Ev.ite (fun c3 => Ev.now' (by rw [decide_eq_false (show ¬ bt l[i] 0 < bt l[i] 1 by omega)]; simp)) (fun c3 => ?_)
    refine Ev.pos (by omega) (Ev.bind (spec_l04Has_ev (l.take i) l[i] (by rw [List.length_take]; omega)) ?_)
    refine Ev.ite (fun c4 => Ev.now' (by rw [c4]; simp)) (fun c4 => Ev.eq (ih (i + 1) (by omega)) ?_)
    rw [Bool.eq_false_iff.2 c4, c, decide_eq_true (show l[i].size = 2 by omega), decide_eq_true (show bt l[i] 0 < bt l[i] 1 by omega)]; simp
theorem spec_CommuteOk_ev (K : Int) (l : List ByteArray) (hl : l.length ≤ 140737488351232) (hz : ∀ s ∈ l, s.size ≤ 140737488351232) : Ev (fun k => spec_CommuteOk.f k K l) (commuteOk K l) := by
  unfold spec_CommuteOk.f commuteOk
  refine Ev.bind (Ev.eqc (spec_l01In_eq ..)) ?_
  refine Ev.ite (fun h => ?_) (fun h => Ev.now' (by grind))
  have h2 := of_decide_eq_true h
  refine Ev.eq (spec_CommuteOk_l0 K l hl hz l.length 0 (by omega)) ?_
  rw [decide_eq_true h2.1, decide_eq_true h2.2]; simp

/-- Two letters commute. -/
def comm (l : List ByteArray) (c d : Int) : Bool := decide (strOfNums ([mn c d, mx c d] : List Int) ∈ l)
theorem comm_symm (l : List ByteArray) (c d : Int) : comm l c d = comm l d c := by
  unfold comm
  have h1 : mn c d = mn d c := by unfold mn; split <;> split <;> omega
  have h2 : mx c d = mx d c := by unfold mx; split <;> split <;> omega
  rw [h1, h2]
/-- Letter i commutes with the d letters from place j on. -/
def freeD (l : List ByteArray) (w : ByteArray) (i : Nat) : Nat → Nat → Bool
  | 0, _ => true
  | d + 1, j => comm l (bt w (j : Int)) (bt w (i : Int)) && freeD l w i d (j + 1)
/-- The place of the least free letter among the first i. -/
def bst (l : List ByteArray) (w : ByteArray) : Nat → Nat
  | 0 => 0
  | i + 1 => if (freeD l w i i 0 && decide (bt w (i : Int) < bt w (bst l w i : Int))) = true then i else bst l w i
theorem bst_lt (l : List ByteArray) (w : ByteArray) : ∀ i, 0 < i → bst l w i < i
  | 1, _ => by
    rw [bst]; split <;> simp [bst]
  | i + 2, _ => by
    rw [bst]
    have := bst_lt l w (i + 1) (by omega)
    split <;> omega
theorem bst_one (l : List ByteArray) (w : ByteArray) : bst l w 1 = 0 := by have := bst_lt l w 1 (by omega); omega
/-- The least word of the trace. -/
def leastT (l : List ByteArray) : Nat → ByteArray → ByteArray → ByteArray
  | 0, _, s => s
  | d + 1, w, s => if w.size = 0 then s else leastT l d (w.extract 0 (bst l w w.size) ++ w.extract (bst l w w.size + 1) w.size) (s ++ w.extract (bst l w w.size) (bst l w w.size + 1))
def Small (w : ByteArray) : Prop := ∀ c ∈ N w, 97 ≤ c ∧ c ≤ 100
theorem Small.at {w : ByteArray} (h : Small w) {i : Nat} (hi : i < w.size) : 97 ≤ bt w (i : Int) ∧ bt w (i : Int) ≤ 100 := by
  have h2 : i < (N w).length := by rw [N_length]; exact hi
  rw [N_bt, List.getD_eq_getElem?_getD, Int.toNat_natCast, List.getElem?_eq_getElem h2]
  exact h _ (List.getElem_mem h2)
theorem Small.of_letters {w : ByteArray} {x : Int} (hx : x ≤ 4) (h : letters x (N w) = true) : Small w := by
  intro c hc
  have := List.all_eq_true.1 h c hc
  simp only [Bool.and_eq_true, decide_eq_true_eq] at this
  omega
theorem Small.cut {w : ByteArray} (h : Small w) (b : Nat) : Small (w.extract 0 b ++ w.extract (b + 1) w.size) := by
  intro c hc
  rw [N_append, N_extract, N_extract, List.mem_append] at hc
  rcases hc with hc | hc
  · exact h c (List.mem_of_mem_drop (List.mem_of_mem_take hc))
  · exact h c (List.mem_of_mem_drop (List.mem_of_mem_take hc))
theorem cut_size {w : ByteArray} {b : Nat} (hb : b < w.size) : (w.extract 0 b ++ w.extract (b + 1) w.size).size = w.size - 1 := by
  rw [ByteArray.size_append, ByteArray.size_extract, ByteArray.size_extract]; omega
def traceOk (K : Int) (l : List ByteArray) (w : ByteArray) : Bool := commuteOk K l && longOk 16 K w

theorem spec_l23Ok_ev (K : Int) (l : List ByteArray) (w : ByteArray) (hl : l.length ≤ 140737488351232) (hz : ∀ s ∈ l, s.size ≤ 140737488351232) (hw : w.size ≤ 140737488351232) : Ev (fun k => spec_l23Ok.f k K l w) (traceOk K l w) := by
  unfold spec_l23Ok.f traceOk
  refine Ev.bind (spec_CommuteOk_ev K l hl hz) ?_
  refine Ev.ite (fun h => ?_) (fun h => Ev.now' (by rw [Bool.eq_false_iff.2 h]; rfl))
  rw [h]
  exact Ev.bind (spec_WordOk_ev K w hw) (Ev.now _)

theorem spec_l13Letter_eq {x : Int} (h0 : 0 ≤ x) (h1 : x < 159) : spec_l13Letter.f x = some (letterB x) := by
  unfold spec_l13Letter.f; rw [letterB_raw h0 h1]

theorem spec_DoLettersCommute_ev (l : List ByteArray) (hl : l.length ≤ 140737488351232) (x y : Int) (x0 : 0 ≤ x) (x3 : x ≤ 3) (y0 : 0 ≤ y) (y3 : y ≤ 3) : Ev (fun k => spec_DoLettersCommute.f k l x y) (comm l (97 + x) (97 + y)) := by
  unfold spec_DoLettersCommute.f
  refine Ev.bind (Ev.eqc (spec_l01In_eq ..)) ?_
  rw [decide_eq_true ⟨x0, x3⟩]
  refine Ev.pos rfl (Ev.bind (Ev.eqc (spec_l01In_eq ..)) ?_)
  rw [decide_eq_true ⟨y0, y3⟩]
  have hmn : 0 ≤ mn x y ∧ mn x y ≤ 3 := by unfold mn; split <;> omega
  have hmx : 0 ≤ mx x y ∧ mx x y ≤ 3 := by unfold mx; split <;> omega
  have hm1 : mn (97 + x) (97 + y) = 97 + mn x y := by unfold mn; split <;> split <;> omega
  have hm2 : mx (97 + x) (97 + y) = 97 + mx x y := by unfold mx; split <;> split <;> omega
  have hs : letterB (mn x y) ++ letterB (mx x y) = strOfNums ([mn (97 + x) (97 + y), mx (97 + x) (97 + y)] : List Int) := by
    apply N_inj
    rw [N_append, N_letterB hmn.1 (by omega), N_letterB hmx.1 (by omega), hm1, hm2, N_nums (by intro c hc; simp at hc; omega)]; rfl
  refine Ev.step (f := fun k => (spec_l04Has.f k l (strOfNums ([mn (97 + x) (97 + y), mx (97 + x) (97 + y)] : List Int))).bind fun t125 => some t125) (fun k => ?_) (Ev.bind (spec_l04Has_ev l _ hl) (Ev.now _))
  rw [Bool.not_true, spec_DoLettersCommute.j0, if_neg (by simp), spec_l13Letter_eq hmn.1 (by omega), Option.bind_some, spec_l13Letter_eq hmx.1 (by omega), Option.bind_some, if_pos (by rw [letterB_size, letterB_size]; omega), hs]

theorem spec_l23First_l1 (l : List ByteArray) (hl : l.length ≤ 140737488351232) (w : ByteArray) (hw : w.size ≤ 16) (S : Small w) (b i : Nat) (hi : i < w.size) (R : Int)
    (nextT : Ev (fun k => spec_l23First.l0 k l w (i : Int) ((i + 1 : Nat) : Int)) R ∨ True) (T F : Prop) :
    ∀ (d j : Nat) (f : Bool), j + d = i → ((f && freeD l w i d j) = true → Ev (fun k => spec_l23First.l0 k l w (i : Int) ((i + 1 : Nat) : Int)) R) → ((f && freeD l w i d j) = false → Ev (fun k => spec_l23First.l0 k l w (b : Int) ((i + 1 : Nat) : Int)) R) →
      Ev (fun k => spec_l23First.l1 k l w b i f j) R := by
  have w1 : Aside0 (wrap64 ((i : Int) + 1) = ((i + 1 : Nat) : Int)) := ⟨by rw [wr (by omega) (by omega)]; rfl⟩
  intro d
  induction d with
  | zero =>
    intro j f h hT hF
    refine Ev.step (fun k => by rw [spec_l23First.l1, w1.out]) (Ev.neg (by omega) ?_)
    cases f with
    | true => exact Ev.pos rfl (hT rfl)
    | false => exact Ev.neg (by simp) (hF rfl)
  | succ d ih =>
    intro j f h hT hF
    have w2 : Aside0 (wrap64 ((j : Int) + 1) = ((j + 1 : Nat) : Int)) := ⟨by rw [wr (by omega) (by omega)]; rfl⟩
    have hbi := S.at hi
    have hbj := S.at (show j < w.size by omega)
    refine Ev.step (fun k => by rw [spec_l23First.l1, w1.out, w2.out]) (Ev.pos (by omega) ?_)
    cases f with
    | true =>
      refine Ev.pos rfl (Ev.pos (by omega) (Ev.pos (by omega) (Ev.pos (by omega) (Ev.pos (by omega) ?_))))
      rw [Int.emod_eq_of_lt (by omega) (by omega), Int.emod_eq_of_lt (by omega) (by omega)]
      refine Ev.bind (spec_DoLettersCommute_ev l hl (bt w (i : Int) - 97) (bt w (j : Int) - 97) (by omega) (by omega) (by omega) (by omega)) ?_
      rw [show 97 + (bt w (i : Int) - 97) = bt w (i : Int) by omega, show 97 + (bt w (j : Int) - 97) = bt w (j : Int) by omega, comm_symm]
      rw [freeD, Bool.true_and] at hT hF
      exact ih (j + 1) _ (by omega) hT hF
    | false =>
      refine Ev.neg (by simp) (ih (j + 1) false (by omega) (fun z => by simp at z) (fun _ => hF (by simp)))
theorem spec_l23First_l0 (l : List ByteArray) (hl : l.length ≤ 140737488351232) (w : ByteArray) (hw : w.size ≤ 16) (S : Small w) : ∀ (d i : Nat), 1 ≤ i → i + d = w.size → Ev (fun k => spec_l23First.l0 k l w (bst l w i : Int) i) (bst l w w.size : Int) := by
  intro d
  induction d with
  | zero => intro i h1 h; exact Ev.step (fun _ => rfl) (Ev.neg (by omega) (Ev.now' (by rw [show i = w.size by omega])))
  | succ d ih =>
    intro i h1 h
    have hb := bst_lt l w i (by omega)
    have next := ih (i + 1) (by omega) (by omega)
    rw [bst] at next
    refine Ev.step (fun k => by rw [spec_l23First.l0]) (Ev.pos (by omega) (Ev.pos (by omega) (Ev.pos (by omega) (Ev.pos (by omega) ?_))))
    refine spec_l23First_l1 l hl w hw S (bst l w i) i (by omega) _ (.inr trivial) True True i 0 _ (by omega) (fun z => ?_) (fun z => ?_)
    · rw [if_pos (by rw [Bool.and_comm]; exact z)] at next; exact next
    · rw [if_neg (by rw [Bool.and_comm, z]; simp)] at next; exact next
theorem spec_l23First_ev (l : List ByteArray) (hl : l.length ≤ 140737488351232) (w : ByteArray) (hw : w.size ≤ 16) (h0 : 0 < w.size) (S : Small w) : Ev (fun k => spec_l23First.f k l w) (bst l w w.size : Int) := by
  unfold spec_l23First.f
  have := spec_l23First_l0 l hl w hw S (w.size - 1) 1 (Nat.le_refl _) (by omega)
  rw [bst_one] at this
  exact this

theorem spec_l23Least_l0 (l : List ByteArray) (hl : l.length ≤ 140737488351232) : ∀ (d : Nat) (w s : ByteArray), w.size = d → w.size ≤ 16 → Small w → s.size + w.size ≤ 16 → Ev (fun k => spec_l23Least.l0 k l w s) (leastT l d w s) := by
  intro d
  induction d with
  | zero =>
    intro w s h h16 S hs
    exact Ev.step (fun k => by rw [spec_l23Least.l0]) (Ev.pos (toList_nil.2 h) (Ev.now s))
  | succ d ih =>
    intro w s h h16 S hs
    have hb := bst_lt l w w.size (by omega)
    have w1 : Aside0 (wrap64 ((bst l w w.size : Int) + 1) = ((bst l w w.size + 1 : Nat) : Int)) := ⟨by rw [wr (by omega) (by omega)]; rfl⟩
    have hc := cut_size hb
    have h1 : (w.extract (bst l w w.size) (bst l w w.size + 1)).size = 1 := by rw [ByteArray.size_extract]; omega
    have hcs := hc
    rw [ByteArray.size_append] at hcs
    rw [leastT, if_neg (by omega)]
    refine Ev.step (fun k => by rw [spec_l23Least.l0]) (Ev.neg (fun z => by rw [toList_nil] at z; omega) (Ev.bind (spec_l23First_ev l hl w h16 (by omega) S) ?_))
    rw [w1.out, Int.toNat_natCast, Int.toNat_natCast]
    refine Ev.pos (by omega) (Ev.pos (by omega) (Ev.pos (by omega) (Ev.pos (by omega) (Ev.pos (by omega) (Ev.pos (by omega) (Ev.pos (by omega) ?_))))))
    exact ih _ _ (by omega) (by omega) (S.cut _) (by rw [ByteArray.size_append]; omega)
theorem spec_l23Least_ev (l : List ByteArray) (hl : l.length ≤ 140737488351232) (w : ByteArray) (hw : w.size ≤ 16) (S : Small w) : Ev (fun k => spec_l23Least.f k l w) (leastT l w.size w (⟨#[]⟩ : ByteArray)) := by
  unfold spec_l23Least.f
  exact spec_l23Least_l0 l hl w.size w _ rfl hw S (by show 0 + w.size ≤ 16; omega)

def leastTrace (K : Int) (l : List ByteArray) (w : ByteArray) : ByteArray × Bool := if traceOk K l w = true then (leastT l w.size w (⟨#[]⟩ : ByteArray), true) else ((⟨#[]⟩ : ByteArray), false)
theorem traceOk_word {K : Int} {l : List ByteArray} {w : ByteArray} (h : traceOk K l w = true) : w.size ≤ 16 ∧ Small w := by
  unfold traceOk at h
  rw [Bool.and_eq_true] at h
  have h2 := longOk_iff.1 h.2
  exact ⟨by omega, Small.of_letters h2.2.1 h2.2.2.2⟩

theorem spec_LeastTrace_ev (K : Int) (l : List ByteArray) (w : ByteArray) (hl : l.length ≤ 140737488351232) (hz : ∀ s ∈ l, s.size ≤ 140737488351232) (hw : w.size ≤ 140737488351232) : Ev (fun k => spec_LeastTrace.f k K l w) (leastTrace K l w) := by
  unfold spec_LeastTrace.f leastTrace
  refine Ev.bind (spec_l23Ok_ev K l w hl hz hw) (Ev.ite (fun h => ?_) (fun h => Ev.now' (by rw [if_neg h])))
  rw [if_pos h]
  have := traceOk_word h
  exact Ev.bind (spec_l23Least_ev l hl w this.1 this.2) (Ev.now _)

theorem impl_within_eq (a b c : Int) : impl_within.f a b c = some (decide (b ≤ a ∧ a ≤ c)) := by
  unfold impl_within.f; split <;> simp <;> omega

theorem impl_hasLetters_l0 (x : Int) (w : ByteArray) (hw : w.size ≤ 140737488351232) (hx : 1 ≤ x ∧ x ≤ 4) : ∀ (d : Nat) (i : Int), 0 ≤ i → i ≤ w.size → (w.size : Int) - i = d → Ev (fun k => impl_hasLetters.l0 k x w w.size i) (letters x ((N w).drop i.toNat)) := by
  intro d
  induction d with
  | zero =>
    intro i h0 h1 hd
    refine Ev.step (fun _ => rfl) (Ev.neg (by omega) (Ev.now' ?_))
    rw [N_done w i (by omega)]; rfl
  | succ d ih =>
    intro i h0 h1 hd
    have hb := bt_range w i
    rw [N_cons w i h0 (by omega), letters_cons]
    refine Ev.step (fun _ => rfl) (Ev.pos (by omega) (Ev.pos h0 (Ev.pos (by omega) (Ev.bind (impl_within_eq .. ▸ Ev.now _) ?_))))
    rw [wr (by omega) (by omega), wr (n := 97 + x) (by omega) (by omega), wr (n := 97 + x - 1) (by omega) (by omega)]
    refine Ev.ite (fun h => ?_) (fun h => Ev.now' ?_)
    · rw [wr (by omega) (by omega)]
      refine Ev.eq (ih (i + 1) (by omega) (by omega) (by omega)) ?_
      grind
    · grind

theorem impl_WordOk_ev (x : Int) (w : ByteArray) (hw : w.size ≤ 140737488351232) : Ev (fun k => impl_WordOk.f k x w) (longOk 16 x w) := by
  unfold impl_WordOk.f longOk
  refine Ev.bind (impl_within_eq .. ▸ Ev.now _) (Ev.ite (fun h => ?_) (fun h => Ev.now' (by grind)))
  have h2 := of_decide_eq_true h
  refine Ev.ite (fun h => Ev.bind (impl_hasLetters_l0 x w hw h2 w.size 0 (by omega) (by omega) (by omega)) (Ev.now' (by grind))) (fun h => Ev.now' (by grind))

theorem slices_Index_l0 (l : List ByteArray) (x : ByteArray) (hl : l.length ≤ 140737488351232) : ∀ (d i : Nat), i + d = l.length → ∃ r : Int, Ev (fun k => slices_Index_string_string.l0 k l x l.length i) r ∧ (0 ≤ r ↔ x ∈ l.drop i) := by
  intro d
  induction d with
  | zero => intro i h; refine ⟨-1, Ev.step (fun _ => rfl) (Ev.neg (by omega) (Ev.now _)), ?_⟩; rw [List.drop_of_length_le (by omega)]; simp
  | succ d ih =>
    intro i h
    have hi : i < l.length := by omega
    have w1 : wrap64 ((i : Int) + 1) = ((i + 1 : Nat) : Int) := by rw [wr (by omega) (by omega)]; rfl
    rw [List.drop_eq_getElem_cons hi]
    by_cases c : x = l[i]
    · exact ⟨i, Ev.step (fun k => by rw [slices_Index_string_string.l0, w1, rdOf_nat hi]) (Ev.pos (by omega) (Ev.pos (by omega) (Ev.pos (by omega) (Ev.pos (toList_inj.2 c) (Ev.now _))))), by rw [List.mem_cons]; simp [c]⟩
    · obtain ⟨r, e, hr⟩ := ih (i + 1) (by omega)
      exact ⟨r, Ev.step (fun k => by rw [slices_Index_string_string.l0, w1, rdOf_nat hi]) (Ev.pos (by omega) (Ev.pos (by omega) (Ev.pos (by omega) (Ev.neg (fun z => c (toList_inj.1 z)) e)))), by rw [List.mem_cons]; simp [c, hr]⟩

theorem slices_Contains_ev (l : List ByteArray) (x : ByteArray) (hl : l.length ≤ 140737488351232) : Ev (fun k => slices_Contains_string_string.f k l x) (decide (x ∈ l)) := by
  unfold slices_Contains_string_string.f slices_Index_string_string.f
  obtain ⟨r, e, hr⟩ := slices_Index_l0 l x hl l.length 0 (by omega)
  refine Ev.bind e (Ev.now' ?_)
  rw [List.drop_zero] at hr
  by_cases h : x ∈ l
  · rw [decide_eq_true h, decide_eq_true (hr.2 h)]
  · rw [decide_eq_false h, decide_eq_false (fun z => h (hr.1 z))]

theorem impl_CommuteOk_l0 (K : Int) (l : List ByteArray) (hl : l.length ≤ 140737488351232) (hz : ∀ s ∈ l, s.size ≤ 140737488351232) : ∀ (d i : Nat), i + d = l.length → Ev (fun k => impl_CommuteOk.l0 k K l l l.length i) (pairsFrom K l d i && decide (1 ≤ K ∧ K ≤ 4)) := by
  intro d
  induction d with
  | zero => intro i h; exact Ev.step (fun _ => rfl) (Ev.neg (by omega) (Ev.bind (Ev.eqc (impl_within_eq ..)) (Ev.now' (by simp [pairsFrom]))))
  | succ d ih =>
    intro i h
    have hi : i < l.length := by omega
    have hs := hz l[i] (List.getElem_mem hi)
    have w1 : Aside0 (wrap64 ((i : Int) + 1) = ((i + 1 : Nat) : Int)) := ⟨by rw [wr (by omega) (by omega)]; rfl⟩
    have hg : l.getD i ByteArray.empty = l[i] := by rw [List.getD_eq_getElem?_getD, List.getElem?_eq_getElem hi]; rfl
    rw [pairsFrom, pairGood, hg]
    refine Ev.step (fun k => by rw [impl_CommuteOk.l0, w1.out, rdOf_nat hi, Int.toNat_natCast]) (Ev.pos (by omega) (Ev.pos (by omega) (Ev.pos (by omega) ?_)))
    refine Ev.ite (fun c2 => ?_) (fun c2 => Ev.now' (by rw [decide_eq_false (show ¬ l[i].size = 2 by omega)]; simp))
    refine Ev.bind (impl_WordOk_ev K l[i] hs) ?_
    refine Ev.ite (fun c => Ev.pos (by omega) (Ev.pos (by omega) ?_)) (fun c => Ev.now' (by rw [Bool.eq_false_iff.2 c]; simp))
    refine Ev.ite (fun c3 => Ev.now' (by rw [decide_eq_false (show ¬ bt l[i] 0 < bt l[i] 1 by omega)]; simp)) (fun c3 => ?_)
    refine Ev.pos (by omega) (Ev.bind (slices_Contains_ev (l.take i) l[i] (by rw [List.length_take]; omega)) ?_)
    refine Ev.ite (fun c4 => Ev.now' (by rw [c4]; simp)) (fun c4 => Ev.eq (ih (i + 1) (by omega)) ?_)
    rw [Bool.eq_false_iff.2 c4, c, decide_eq_true (show l[i].size = 2 by omega), decide_eq_true (show bt l[i] 0 < bt l[i] 1 by omega)]; simp
theorem impl_CommuteOk_ev (K : Int) (l : List ByteArray) (hl : l.length ≤ 140737488351232) (hz : ∀ s ∈ l, s.size ≤ 140737488351232) : Ev (fun k => impl_CommuteOk.f k K l) (commuteOk K l) := by
  unfold impl_CommuteOk.f commuteOk
  refine Ev.eq (impl_CommuteOk_l0 K l hl hz l.length 0 (by omega)) ?_
  rw [Bool.decide_and, Bool.and_comm]

theorem impl_commute_ev (l : List ByteArray) (hl : l.length ≤ 140737488351232) (c d : Int) : Ev (fun k => impl_commute.f k l c d) (comm l c d) := by
  unfold impl_commute.f comm
  exact Ev.bind (slices_Contains_ev l _ hl) (Ev.now _)

theorem impl_leastTrace_l2 (l : List ByteArray) (hl : l.length ≤ 140737488351232) (w s : ByteArray) (hw : w.size ≤ 16) (b i : Nat) (hi : i < w.size) (hb : b < w.size) (R : ByteArray) :
    ∀ (d j : Nat) (f : Bool), j + d = i → (((f && freeD l w i d j) && decide (bt w (i : Int) < bt w (b : Int))) = true → Ev (fun k => impl_leastTrace.l1 k l w s (i : Int) w.size ((i + 1 : Nat) : Int)) R) → (((f && freeD l w i d j) && decide (bt w (i : Int) < bt w (b : Int))) = false → Ev (fun k => impl_leastTrace.l1 k l w s (b : Int) w.size ((i + 1 : Nat) : Int)) R) →
      Ev (fun k => impl_leastTrace.l2 k l w s b i f w.size i i j) R := by
  have w1 : Aside0 (wrap64 ((i : Int) + 1) = ((i + 1 : Nat) : Int)) := ⟨by rw [wr (by omega) (by omega)]; rfl⟩
  intro d
  induction d with
  | zero =>
    intro j f h hT hF
    refine Ev.step (fun k => by rw [impl_leastTrace.l2, w1.out]) (Ev.neg (by omega) ?_)
    cases f with
    | true =>
      refine Ev.pos rfl (Ev.pos (by omega) (Ev.pos (by omega) (Ev.pos (by omega) (Ev.pos (by omega) ?_))))
      exact Ev.ite (fun c => hT (by rw [decide_eq_true c]; rfl)) (fun c => hF (by rw [decide_eq_false c]; rfl))
    | false => exact Ev.neg (by simp) (hF rfl)
  | succ d ih =>
    intro j f h hT hF
    have w2 : Aside0 (wrap64 ((j : Int) + 1) = ((j + 1 : Nat) : Int)) := ⟨by rw [wr (by omega) (by omega)]; rfl⟩
    refine Ev.step (fun k => by rw [impl_leastTrace.l2, w1.out, w2.out]) (Ev.pos (by omega) ?_)
    cases f with
    | true =>
      refine Ev.pos rfl (Ev.pos (by omega) (Ev.pos (by omega) (Ev.pos (by omega) (Ev.pos (by omega) ?_))))
      refine Ev.bind (impl_commute_ev l hl _ _) ?_
      rw [freeD, Bool.true_and] at hT hF
      exact ih (j + 1) _ (by omega) hT hF
    | false =>
      refine Ev.neg (by simp) (ih (j + 1) false (by omega) (fun z => by simp at z) (fun _ => hF (by simp)))
theorem impl_leastTrace_l1 (l : List ByteArray) (hl : l.length ≤ 140737488351232) (w s : ByteArray) (hw : w.size ≤ 16) (h0 : 0 < w.size) (hs : s.size + w.size ≤ 16) (R : ByteArray)
    (next : Ev (fun k => impl_leastTrace.l0 k l (w.extract 0 (bst l w w.size) ++ w.extract (bst l w w.size + 1) w.size) (s ++ w.extract (bst l w w.size) (bst l w w.size + 1))) R) :
    ∀ (d i : Nat), i + d = w.size → Ev (fun k => impl_leastTrace.l1 k l w s (bst l w i : Int) w.size i) R := by
  intro d
  induction d with
  | zero =>
    intro i h
    rw [show i = w.size by omega]
    have hb := bst_lt l w w.size (by omega)
    have w1 : Aside0 (wrap64 ((bst l w w.size : Int) + 1) = ((bst l w w.size + 1 : Nat) : Int)) := ⟨by rw [wr (by omega) (by omega)]; rfl⟩
    have hc := cut_size hb
    rw [ByteArray.size_append] at hc
    have h1 : (w.extract (bst l w w.size) (bst l w w.size + 1)).size = 1 := by rw [ByteArray.size_extract]; omega
    refine Ev.step (fun k => by rw [impl_leastTrace.l1, w1.out, Int.toNat_natCast, Int.toNat_natCast]) (Ev.neg (by omega) ?_)
    exact Ev.pos (by omega) (Ev.pos (by omega) (Ev.pos (by omega) (Ev.pos (by omega) (Ev.pos (by omega) (Ev.pos (by omega) (Ev.pos (by omega) next))))))
  | succ d ih =>
    intro i h
    have next2 := ih (i + 1) (by omega)
    rw [bst] at next2
    have hb : bst l w i < w.size := by
      by_cases hi : i = 0
      · subst hi; exact h0
      · have := bst_lt l w i (by omega); omega
    refine Ev.step (fun k => by rw [impl_leastTrace.l1]) (Ev.pos (by omega) ?_)
    refine impl_leastTrace_l2 l hl w s hw (bst l w i) i (by omega) hb _ i 0 true (by omega) (fun z => ?_) (fun z => ?_)
    · rw [if_pos (by rw [Bool.true_and] at z; exact z)] at next2; exact next2
    · rw [if_neg (by rw [Bool.true_and] at z; rw [z]; simp)] at next2; exact next2
theorem impl_leastTrace_l0 (l : List ByteArray) (hl : l.length ≤ 140737488351232) : ∀ (d : Nat) (w s : ByteArray), w.size = d → w.size ≤ 16 → s.size + w.size ≤ 16 → Ev (fun k => impl_leastTrace.l0 k l w s) (leastT l d w s) := by
  intro d
  induction d with
  | zero =>
    intro w s h h16 hs
    exact Ev.step (fun k => by rw [impl_leastTrace.l0]) (Ev.pos (toList_nil.2 h) (Ev.now s))
  | succ d ih =>
    intro w s h h16 hs
    have hb := bst_lt l w w.size (by omega)
    have hc := cut_size hb
    have h1 : (w.extract (bst l w w.size) (bst l w w.size + 1)).size = 1 := by rw [ByteArray.size_extract]; omega
    rw [leastT, if_neg (by omega)]
    refine Ev.step (fun k => by rw [impl_leastTrace.l0]) (Ev.neg (fun z => by rw [toList_nil] at z; omega) ?_)
    exact impl_leastTrace_l1 l hl w s h16 (by omega) hs _ (ih _ _ (by omega) (by omega) (by rw [ByteArray.size_append]; omega)) w.size 0 (by omega)
theorem impl_leastTrace_ev (l : List ByteArray) (hl : l.length ≤ 140737488351232) (w : ByteArray) (hw : w.size ≤ 16) : Ev (fun k => impl_leastTrace.f k l w) (leastT l w.size w (⟨#[]⟩ : ByteArray)) := by
  unfold impl_leastTrace.f
  exact impl_leastTrace_l0 l hl w.size w _ rfl hw (by show 0 + w.size ≤ 16; omega)

theorem impl_LeastTrace_ev (K : Int) (l : List ByteArray) (w : ByteArray) (hl : l.length ≤ 140737488351232) (hz : ∀ s ∈ l, s.size ≤ 140737488351232) (hw : w.size ≤ 140737488351232) : Ev (fun k => impl_LeastTrace.f k K l w) (leastTrace K l w) := by
  unfold impl_LeastTrace.f leastTrace
  refine Ev.bind (impl_CommuteOk_ev K l hl hz) ?_
  by_cases h1 : commuteOk K l = true
  · refine Ev.pos h1 (Ev.bind (impl_WordOk_ev K w hw) ?_)
    by_cases h2 : longOk 16 K w = true
    · have h : traceOk K l w = true := by unfold traceOk; rw [h1, h2]; rfl
      rw [if_pos h]
      exact Ev.pos h2 (Ev.bind (impl_leastTrace_ev l hl w (traceOk_word h).1) (Ev.now _))
    · rw [if_neg (fun z => h2 (by unfold traceOk at z; rw [Bool.and_eq_true] at z; exact z.2))]
      exact Ev.neg h2 (Ev.now _)
  · rw [if_neg (fun z => h1 (by unfold traceOk at z; rw [Bool.and_eq_true] at z; exact z.1))]
    exact Ev.neg h1 (Ev.now _)

theorem FnExactLeastTrace : laws_FnExactLeastTrace.Pure := by
  intro K l w _ hl hz hw
  apply Ev.rounds
  unfold laws_FnExactLeastTrace.f
  have hn : l.length ≤ 17592186044416 := by omega
  obtain ⟨r, e, _⟩ := laws_szStringS_ev l hl hz 1048576 (by omega) (by omega)
  refine Ev.ite (fun h => Ev.now _) (fun h => Ev.bind e (Ev.ite (fun h => Ev.now _) (fun h => ?_)))
  refine Ev.bind (laws_toStringS_ev l hn) (Ev.bind (spec_LeastTrace_ev K l w (by omega) hz hw) (Ev.bind (laws_toStringS_ev l hn) (Ev.bind (impl_LeastTrace_ev K l w (by omega) hz hw) (Ev.pos rfl ?_))))
  rw [bne_self_eq_false]
  refine Ev.step (f := fun k => (laws_toStringS.f k l).bind fun t159 => ((laws_eqStringS.f k l t159).bind fun t162 => (if t162 = true then (some true) else (some false)))) (fun k => by rw [laws_FnExactLeastTrace.j0, if_neg (by simp)]) ?_
  exact Ev.bind (laws_toStringS_ev l hn) (Ev.bind (laws_eqStringS_same l (by omega)) (Ev.pos rfl (Ev.now _)))

end Go.Proofs.Ytkklcjfpgfgkdad.Pure
