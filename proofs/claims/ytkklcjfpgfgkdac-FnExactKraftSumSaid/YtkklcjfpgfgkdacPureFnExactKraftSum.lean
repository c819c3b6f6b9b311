/- The program's KraftSum returns what the reference's returns: for all lists of words that fit the row's reach, and all numbers. -/
import Derived.Test.YtkklcjfpgfgkdacQFnExactKraftSumx3
import Derived.Test.YtkklcjfpgfgkdacThy
set_option linter.unusedVariables false
set_option linter.unusedSimpArgs false
namespace Go.Proofs.Ytkklcjfpgfgkdac.Pure
open Go.RowKit Go.Proofs.Ytkklcjfpgfgkdac.QFnExactKraftSum Go.Proofs.YtkklcjfpgfgkdacW.PrintWords Go.Proofs.YtkklcjfpgfgkdacW.PrintLast Go.Proofs.YtkklcjfpgfgkdacW.PrintMore Go.Proofs.Ytkklcjfpgfgkdac.Thy

def sumSz (l : List ByteArray) : Nat := (l.map ByteArray.size).sum
theorem sumSz_cons (s : ByteArray) (l : List ByteArray) : sumSz (s :: l) = s.size + sumSz l := by simp [sumSz]
theorem mem_sumSz {s : ByteArray} : ∀ {l : List ByteArray}, s ∈ l → s.size ≤ sumSz l
  | x :: l, h => by
    rw [sumSz_cons]
    rcases List.mem_cons.1 h with rfl | h
    · omega
    · have := mem_sumSz h; omega
theorem laws_szStringS_l0 (xs : List ByteArray) (hx : xs.length ≤ 140737488351232) (hz : ∀ s ∈ xs, s.size ≤ 140737488351232) : ∀ (d i : Nat) (a : Int), i + d = xs.length → 0 ≤ a → a ≤ 140737488351232 → ∃ r, Ev (fun k => laws_szStringS.l0 k xs a i) r ∧ (0 ≤ r → (sumSz (xs.drop i) : Int) ≤ a) := by
  intro d
  induction d with
  | zero => intro i a h h0 h1; exact ⟨a, Ev.step (fun _ => rfl) (Ev.neg (by omega) (Ev.now _)), fun _ => by rw [List.drop_of_length_le (by omega)]; exact h0⟩
  | succ d ih =>
    intro i a h h0 h1
    have hi : i < xs.length := by omega
    have hm := hz xs[i] (List.getElem_mem hi)
    have hr : rdOf ByteArray.empty xs (i : Int) = xs[i] := rdOf_nat hi
    have w1 : wrap64 ((i : Int) + 1) = ((i + 1 : Nat) : Int) := by rw [wr (by omega) (by omega)]; rfl
    have w2 : wrap64 (a - ((xs[i].size : Nat) : Int)) = a - xs[i].size := wr (by omega) (by omega)
    by_cases c : a - xs[i].size < 0
    · exact ⟨-1, Ev.step (fun k => by rw [laws_szStringS.l0, hr, w2]) (Ev.pos (by omega) (Ev.pos (by omega) (Ev.pos c (Ev.now _)))), fun h => absurd h (by omega)⟩
    · obtain ⟨r, e, hh⟩ := ih (i + 1) (a - xs[i].size) (by omega) (by omega) (by omega)
      refine ⟨r, Ev.step (fun k => by rw [laws_szStringS.l0, hr, w2, w1]) (Ev.pos (by omega) (Ev.pos (by omega) (Ev.neg c e))), fun h => ?_⟩
      have := hh h
      rw [List.drop_eq_getElem_cons hi, sumSz_cons]
      omega
theorem laws_szStringS_ev (xs : List ByteArray) (hx : xs.length * 16 ≤ 140737488351232) (hz : ∀ s ∈ xs, s.size ≤ 140737488351232) (a : Int) (a0 : 0 ≤ a) (a1 : a ≤ 140737488351232) : ∃ r, Ev (fun k => laws_szStringS.f k xs a) r ∧ (0 ≤ r → (xs.length : Int) + sumSz xs ≤ a) := by
  unfold laws_szStringS.f
  have w : wrap64 (a - (xs.length : Int)) = a - xs.length := wr (by omega) (by omega)
  rw [w]
  by_cases c : a - (xs.length : Int) < 0
  · exact ⟨-1, Ev.pos c (Ev.now _), fun h => absurd h (by omega)⟩
  · obtain ⟨r, e, hh⟩ := laws_szStringS_l0 xs (by omega) hz xs.length 0 (a - xs.length) (by omega) (by omega) (by omega)
    exact ⟨r, Ev.neg c e, fun h => by have := hh h; rw [List.drop_zero] at this; omega⟩

theorem laws_toStringS_l0 (xs : List ByteArray) (hx : xs.length ≤ 17592186044416) : ∀ (d i : Nat), i + d = xs.length → Ev (fun k => laws_toStringS.l0 k xs (xs.take i ++ List.replicate d (⟨#[]⟩ : ByteArray)) i) xs := by
  intro d
  induction d with
  | zero => intro i h; exact Ev.step (fun _ => rfl) (Ev.neg (by omega) (Ev.now' (by rw [List.take_of_length_le (by omega)]; simp)))
  | succ d ih =>
    intro i h
    have w1 : wrap64 ((i : Int) + 1) = ((i + 1 : Nat) : Int) := by rw [wr (by omega) (by omega)]; rfl
    have hl : (xs.take i).length = i := by rw [List.length_take]; omega
    have hs : (xs.take i ++ List.replicate (d + 1) (⟨#[]⟩ : ByteArray)).set i (rdOf ByteArray.empty xs (i : Int)) = xs.take (i + 1) ++ List.replicate d (⟨#[]⟩ : ByteArray) := by
      rw [rdOf_nat (by omega), List.set_append_right _ _ (by omega), hl, Nat.sub_self, List.replicate_succ, List.set_cons_zero, List.take_succ_eq_append_getElem (by omega), List.append_assoc]
      rfl
    refine Ev.step (fun k => by rw [laws_toStringS.l0, w1, Int.toNat_natCast, hs]) (Ev.pos (by omega) (Ev.pos (by omega) (Ev.pos (by rw [List.length_append, hl, List.length_replicate]; omega) (ih (i + 1) (by omega)))))
theorem laws_toStringS_ev (xs : List ByteArray) (hx : xs.length ≤ 17592186044416) : Ev (fun k => laws_toStringS.f k xs) xs := by
  unfold laws_toStringS.f
  refine Ev.pos (by omega) (Ev.pos (by omega) ?_)
  simpa using laws_toStringS_l0 xs hx xs.length 0 (by omega)

theorem laws_eqStringS_l0 (xs : List ByteArray) (hx : xs.length ≤ 140737488351232) : ∀ (d i : Nat), i + d = xs.length → Ev (fun k => laws_eqStringS.l0 k xs xs i) true := by
  intro d
  induction d with
  | zero => intro i h; exact Ev.step (fun _ => rfl) (Ev.neg (by omega) (Ev.now _))
  | succ d ih =>
    intro i h
    have w1 : wrap64 ((i : Int) + 1) = ((i + 1 : Nat) : Int) := by rw [wr (by omega) (by omega)]; rfl
    exact Ev.step (fun k => by rw [laws_eqStringS.l0, w1]) (Ev.pos (by omega) (Ev.pos (by omega) (Ev.pos (by omega) (Ev.pos rfl (ih (i + 1) (by omega))))))
theorem laws_eqStringS_same (xs : List ByteArray) (hx : xs.length ≤ 140737488351232) : Ev (fun k => laws_eqStringS.f k xs xs) true := by
  unfold laws_eqStringS.f
  exact Ev.pos rfl (laws_eqStringS_l0 xs hx xs.length 0 (by omega))

theorem spec_l01In_eq (a b c : Int) : spec_l01In.f a b c = some (decide (b ≤ a ∧ a ≤ c)) := by
  unfold spec_l01In.f; split <;> simp <;> omega

theorem spec_WordOk_l0 (x : Int) (w : ByteArray) (hw : w.size ≤ 140737488351232) (hx : 1 ≤ x ∧ x ≤ 4) : ∀ (d : Nat) (i : Int), 0 ≤ i → i ≤ w.size → (w.size : Int) - i = d → Ev (fun k => spec_WordOk.l0 k x w i) (letters x ((N w).drop i.toNat)) := by
  intro d
  induction d with
  | zero =>
    intro i h0 h1 hd
    refine Ev.step (fun _ => rfl) (Ev.neg (by omega) (Ev.now' ?_))
    rw [N_done w i (by omega)]; rfl
  | succ d ih =>
    intro i h0 h1 hd
    have hb := bt_range w i
    rw [N_cons w i h0 (by omega), letters_cons]
    refine Ev.step (fun _ => rfl) (Ev.pos (by omega) (Ev.pos h0 (Ev.ite (fun h => Ev.now' ?_) (fun h => Ev.ite (fun h2 => Ev.now' ?_) (fun h2 => ?_)))))
    · simp; omega
    · simp; omega
    · rw [wr (by omega) (by omega)]
      refine Ev.eq (ih (i + 1) (by omega) (by omega) (by omega)) ?_
      rw [decide_eq_true (by omega), decide_eq_true (by omega)]; simp
theorem spec_WordOk_ev (x : Int) (w : ByteArray) (hw : w.size ≤ 140737488351232) : Ev (fun k => spec_WordOk.f k x w) (longOk 16 x w) := by
  unfold spec_WordOk.f longOk
  refine Ev.bind (spec_l01In_eq .. ▸ Ev.now _) (Ev.ite (fun h => ?_) (fun h => ?_))
  · have h2 := of_decide_eq_true h
    refine Ev.step (fun _ => rfl) (Ev.ite (fun h => Ev.now' ?_) (fun h => Ev.eq (spec_WordOk_l0 x w hw h2 w.size 0 (by omega) (by omega) (by omega)) ?_))
    · grind
    · grind
  · refine Ev.step (fun _ => spec_WordOk.j0.eq_2 ..) (Ev.pos rfl (Ev.now' ?_))
    grind

theorem spec_l04Has_l0 (l : List ByteArray) (x : ByteArray) (hl : l.length ≤ 140737488351232) : ∀ (d i : Nat), i + d = l.length → Ev (fun k => spec_l04Has.l0 k x l l.length i) (decide (x ∈ l.drop i)) := by
  intro d
  induction d with
  | zero => intro i h; refine Ev.step (fun _ => rfl) (Ev.neg (by omega) (Ev.now' ?_)); rw [List.drop_of_length_le (by omega)]; simp
  | succ d ih =>
    intro i h
    have hi : i < l.length := by omega
    have w1 : wrap64 ((i : Int) + 1) = ((i + 1 : Nat) : Int) := by rw [wr (by omega) (by omega)]; rfl
    rw [List.drop_eq_getElem_cons hi]
    refine Ev.step (fun k => by rw [spec_l04Has.l0, w1, rdOf_nat hi]) (Ev.pos (by omega) (Ev.pos (by omega) (Ev.pos (by omega) (Ev.ite (fun c => Ev.now' ?_) (fun c => Ev.eq (ih (i + 1) (by omega)) ?_)))))
    · rw [toList_inj] at c; symm; rw [decide_eq_true_eq, List.mem_cons]; exact .inl c.symm
    · rw [toList_inj] at c; rw [decide_eq_decide, List.mem_cons]; exact ⟨.inr, fun h => h.resolve_left (fun z => c z.symm)⟩
theorem spec_l04Has_ev (l : List ByteArray) (x : ByteArray) (hl : l.length ≤ 140737488351232) : Ev (fun k => spec_l04Has.f k l x) (decide (x ∈ l)) := by
  unfold spec_l04Has.f
  exact Ev.eq (spec_l04Has_l0 l x hl l.length 0 (by omega)) (by rw [List.drop_zero])

/-- Are the words from place i on good, and none of them among those before? -/
def listFrom (l : List ByteArray) : Nat → Nat → Bool
  | 0, _ => true
  | d + 1, i => (longOk 16 4 (l.getD i ByteArray.empty) && decide (1 ≤ (l.getD i ByteArray.empty).size) && decide ((l.getD i ByteArray.empty).size ≤ 6) && !decide (l.getD i ByteArray.empty ∈ l.take i)) && listFrom l d (i + 1)
def listOk (l : List ByteArray) : Bool := decide (1 ≤ l.length) && decide (l.length ≤ 8) && listFrom l l.length 0

theorem spec_ListOk_l0 (l : List ByteArray) (hl : l.length ≤ 8) (hz : ∀ s ∈ l, s.size ≤ 140737488351232) : ∀ (d i : Nat), i + d = l.length → Ev (fun k => spec_ListOk.l0 k l l l.length i) (listFrom l d i) := by
  intro d
  induction d with
  | zero => intro i h; exact Ev.step (fun _ => rfl) (Ev.neg (by omega) (Ev.now _))
  | succ d ih =>
    intro i h
    have hi : i < l.length := by omega
    have hs := hz l[i] (List.getElem_mem hi)
    have w1 : wrap64 ((i : Int) + 1) = ((i + 1 : Nat) : Int) := by rw [wr (by omega) (by omega)]; rfl
    have hg : l.getD i ByteArray.empty = l[i] := by rw [List.getD_eq_getElem?_getD, List.getElem?_eq_getElem hi]; rfl
    rw [listFrom, hg]
    refine Ev.step (fun k => by rw [spec_ListOk.l0, w1, rdOf_nat hi, Int.toNat_natCast]) (Ev.pos (by omega) (Ev.pos (by omega) (Ev.pos (by omega) (Ev.bind (spec_WordOk_ev 4 l[i] hs) ?_))))
    refine Ev.ite (fun c => ?_) (fun c => Ev.now' (by rw [Bool.eq_false_iff.2 c]; simp))
    refine Ev.bind (Ev.eqc (spec_l01In_eq ..)) ?_
    refine Ev.ite (fun c2 => ?_) (fun c2 => Ev.now' (by grind))
    refine Ev.pos (by omega) (Ev.bind (spec_l04Has_ev (l.take i) l[i] (by rw [List.length_take]; omega)) ?_)
    refine Ev.ite (fun c3 => Ev.now' (by rw [c3]; simp)) (fun c3 => Ev.eq (ih (i + 1) (by omega)) ?_)
    rw [Bool.eq_false_iff.2 c3, c]; grind
theorem spec_ListOk_ev (l : List ByteArray) (hl : l.length ≤ 140737488351232) (hz : ∀ s ∈ l, s.size ≤ 140737488351232) : Ev (fun k => spec_ListOk.f k l) (listOk l) := by
  unfold spec_ListOk.f listOk
  refine Ev.bind (spec_l01In_eq .. ▸ Ev.now _) (Ev.ite (fun h => ?_) (fun h => Ev.now' (by grind)))
  have h2 := of_decide_eq_true h
  refine Ev.eq (spec_ListOk_l0 l (by omega) hz l.length 0 (by omega)) ?_
  rw [decide_eq_true (by omega), decide_eq_true (by omega)]; simp

/-- K to the power of n, for small numbers. -/
def kp (K : Int) : Nat → Int
  | 0 => 1
  | n + 1 => kp K n * K
theorem kp_succ (K : Int) (n : Nat) : kp K n * K = kp K (n + 1) := rfl
theorem kp_zero (K : Int) : kp K 0 = 1 := rfl
theorem kp_cases {K : Int} (h1 : 1 ≤ K) (h4 : K ≤ 4) {P : Int → Prop} (p1 : P 1) (p2 : P 2) (p3 : P 3) (p4 : P 4) : P K := by
  obtain rfl | rfl | rfl | rfl : K = 1 ∨ K = 2 ∨ K = 3 ∨ K = 4 := by omega
  · exact p1
  · exact p2
  · exact p3
  · exact p4
theorem kp_le {K : Int} (h1 : 1 ≤ K) (h4 : K ≤ 4) {n : Nat} (hn : n ≤ 6) : 1 ≤ kp K n ∧ kp K n ≤ 4096 := by
  have : ∀ n : Nat, n ≤ 6 → (1 ≤ kp 1 n ∧ kp 1 n ≤ 4096) ∧ (1 ≤ kp 2 n ∧ kp 2 n ≤ 4096) ∧ (1 ≤ kp 3 n ∧ kp 3 n ≤ 4096) ∧ (1 ≤ kp 4 n ∧ kp 4 n ≤ 4096) := by
    intro n hn
    obtain rfl | rfl | rfl | rfl | rfl | rfl | rfl : n = 0 ∨ n = 1 ∨ n = 2 ∨ n = 3 ∨ n = 4 ∨ n = 5 ∨ n = 6 := by omega
    all_goals decide
  obtain ⟨a, b, c, d⟩ := this n hn
  exact kp_cases h1 h4 (P := fun K => 1 ≤ kp K n ∧ kp K n ≤ 4096) a b c d
/-- The sum's part from place i on. -/
def kraftFrom (K : Int) (l : List ByteArray) : Nat → Nat → Int
  | 0, _ => 0
  | d + 1, i => kp K (6 - (l.getD i ByteArray.empty).size) + kraftFrom K l d (i + 1)

theorem listFrom_size {l : List ByteArray} : ∀ {d i j : Nat}, listFrom l d i = true → i ≤ j → j < i + d → 1 ≤ (l.getD j ByteArray.empty).size ∧ (l.getD j ByteArray.empty).size ≤ 6 := by
  intro d
  induction d with
  | zero => intro i j h h1 h2; omega
  | succ d ih =>
    intro i j h h1 h2
    rw [listFrom] at h
    simp only [Bool.and_eq_true, decide_eq_true_eq] at h
    rcases Nat.eq_or_lt_of_le h1 with rfl | h3
    · exact ⟨h.1.1.1.2, h.1.1.2⟩
    · exact ih h.2 h3 (by omega)
theorem listOk_size {l : List ByteArray} (h : listOk l = true) {i : Nat} (hi : i < l.length) : 1 ≤ l[i].size ∧ l[i].size ≤ 6 := by
  unfold listOk at h
  simp only [Bool.and_eq_true, decide_eq_true_eq] at h
  have := listFrom_size (j := i) h.2 (by omega) (by omega)
  rw [List.getD_eq_getElem?_getD, List.getElem?_eq_getElem hi] at this
  exact this
theorem listOk_length {l : List ByteArray} (h : listOk l = true) : 1 ≤ l.length ∧ l.length ≤ 8 := by
  unfold listOk at h
  simp only [Bool.and_eq_true, decide_eq_true_eq] at h
  exact ⟨h.1.1, h.1.2⟩

theorem spec_KraftSum_l2 (K : Int) (h1 : 1 ≤ K) (h4 : K ≤ 4) (s : Int) : ∀ (d n : Nat), n + d = 6 → Ev (fun k => spec_KraftSum.l2 k K s (kp K n) n) (s, kp K 6) := by
  intro d
  induction d with
  | zero => intro n h; exact Ev.step (fun _ => rfl) (Ev.neg (by omega) (Ev.now' (by rw [show n = 6 by omega])))
  | succ d ih =>
    intro n h
    have := (kp_le h1 h4 (n := n + 1) (by omega))
    have w1 : Aside0 (wrap64 ((n : Int) + 1) = ((n + 1 : Nat) : Int)) := ⟨by rw [wr (by omega) (by omega)]; rfl⟩
    have w2 : Aside0 (wrap64 (kp K n * K) = kp K (n + 1)) := ⟨by rw [kp_succ, wr (by omega) (by omega)]⟩
    exact Ev.step (fun k => by rw [spec_KraftSum.l2, w1.out, w2.out]) (Ev.pos (by omega) (ih (n + 1) (by omega)))
theorem spec_KraftSum_l1 (K : Int) (h1 : 1 ≤ K) (h4 : K ≤ 4) (s : Int) (l : List ByteArray) (i : Nat) (z : Nat) (hz : z ≤ 6) (R : Int × Int) (next : Ev (fun k => spec_KraftSum.l0 k K (wrap64 (s + kp K (6 - z))) l l.length (wrap64 ((i : Int) + 1))) R) :
    ∀ (d n : Nat), n + d = 6 - z → Ev (fun k => spec_KraftSum.l1 k K s (kp K n) ((z + n : Nat) : Int) l l.length i) R := by
  intro d
  induction d with
  | zero => intro n h; rw [show n = 6 - z by omega]; exact Ev.step (fun _ => rfl) (Ev.neg (by omega) next)
  | succ d ih =>
    intro n h
    have := (kp_le h1 h4 (n := n + 1) (by omega))
    have w1 : Aside0 (wrap64 (((z + n : Nat) : Int) + 1) = ((z + (n + 1) : Nat) : Int)) := ⟨by rw [wr (by omega) (by omega)]; omega⟩
    have w2 : Aside0 (wrap64 (kp K n * K) = kp K (n + 1)) := ⟨by rw [kp_succ, wr (by omega) (by omega)]⟩
    exact Ev.step (fun k => by rw [spec_KraftSum.l1, w1.out, w2.out]) (Ev.pos (by omega) (ih (n + 1) (by omega)))
theorem spec_KraftSum_l0 (K : Int) (h1 : 1 ≤ K) (h4 : K ≤ 4) (l : List ByteArray) (hl : listOk l = true) : ∀ (d i : Nat) (s : Int), i + d = l.length → 0 ≤ s → s ≤ 4096 * i → Ev (fun k => spec_KraftSum.l0 k K s l l.length i) (s + kraftFrom K l d i, kp K 6) := by
  have hlen := listOk_length hl
  intro d
  induction d with
  | zero =>
    intro i s h s0 s1
    refine Ev.step (fun _ => rfl) (Ev.neg (by omega) (Ev.eq (spec_KraftSum_l2 K h1 h4 s 6 0 (by omega)) ?_))
    rw [kraftFrom, Int.add_zero]
  | succ d ih =>
    intro i s h s0 s1
    have hi : i < l.length := by omega
    have hs := listOk_size hl hi
    have hg : l.getD i ByteArray.empty = l[i] := by rw [List.getD_eq_getElem?_getD, List.getElem?_eq_getElem hi]; rfl
    have hk := kp_le h1 h4 (n := 6 - l[i].size) (by omega)
    rw [kraftFrom, hg]
    refine Ev.step (fun k => by rw [spec_KraftSum.l0, rdOf_nat hi]) (Ev.pos (by omega) (Ev.pos (by omega) (Ev.pos (by omega) ?_)))
    refine spec_KraftSum_l1 K h1 h4 s l i l[i].size hs.2 _ ?_ (6 - l[i].size) 0 (by omega)
    rw [wr (by omega) (by omega), wr (by omega) (by omega), show ((i : Int) + 1) = ((i + 1 : Nat) : Int) by omega]
    refine Ev.eq (ih (i + 1) _ (by omega) (by omega) (by omega)) ?_
    rw [Int.add_assoc]
theorem spec_KraftSum_ev (l : List ByteArray) (K : Int) (hl : l.length ≤ 140737488351232) (hz : ∀ s ∈ l, s.size ≤ 140737488351232) : Ev (fun k => spec_KraftSum.f k l K) (if listOk l = true ∧ 1 ≤ K ∧ K ≤ 4 then (kraftFrom K l l.length 0, kp K 6) else (0, 0)) := by
  unfold spec_KraftSum.f
  have stop : ∀ k, spec_KraftSum.j0 (k + 1) l K true = some (0, 0) := fun k => by rw [spec_KraftSum.j0, if_pos rfl]
  refine Ev.bind (spec_ListOk_ev l hl hz) ?_
  by_cases h : listOk l = true
  · refine Ev.pos h (Ev.bind (Ev.eqc (spec_l01In_eq ..)) ?_)
    by_cases hK : 1 ≤ K ∧ K ≤ 4
    · rw [decide_eq_true hK, if_pos ⟨h, hK⟩]
      refine Ev.step (f := fun k => spec_KraftSum.l0 k K 0 l l.length 0) (fun k => by rw [Bool.not_true, spec_KraftSum.j0, if_neg (by simp)]) ?_
      refine Ev.eq (spec_KraftSum_l0 K hK.1 hK.2 l h l.length 0 0 (by omega) (by omega) (by omega)) ?_
      rw [Int.zero_add]
    · rw [decide_eq_false hK, if_neg (fun z => hK z.2)]
      exact Ev.step (fun k => stop k) (Ev.now _)
  · rw [if_neg (fun z => h z.1)]
    exact Ev.neg h (Ev.step stop (Ev.now _))

theorem impl_within_eq (a b c : Int) : impl_within.f a b c = some (decide (b ≤ a ∧ a ≤ c)) := by
  unfold impl_within.f; split <;> simp <;> omega

theorem slices_Index_l0 (l : List ByteArray) (x : ByteArray) (hl : l.length ≤ 140737488351232) : ∀ (d i : Nat), i + d = l.length → ∃ r : Int, Ev (fun k => slices_Index_string_string.l0 k l x l.length i) r ∧ (0 ≤ r ↔ x ∈ l.drop i) := by
  intro d
  induction d with
  | zero => intro i h; refine ⟨-1, Ev.step (fun _ => rfl) (Ev.neg (by omega) (Ev.now _)), ?_⟩; rw [List.drop_of_length_le (by omega)]; simp
  | succ d ih =>
    intro i h
    have hi : i < l.length := by omega
    have w1 : wrap64 ((i : Int) + 1) = ((i + 1 : Nat) : Int) := by rw [wr (by omega) (by omega)]; rfl
    rw [List.drop_eq_getElem_cons hi]
    by_cases c : x = l[i]
    · exact ⟨i, Ev.step (fun k => by rw [slices_Index_string_string.l0, w1, rdOf_nat hi]) (Ev.pos (by omega) (Ev.pos (by omega) (Ev.pos (by omega) (Ev.pos (toList_inj.2 c) (Ev.now _))))), by rw [List.mem_cons]; simp [c]⟩
    · obtain ⟨r, e, hr⟩ := ih (i + 1) (by omega)
      exact ⟨r, Ev.step (fun k => by rw [slices_Index_string_string.l0, w1, rdOf_nat hi]) (Ev.pos (by omega) (Ev.pos (by omega) (Ev.pos (by omega) (Ev.neg (fun z => c (toList_inj.1 z)) e)))), by rw [List.mem_cons]; simp [c, hr]⟩

theorem slices_Contains_ev (l : List ByteArray) (x : ByteArray) (hl : l.length ≤ 140737488351232) : Ev (fun k => slices_Contains_string_string.f k l x) (decide (x ∈ l)) := by
  unfold slices_Contains_string_string.f slices_Index_string_string.f
  obtain ⟨r, e, hr⟩ := slices_Index_l0 l x hl l.length 0 (by omega)
  refine Ev.bind e (Ev.now' ?_)
  rw [List.drop_zero] at hr
  by_cases h : x ∈ l
  · rw [decide_eq_true h, decide_eq_true (hr.2 h)]
  · rw [decide_eq_false h, decide_eq_false (fun z => h (hr.1 z))]

theorem impl_hasLetters_l0 (x : Int) (w : ByteArray) (hw : w.size ≤ 140737488351232) (hx : 1 ≤ x ∧ x ≤ 4) : ∀ (d : Nat) (i : Int), 0 ≤ i → i ≤ w.size → (w.size : Int) - i = d → Ev (fun k => impl_hasLetters.l0 k x w w.size i) (letters x ((N w).drop i.toNat)) := by
  intro d
  induction d with
  | zero =>
    intro i h0 h1 hd
    refine Ev.step (fun _ => rfl) (Ev.neg (by omega) (Ev.now' ?_))
    rw [N_done w i (by omega)]; rfl
  | succ d ih =>
    intro i h0 h1 hd
    have hb := bt_range w i
    rw [N_cons w i h0 (by omega), letters_cons]
    refine Ev.step (fun _ => rfl) (Ev.pos (by omega) (Ev.pos h0 (Ev.pos (by omega) (Ev.bind (impl_within_eq .. ▸ Ev.now _) ?_))))
    rw [wr (by omega) (by omega), wr (n := 97 + x) (by omega) (by omega), wr (n := 97 + x - 1) (by omega) (by omega)]
    refine Ev.ite (fun h => ?_) (fun h => Ev.now' ?_)
    · rw [wr (by omega) (by omega)]
      refine Ev.eq (ih (i + 1) (by omega) (by omega) (by omega)) ?_
      grind
    · grind

theorem impl_WordOk_ev (x : Int) (w : ByteArray) (hw : w.size ≤ 140737488351232) : Ev (fun k => impl_WordOk.f k x w) (longOk 16 x w) := by
  unfold impl_WordOk.f longOk
  refine Ev.bind (impl_within_eq .. ▸ Ev.now _) (Ev.ite (fun h => ?_) (fun h => Ev.now' (by grind)))
  have h2 := of_decide_eq_true h
  refine Ev.ite (fun h => Ev.bind (impl_hasLetters_l0 x w hw h2 w.size 0 (by omega) (by omega) (by omega)) (Ev.now' (by grind))) (fun h => Ev.now' (by grind))

theorem impl_ListOk_l0 (l : List ByteArray) (hl : l.length ≤ 8) (hz : ∀ s ∈ l, s.size ≤ 140737488351232) : ∀ (d i : Nat), i + d = l.length → Ev (fun k => impl_ListOk.l0 k l l l.length i) (listFrom l d i) := by
  intro d
  induction d with
  | zero => intro i h; exact Ev.step (fun _ => rfl) (Ev.neg (by omega) (Ev.now _))
  | succ d ih =>
    intro i h
    have hi : i < l.length := by omega
    have hs := hz l[i] (List.getElem_mem hi)
    have w1 : wrap64 ((i : Int) + 1) = ((i + 1 : Nat) : Int) := by rw [wr (by omega) (by omega)]; rfl
    have hg : l.getD i ByteArray.empty = l[i] := by rw [List.getD_eq_getElem?_getD, List.getElem?_eq_getElem hi]; rfl
    rw [listFrom, hg]
    refine Ev.step (fun k => by rw [impl_ListOk.l0, w1, rdOf_nat hi, Int.toNat_natCast]) (Ev.pos (by omega) (Ev.pos (by omega) (Ev.pos (by omega) (Ev.bind (Ev.eqc (impl_within_eq ..)) ?_))))
    refine Ev.ite (fun c2 => ?_) (fun c2 => Ev.now' (by grind))
    refine Ev.bind (impl_WordOk_ev 4 l[i] hs) ?_
    refine Ev.ite (fun c => ?_) (fun c => Ev.now' (by rw [Bool.eq_false_iff.2 c]; simp))
    refine Ev.pos (by omega) (Ev.bind (slices_Contains_ev (l.take i) l[i] (by rw [List.length_take]; omega)) ?_)
    refine Ev.ite (fun c3 => Ev.now' (by rw [c3]; simp)) (fun c3 => Ev.eq (ih (i + 1) (by omega)) ?_)
    rw [Bool.eq_false_iff.2 c3, c]; grind
theorem impl_ListOk_ev (l : List ByteArray) (hl : l.length ≤ 140737488351232) (hz : ∀ s ∈ l, s.size ≤ 140737488351232) : Ev (fun k => impl_ListOk.f k l) (listOk l) := by
  unfold impl_ListOk.f listOk
  refine Ev.bind (impl_within_eq .. ▸ Ev.now _) (Ev.ite (fun h => ?_) (fun h => Ev.now' (by grind)))
  have h2 := of_decide_eq_true h
  refine Ev.eq (impl_ListOk_l0 l (by omega) hz l.length 0 (by omega)) ?_
  rw [decide_eq_true (by omega), decide_eq_true (by omega)]; simp

theorem kp_div {K : Int} (h1 : 1 ≤ K) (h4 : K ≤ 4) {n : Nat} (hn : n < 6) : wrap64 (Int.tdiv (kp K (n + 1)) K) = kp K n := by
  have h := kp_le h1 h4 (n := n + 1) (by omega)
  have h2 := kp_le h1 h4 (n := n) (by omega)
  rw [← kp_succ, Int.mul_tdiv_cancel _ (by omega), wr (by omega) (by omega)]
theorem impl_KraftSum_l2 (K : Int) (h1 : 1 ≤ K) (h4 : K ≤ 4) (s : Int) (l : List ByteArray) (i : Nat) (z : Nat) (hz : z ≤ 6) (R : Int × Int) (next : Ev (fun k => impl_KraftSum.l1 k K (wrap64 (s + kp K (6 - z))) (kp K 6) l l.length (wrap64 ((i : Int) + 1))) R) :
    ∀ (d n : Nat), n + d = z → Ev (fun k => impl_KraftSum.l2 k K s (kp K 6) (kp K (6 - n)) l l.length i z n) R := by
  intro d
  induction d with
  | zero => intro n h; rw [show n = z by omega]; exact Ev.step (fun _ => rfl) (Ev.neg (by omega) next)
  | succ d ih =>
    intro n h
    have w1 : Aside0 (wrap64 ((n : Int) + 1) = ((n + 1 : Nat) : Int)) := ⟨by rw [wr (by omega) (by omega)]; rfl⟩
    have w2 : Aside0 (wrap64 (Int.tdiv (kp K (6 - n)) K) = kp K (6 - (n + 1))) := ⟨by
      have := kp_div h1 h4 (n := 6 - (n + 1)) (by omega)
      rw [show 6 - (n + 1) + 1 = 6 - n by omega] at this
      exact this⟩
    exact Ev.step (fun k => by rw [impl_KraftSum.l2, w1.out, w2.out]) (Ev.pos (by omega) (Ev.neg (by omega) (ih (n + 1) (by omega))))
theorem impl_KraftSum_l1 (K : Int) (h1 : 1 ≤ K) (h4 : K ≤ 4) (l : List ByteArray) (hl : listOk l = true) : ∀ (d i : Nat) (s : Int), i + d = l.length → 0 ≤ s → s ≤ 4096 * i → Ev (fun k => impl_KraftSum.l1 k K s (kp K 6) l l.length i) (s + kraftFrom K l d i, kp K 6) := by
  have hlen := listOk_length hl
  intro d
  induction d with
  | zero => intro i s h s0 s1; exact Ev.step (fun _ => rfl) (Ev.neg (by omega) (Ev.now' (by rw [kraftFrom, Int.add_zero])))
  | succ d ih =>
    intro i s h s0 s1
    have hi : i < l.length := by omega
    have hs := listOk_size hl hi
    have hg : l.getD i ByteArray.empty = l[i] := by rw [List.getD_eq_getElem?_getD, List.getElem?_eq_getElem hi]; rfl
    have hk := kp_le h1 h4 (n := 6 - l[i].size) (by omega)
    rw [kraftFrom, hg]
    refine Ev.step (fun k => by rw [impl_KraftSum.l1, rdOf_nat hi]) (Ev.pos (by omega) (Ev.pos (by omega) (Ev.pos (by omega) ?_)))
    refine impl_KraftSum_l2 K h1 h4 s l i l[i].size hs.2 _ ?_ l[i].size 0 (by omega)
    rw [wr (by omega) (by omega), wr (by omega) (by omega), show ((i : Int) + 1) = ((i + 1 : Nat) : Int) by omega]
    refine Ev.eq (ih (i + 1) _ (by omega) (by omega) (by omega)) ?_
    rw [Int.add_assoc]
theorem impl_KraftSum_l0 (K : Int) (h1 : 1 ≤ K) (h4 : K ≤ 4) (l : List ByteArray) (hl : listOk l = true) : ∀ (d n : Nat), n + d = 6 → Ev (fun k => impl_KraftSum.l0 k l K 0 (kp K n) n) (kraftFrom K l l.length 0, kp K 6) := by
  intro d
  induction d with
  | zero =>
    intro n h
    rw [show n = 6 by omega]
    refine Ev.step (fun _ => rfl) (Ev.neg (by omega) (Ev.eq (impl_KraftSum_l1 K h1 h4 l hl l.length 0 0 (by omega) (by omega) (by omega)) ?_))
    rw [Int.zero_add]
  | succ d ih =>
    intro n h
    have := (kp_le h1 h4 (n := n + 1) (by omega))
    have w1 : Aside0 (wrap64 ((n : Int) + 1) = ((n + 1 : Nat) : Int)) := ⟨by rw [wr (by omega) (by omega)]; rfl⟩
    have w2 : Aside0 (wrap64 (kp K n * K) = kp K (n + 1)) := ⟨by rw [kp_succ, wr (by omega) (by omega)]⟩
    exact Ev.step (fun k => by rw [impl_KraftSum.l0, w1.out, w2.out]) (Ev.pos (by omega) (ih (n + 1) (by omega)))
theorem impl_KraftSum_ev (l : List ByteArray) (K : Int) (hl : l.length ≤ 140737488351232) (hz : ∀ s ∈ l, s.size ≤ 140737488351232) : Ev (fun k => impl_KraftSum.f k l K) (if listOk l = true ∧ 1 ≤ K ∧ K ≤ 4 then (kraftFrom K l l.length 0, kp K 6) else (0, 0)) := by
  unfold impl_KraftSum.f
  have stop : ∀ k, impl_KraftSum.j0 (k + 1) l K true = some (0, 0) := fun k => by rw [impl_KraftSum.j0, if_pos rfl]
  refine Ev.bind (impl_ListOk_ev l hl hz) ?_
  by_cases h : listOk l = true
  · refine Ev.pos h (Ev.bind (Ev.eqc (impl_within_eq ..)) ?_)
    by_cases hK : 1 ≤ K ∧ K ≤ 4
    · rw [decide_eq_true hK, if_pos ⟨h, hK⟩]
      refine Ev.step (f := fun k => impl_KraftSum.l0 k l K 0 1 0) (fun k => by rw [Bool.not_true, impl_KraftSum.j0, if_neg (by simp)]) ?_
      exact impl_KraftSum_l0 K hK.1 hK.2 l h 6 0 (by omega)
    · rw [decide_eq_false hK, if_neg (fun z => hK z.2)]
      exact Ev.step (fun k => stop k) (Ev.now _)
  · rw [if_neg (fun z => h z.1)]
    exact Ev.neg h (Ev.step stop (Ev.now _))

theorem FnExactKraftSum : laws_FnExactKraftSum.Pure := by
  intro l K hl hz _
  apply Ev.rounds
  unfold laws_FnExactKraftSum.f
  have hn : l.length ≤ 17592186044416 := by omega
  obtain ⟨r, e, _⟩ := laws_szStringS_ev l hl hz 1048576 (by omega) (by omega)
  refine Ev.bind e (Ev.ite (fun h => Ev.now _) (fun h => Ev.bind (laws_toStringS_ev l hn) (Ev.bind (spec_KraftSum_ev l K (by omega) hz) (Ev.bind (laws_toStringS_ev l hn) (Ev.bind (impl_KraftSum_ev l K (by omega) hz) (Ev.pos rfl ?_))))))
  rw [bne_self_eq_false]
  refine Ev.step (f := fun k => (laws_toStringS.f k l).bind fun t145 => ((laws_eqStringS.f k l t145).bind fun t148 => (if t148 = true then (some true) else (some false)))) (fun k => by rw [laws_FnExactKraftSum.j0, if_neg (by simp)]) ?_
  exact Ev.bind (laws_toStringS_ev l hn) (Ev.bind (laws_eqStringS_same l (by omega)) (Ev.pos rfl (Ev.now _)))

end Go.Proofs.Ytkklcjfpgfgkdac.Pure
