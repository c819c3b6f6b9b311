/- The program's IsSuffixCode returns what the reference's returns: for all lists of words that fit the row's reach. -/
import Derived.Test.YtkklcjfpgfgkdadQFnExactIsSuffixCodex4
import Derived.Test.YtkklcjfpgfgkdadThy
set_option linter.unusedVariables false
set_option linter.unusedSimpArgs false
namespace Go.Proofs.Ytkklcjfpgfgkdad.Pure
open Go.RowKit Go.Proofs.Ytkklcjfpgfgkdad.QFnExactIsSuffixCode Go.Proofs.YtkklcjfpgfgkdadW.PrintWords Go.Proofs.YtkklcjfpgfgkdadW.PrintLast Go.Proofs.YtkklcjfpgfgkdadW.PrintMore Go.Proofs.Ytkklcjfpgfgkdad.Thy

def sumSz (l : List ByteArray) : Nat := (l.map ByteArray.size).sum
theorem sumSz_cons (s : ByteArray) (l : List ByteArray) : sumSz (s :: l) = s.size + sumSz l := by simp [sumSz]
theorem mem_sumSz {s : ByteArray} : ∀ {l : List ByteArray}, s ∈ l → s.size ≤ sumSz l
  | x :: l, h => by
    rw [sumSz_cons]
    rcases List.mem_cons.1 h with rfl | h
    · omega
    · have := mem_sumSz h; omega
theorem laws_szStringS_l0 (xs : List ByteArray) (hx : xs.length ≤ 140737488351232) (hz : ∀ s ∈ xs, s.size ≤ 140737488351232) : ∀ (d i : Nat) (a : Int), i + d = xs.length → 0 ≤ a → a ≤ 140737488351232 → ∃ r, Ev (fun k => laws_szStringS.l0 k xs a i) r ∧ (0 ≤ r → (sumSz (xs.drop i) : Int) ≤ a) := by
  intro d
  induction d with
  | zero => intro i a h h0 h1; exact ⟨a, Ev.step (fun _ => rfl) (Ev.neg (by omega) (Ev.now _)), fun _ => by rw [List.drop_of_length_le (by omega)]; exact h0⟩
  | succ d ih =>
    intro i a h h0 h1
    have hi : i < xs.length := by omega
    have hm := hz xs[i] (List.getElem_mem hi)
    have hr : rdOf ByteArray.empty xs (i : Int) = xs[i] := rdOf_nat hi
    have w1 : wrap64 ((i : Int) + 1) = ((i + 1 : Nat) : Int) := by rw [wr (by omega) (by omega)]; rfl
    have w2 : wrap64 (a - ((xs[i].size : Nat) : Int)) = a - xs[i].size := wr (by omega) (by omega)
    by_cases c : a - xs[i].size < 0
    · exact ⟨-1, Ev.step (fun k => by rw [laws_szStringS.l0, hr, w2]) (Ev.pos (by omega) (Ev.pos (by omega) (Ev.pos c (Ev.now _)))), fun h => absurd h (by omega)⟩
    · obtain ⟨r, e, hh⟩ := ih (i + 1) (a - xs[i].size) (by omega) (by omega) (by omega)
      refine ⟨r, Ev.step (fun k => by rw [laws_szStringS.l0, hr, w2, w1]) (Ev.pos (by omega) (Ev.pos (by omega) (Ev.neg c e))), fun h => ?_⟩
      have := hh h
      rw [List.drop_eq_getElem_cons hi, sumSz_cons]
      omega
theorem laws_szStringS_ev (xs : List ByteArray) (hx : xs.length * 16 ≤ 140737488351232) (hz : ∀ s ∈ xs, s.size ≤ 140737488351232) (a : Int) (a0 : 0 ≤ a) (a1 : a ≤ 140737488351232) : ∃ r, Ev (fun k => laws_szStringS.f k xs a) r ∧ (0 ≤ r → (xs.length : Int) + sumSz xs ≤ a) := by
  unfold laws_szStringS.f
  have w : wrap64 (a - (xs.length : Int)) = a - xs.length := wr (by omega) (by omega)
  rw [w]
  by_cases c : a - (xs.length : Int) < 0
  · exact ⟨-1, Ev.pos c (Ev.now _), fun h => absurd h (by omega)⟩
  · obtain ⟨r, e, hh⟩ := laws_szStringS_l0 xs (by omega) hz xs.length 0 (a - xs.length) (by omega) (by omega) (by omega)
    exact ⟨r, Ev.neg c e, fun h => by have := hh h; rw [List.drop_zero] at this; omega⟩

theorem laws_toStringS_l0 (xs : List ByteArray) (hx : xs.length ≤ 17592186044416) : ∀ (d i : Nat), i + d = xs.length → Ev (fun k => laws_toStringS.l0 k xs (xs.take i ++ List.replicate d (⟨#[]⟩ : ByteArray)) i) xs := by
  intro d
  induction d with
  | zero => intro i h; exact Ev.step (fun _ => rfl) (Ev.neg (by omega) (Ev.now' (by rw [List.take_of_length_le (by omega)]; simp)))
  | succ d ih =>
    intro i h
    have w1 : wrap64 ((i : Int) + 1) = ((i + 1 : Nat) : Int) := by rw [wr (by omega) (by omega)]; rfl
    have hl : (xs.take i).length = i := by rw [List.length_take]; omega
    have hs : (xs.take i ++ List.replicate (d + 1) (⟨#[]⟩ : ByteArray)).set i (rdOf ByteArray.empty xs (i : Int)) = xs.take (i + 1) ++ List.replicate d (⟨#[]⟩ : ByteArray) := by
      rw [rdOf_nat (by omega), List.set_append_right _ _ (by omega), hl, Nat.sub_self, List.replicate_succ, List.set_cons_zero, List.take_succ_eq_append_getElem (by omega), List.append_assoc]
      rfl
    refine Ev.step (fun k => by rw [laws_toStringS.l0, w1, Int.toNat_natCast, hs]) (Ev.pos (by omega) (Ev.pos (by omega) (Ev.pos (by rw [List.length_append, hl, List.length_replicate]; omega) (ih (i + 1) (by omega)))))
theorem laws_toStringS_ev (xs : List ByteArray) (hx : xs.length ≤ 17592186044416) : Ev (fun k => laws_toStringS.f k xs) xs := by
  unfold laws_toStringS.f
  refine Ev.pos (by omega) (Ev.pos (by omega) ?_)
  simpa using laws_toStringS_l0 xs hx xs.length 0 (by omega)

theorem laws_eqStringS_l0 (xs : List ByteArray) (hx : xs.length ≤ 140737488351232) : ∀ (d i : Nat), i + d = xs.length → Ev (fun k => laws_eqStringS.l0 k xs xs i) true := by
  intro d
  induction d with
  | zero => intro i h; exact Ev.step (fun _ => rfl) (Ev.neg (by omega) (Ev.now _))
  | succ d ih =>
    intro i h
    have w1 : wrap64 ((i : Int) + 1) = ((i + 1 : Nat) : Int) := by rw [wr (by omega) (by omega)]; rfl
    exact Ev.step (fun k => by rw [laws_eqStringS.l0, w1]) (Ev.pos (by omega) (Ev.pos (by omega) (Ev.pos (by omega) (Ev.pos rfl (ih (i + 1) (by omega))))))
theorem laws_eqStringS_same (xs : List ByteArray) (hx : xs.length ≤ 140737488351232) : Ev (fun k => laws_eqStringS.f k xs xs) true := by
  unfold laws_eqStringS.f
  exact Ev.pos rfl (laws_eqStringS_l0 xs hx xs.length 0 (by omega))

theorem spec_l01In_eq (a b c : Int) : spec_l01In.f a b c = some (decide (b ≤ a ∧ a ≤ c)) := by
  unfold spec_l01In.f; split <;> simp <;> omega

theorem spec_WordOk_l0 (x : Int) (w : ByteArray) (hw : w.size ≤ 140737488351232) (hx : 1 ≤ x ∧ x ≤ 4) : ∀ (d : Nat) (i : Int), 0 ≤ i → i ≤ w.size → (w.size : Int) - i = d → Ev (fun k => spec_WordOk.l0 k x w i) (letters x ((N w).drop i.toNat)) := by
  intro d
  induction d with
  | zero =>
    intro i h0 h1 hd
    refine Ev.step (fun _ => rfl) (Ev.neg (by omega) (Ev.now' ?_))
    rw [N_done w i (by omega)]; rfl
  | succ d ih =>
    intro i h0 h1 hd
    have hb := bt_range w i
    rw [N_cons w i h0 (by omega), letters_cons]
    refine Ev.step (fun _ => rfl) (Ev.pos (by omega) (Ev.pos h0 (Ev.ite (fun h => Ev.now' ?_) (fun h => Ev.ite (fun h2 => Ev.now' ?_) (fun h2 => ?_)))))
    · simp; omega
    · simp; omega
    · rw [wr (by omega) (by omega)]
      refine Ev.eq (ih (i + 1) (by omega) (by omega) (by omega)) ?_
      rw [decide_eq_true (by omega), decide_eq_true (by omega)]; simp
theorem spec_WordOk_ev (x : Int) (w : ByteArray) (hw : w.size ≤ 140737488351232) : Ev (fun k => spec_WordOk.f k x w) (longOk 16 x w) := by
  unfold spec_WordOk.f longOk
  refine Ev.bind (spec_l01In_eq .. ▸ Ev.now _) (Ev.ite (fun h => ?_) (fun h => ?_))
  · have h2 := of_decide_eq_true h
    refine Ev.step (fun _ => rfl) (Ev.ite (fun h => Ev.now' ?_) (fun h => Ev.eq (spec_WordOk_l0 x w hw h2 w.size 0 (by omega) (by omega) (by omega)) ?_))
    · grind
    · grind
  · refine Ev.step (fun _ => spec_WordOk.j0.eq_2 ..) (Ev.pos rfl (Ev.now' ?_))
    grind

theorem spec_l04Has_l0 (l : List ByteArray) (x : ByteArray) (hl : l.length ≤ 140737488351232) : ∀ (d i : Nat), i + d = l.length → Ev (fun k => spec_l04Has.l0 k x l l.length i) (decide (x ∈ l.drop i)) := by
  intro d
  induction d with
  | zero => intro i h; refine Ev.step (fun _ => rfl) (Ev.neg (by omega) (Ev.now' ?_)); rw [List.drop_of_length_le (by omega)]; simp
  | succ d ih =>
    intro i h
    have hi : i < l.length := by omega
    have w1 : wrap64 ((i : Int) + 1) = ((i + 1 : Nat) : Int) := by rw [wr (by omega) (by omega)]; rfl
    rw [List.drop_eq_getElem_cons hi]
    refine Ev.step (fun k => by rw [spec_l04Has.l0, w1, rdOf_nat hi]) (Ev.pos (by omega) (Ev.pos (by omega) (Ev.pos (by omega) (Ev.ite (fun c => Ev.now' ?_) (fun c => Ev.eq (ih (i + 1) (by omega)) ?_)))))
    · rw [toList_inj] at c; symm; rw [decide_eq_true_eq, List.mem_cons]; exact .inl c.symm
    · rw [toList_inj] at c; rw [decide_eq_decide, List.mem_cons]; exact ⟨.inr, fun h => h.resolve_left (fun z => c z.symm)⟩
theorem spec_l04Has_ev (l : List ByteArray) (x : ByteArray) (hl : l.length ≤ 140737488351232) : Ev (fun k => spec_l04Has.f k l x) (decide (x ∈ l)) := by
  unfold spec_l04Has.f
  exact Ev.eq (spec_l04Has_l0 l x hl l.length 0 (by omega)) (by rw [List.drop_zero])

/-- Are the words from place i on good, and none of them among those before? -/
def listFrom (l : List ByteArray) : Nat → Nat → Bool
  | 0, _ => true
  | d + 1, i => (longOk 16 4 (l.getD i ByteArray.empty) && decide (1 ≤ (l.getD i ByteArray.empty).size) && decide ((l.getD i ByteArray.empty).size ≤ 6) && !decide (l.getD i ByteArray.empty ∈ l.take i)) && listFrom l d (i + 1)
def listOk (l : List ByteArray) : Bool := decide (1 ≤ l.length) && decide (l.length ≤ 8) && listFrom l l.length 0

theorem spec_ListOk_l0 (l : List ByteArray) (hl : l.length ≤ 8) (hz : ∀ s ∈ l, s.size ≤ 140737488351232) : ∀ (d i : Nat), i + d = l.length → Ev (fun k => spec_ListOk.l0 k l l l.length i) (listFrom l d i) := by
  intro d
  induction d with
  | zero => intro i h; exact Ev.step (fun _ => rfl) (Ev.neg (by omega) (Ev.now _))
  | succ d ih =>
    intro i h
    have hi : i < l.length := by omega
    have hs := hz l[i] (List.getElem_mem hi)
    have w1 : wrap64 ((i : Int) + 1) = ((i + 1 : Nat) : Int) := by rw [wr (by omega) (by omega)]; rfl
    have hg : l.getD i ByteArray.empty = l[i] := by rw [List.getD_eq_getElem?_getD, List.getElem?_eq_getElem hi]; rfl
    rw [listFrom, hg]
    refine Ev.step (fun k => by rw [spec_ListOk.l0, w1, rdOf_nat hi, Int.toNat_natCast]) (Ev.pos (by omega) (Ev.pos (by omega) (Ev.pos (by omega) (Ev.bind (spec_WordOk_ev 4 l[i] hs) ?_))))
    refine Ev.ite (fun c => ?_) (fun c => Ev.now' (by rw [Bool.eq_false_iff.2 c]; simp))
    refine Ev.bind (Ev.eqc (spec_l01In_eq ..)) ?_
    refine Ev.ite (fun c2 => ?_) (fun c2 => Ev.now' (by grind))
    refine Ev.pos (by omega) (Ev.bind (spec_l04Has_ev (l.take i) l[i] (by rw [List.length_take]; omega)) ?_)
    refine Ev.ite (fun c3 => Ev.now' (by rw [c3]; simp)) (fun c3 => Ev.eq (ih (i + 1) (by omega)) ?_)
    rw [Bool.eq_false_iff.2 c3, c]; grind
theorem spec_ListOk_ev (l : List ByteArray) (hl : l.length ≤ 140737488351232) (hz : ∀ s ∈ l, s.size ≤ 140737488351232) : Ev (fun k => spec_ListOk.f k l) (listOk l) := by
  unfold spec_ListOk.f listOk
  refine Ev.bind (spec_l01In_eq .. ▸ Ev.now _) (Ev.ite (fun h => ?_) (fun h => Ev.now' (by grind)))
  have h2 := of_decide_eq_true h
  refine Ev.eq (spec_ListOk_l0 l (by omega) hz l.length 0 (by omega)) ?_
  rw [decide_eq_true (by omega), decide_eq_true (by omega)]; simp

theorem spec_l22Begins_eq (s t : ByteArray) : spec_l22Begins.f s t = some ((N s).take t.size == N t) := by
  unfold spec_l22Begins.f
  by_cases h : (t.size : Int) ≤ (s.size : Int)
  · rw [if_pos h, if_pos (by omega)]
    congr 1
    rw [Bool.eq_iff_iff, beq_iff_eq, beq_iff_eq, bytes_eqN, N_extract, Int.toNat_natCast, List.drop_zero, Nat.sub_zero]
  · rw [if_neg h]
    congr 1
    symm
    rw [beq_eq_false_iff_ne]
    intro z
    have := congrArg List.length z
    rw [List.length_take, N_length, N_length] at this
    omega

def lessB (u v : ByteArray) : Bool := if u.size = v.size then Op.bytesLess u.toList v.toList else decide (u.size < v.size)
/-- Insertion behind all that are less. -/
def insB (x : ByteArray) : List ByteArray → List ByteArray
  | [] => [x]
  | y :: l => if lessB y x = true then y :: insB x l else x :: y :: l
theorem insB_length (x : ByteArray) : ∀ l, (insB x l).length = l.length + 1
  | [] => rfl
  | y :: l => by
    rw [insB]; split
    · rw [List.length_cons, insB_length x l, List.length_cons]
    · simp
def sortFrom (acc : List ByteArray) : List ByteArray → List ByteArray
  | [] => acc
  | x :: l => sortFrom (insB x acc) l
def sortB (l : List ByteArray) : List ByteArray := sortFrom [] l
theorem sortFrom_length : ∀ (l acc : List ByteArray), (sortFrom acc l).length = acc.length + l.length
  | [], acc => by simp [sortFrom]
  | x :: l, acc => by rw [sortFrom, sortFrom_length l, insB_length]; simp; omega
theorem sortB_length (l : List ByteArray) : (sortB l).length = l.length := by unfold sortB; rw [sortFrom_length]; simp
/-- A word put into a sorted list, if it is not there. -/
def putB (l : List ByteArray) (x : ByteArray) : List ByteArray := if x ∈ l then l else sortB (l ++ [x])
theorem putB_length (l : List ByteArray) (x : ByteArray) : (putB l x).length ≤ l.length + 1 ∧ 1 ≤ (putB l x).length := by
  unfold putB
  split
  · rename_i h
    have := List.length_pos_of_mem h
    omega
  · rw [sortB_length]; simp

theorem spec_IsLess_eq (u v : ByteArray) : spec_IsLess.f u v = some (lessB u v) := by
  unfold spec_IsLess.f lessB
  by_cases h : u.size = v.size
  · rw [if_pos (by omega), if_pos h]
  · rw [if_neg (by omega), if_neg h]
    congr 1
    rw [decide_eq_decide]
    omega

theorem spec_l15Sort_l1 (l : List ByteArray) (x : ByteArray) (j : Nat) (hj : j ≤ 1000000) (out : List ByteArray) (ho : out.length ≤ 1000000) (R : List ByteArray)
    (next : Ev (fun k => spec_l15Sort.l0 k (insB x out) l l.length ((j + 1 : Nat) : Int)) R) :
    ∀ (d i : Nat), i + d = out.length → insB x out = out.take i ++ insB x (out.drop i) → Ev (fun k => spec_l15Sort.l1 k out x i l l.length j) R := by
  have w1 : Aside0 (wrap64 ((j : Int) + 1) = ((j + 1 : Nat) : Int)) := ⟨by rw [wr (by omega) (by omega)]; rfl⟩
  have fin : ∀ i : Nat, i ≤ out.length → insB x out = out.take i ++ [x] ++ out.drop i → Ev (fun k => (if ([] : List ByteArray).length + (out.take i).length < 8796093022208 then (if ([] ++ out.take i).length < 8796093022208 then (if ([] ++ out.take i ++ [x]).length + (out.drop i).length < 8796093022208 then (spec_l15Sort.l0 k ([] ++ out.take i ++ [x] ++ out.drop i) l l.length ((j + 1 : Nat) : Int)) else (none)) else (none)) else (none))) R := by
    intro i hi he
    have hl : (out.take i).length ≤ out.length := by rw [List.length_take]; omega
    have hd : (out.drop i).length ≤ out.length := by rw [List.length_drop]; omega
    refine Ev.pos (by simp only [List.length_nil]; omega) (Ev.pos (by rw [List.nil_append]; omega) (Ev.pos (by rw [List.nil_append, List.length_append]; simp only [List.length_cons, List.length_nil]; omega) ?_))
    rw [List.nil_append, ← he]
    exact next
  intro d
  induction d with
  | zero =>
    intro i h he
    refine Ev.step (fun k => by rw [spec_l15Sort.l1, w1.out, Int.toNat_natCast]) (Ev.neg (by omega) ?_)
    simp only [Option.bind_some]
    refine Ev.congr (fun k => by rw [if_pos (show (0 : Int) ≤ (i : Int) by omega), if_pos (show (i : Int) ≤ (out.length : Int) by omega)]) (fin i (by omega) ?_)
    rw [he, List.drop_of_length_le (by omega), insB, List.append_nil]
  | succ d ih =>
    intro i h he
    have hi : i < out.length := by omega
    have w2 : Aside0 (wrap64 ((i : Int) + 1) = ((i + 1 : Nat) : Int)) := ⟨by rw [wr (by omega) (by omega)]; rfl⟩
    have hdr := List.drop_eq_getElem_cons hi
    refine Ev.step (fun k => by rw [spec_l15Sort.l1, w1.out, w2.out, Int.toNat_natCast, rdOf_nat hi, spec_IsLess_eq]) (Ev.pos (by omega) (Ev.pos (by omega) ?_))
    simp only [Option.bind_some]
    refine Ev.ite (fun c => ih (i + 1) (by omega) ?_) (fun c => ?_)
    · rw [he, hdr, insB, if_pos c, List.take_succ_eq_append_getElem hi, List.append_assoc]; rfl
    · refine Ev.congr (fun k => by rw [if_pos (show (i : Int) ≤ (out.length : Int) by omega)]) (fin i (by omega) ?_)
      rw [he, hdr, insB, if_neg c, List.append_assoc]; rfl
theorem spec_l15Sort_l0 (l : List ByteArray) (hl : l.length ≤ 1000000) : ∀ (d j : Nat) (out : List ByteArray), j + d = l.length → out.length = j → Ev (fun k => spec_l15Sort.l0 k out l l.length j) (sortFrom out (l.drop j)) := by
  intro d
  induction d with
  | zero => intro j out h ho; exact Ev.step (fun k => by rw [spec_l15Sort.l0]) (Ev.neg (by omega) (Ev.now' (by rw [List.drop_of_length_le (by omega), sortFrom])))
  | succ d ih =>
    intro j out h ho
    have hj : j < l.length := by omega
    rw [List.drop_eq_getElem_cons hj, sortFrom]
    refine Ev.step (fun k => by rw [spec_l15Sort.l0, rdOf_nat hj]) (Ev.pos (by omega) (Ev.pos (by omega) (Ev.pos (by omega) ?_)))
    exact spec_l15Sort_l1 l l[j] j (by omega) out (by omega) _ (ih (j + 1) _ (by omega) (by rw [insB_length, ho])) out.length 0 (by omega) (by simp)
theorem spec_l15Sort_ev (l : List ByteArray) (hl : l.length ≤ 1000000) : Ev (fun k => spec_l15Sort.f k l) (sortB l) := by
  unfold spec_l15Sort.f sortB
  exact spec_l15Sort_l0 l hl l.length 0 [] (by omega) rfl

theorem spec_l22Put_ev (l : List ByteArray) (x : ByteArray) (hl : l.length ≤ 100000) : Ev (fun k => spec_l22Put.f k l x) (putB l x) := by
  unfold spec_l22Put.f putB
  refine Ev.bind (spec_l04Has_ev l x (by omega)) ?_
  by_cases h : x ∈ l
  · rw [if_pos h, decide_eq_true h]; exact Ev.pos rfl (Ev.now _)
  · rw [if_neg h, decide_eq_false h]
    refine Ev.neg (by simp) ?_
    simp only [Option.bind_some, List.nil_append, List.length_nil]
    exact Ev.pos (by omega) (Ev.pos (by omega) (Ev.bind (spec_l15Sort_ev (l ++ [x]) (by simp; omega)) (Ev.now _)))

/-- Word k begins word i, another one. -/
def beg (u v : ByteArray) : Bool := (N u).take v.size == N v
def hit (l : List ByteArray) (i k : Nat) : Bool := decide (i ≠ k) && beg (l.getD i ByteArray.empty) (l.getD k ByteArray.empty)
def tailOf (u v : ByteArray) : ByteArray := u.extract v.size u.size
def stepF (l : List ByteArray) (i k : Nat) (acc : List ByteArray) : List ByteArray := if hit l i k = true then putB acc (tailOf (l.getD i ByteArray.empty) (l.getD k ByteArray.empty)) else acc
def firstIn (l : List ByteArray) (i : Nat) : Nat → Nat → List ByteArray → List ByteArray
  | 0, _, acc => acc
  | e + 1, k, acc => firstIn l i e (k + 1) (stepF l i k acc)
def firstOut (l : List ByteArray) : Nat → Nat → List ByteArray → List ByteArray
  | 0, _, acc => acc
  | d + 1, i, acc => firstOut l d (i + 1) (firstIn l i l.length 0 acc)
theorem stepF_length (l : List ByteArray) (i k : Nat) (acc : List ByteArray) : (stepF l i k acc).length ≤ acc.length + 1 := by
  unfold stepF; split
  · exact (putB_length _ _).1
  · omega
theorem firstIn_length (l : List ByteArray) (i : Nat) : ∀ e k acc, (firstIn l i e k acc).length ≤ acc.length + e
  | 0, _, acc => Nat.le_refl _
  | e + 1, k, acc => by
    rw [firstIn]
    have := firstIn_length l i e (k + 1) (stepF l i k acc)
    have := stepF_length l i k acc
    omega
def anyIn (l : List ByteArray) (i : Nat) : Nat → Nat → Bool
  | 0, _ => false
  | e + 1, k => hit l i k || anyIn l i e (k + 1)
def anyOut (l : List ByteArray) : Nat → Nat → Bool
  | 0, _ => false
  | d + 1, i => anyIn l i l.length 0 || anyOut l d (i + 1)
theorem firstIn_nil (l : List ByteArray) (i : Nat) : ∀ e k acc, firstIn l i e k acc = [] ↔ acc = [] ∧ anyIn l i e k = false
  | 0, _, acc => by simp [firstIn, anyIn]
  | e + 1, k, acc => by
    rw [firstIn, firstIn_nil l i e (k + 1), anyIn, Bool.or_eq_false_iff]
    unfold stepF
    by_cases h : hit l i k = true
    · rw [if_pos h, h]
      have := (putB_length acc (tailOf (l.getD i ByteArray.empty) (l.getD k ByteArray.empty))).2
      constructor
      · rintro ⟨h1, _⟩; rw [h1] at this; simp at this
      · rintro ⟨_, h2, _⟩; cases h2
    · rw [if_neg h, Bool.eq_false_iff.2 h]; simp
theorem firstOut_nil (l : List ByteArray) : ∀ d i acc, firstOut l d i acc = [] ↔ acc = [] ∧ anyOut l d i = false
  | 0, _, acc => by simp [firstOut, anyOut]
  | d + 1, i, acc => by
    rw [firstOut, firstOut_nil l d (i + 1), firstIn_nil, anyOut, Bool.or_eq_false_iff, and_assoc]
def prefixCode (l : List ByteArray) : Bool := listOk l && !anyOut l l.length 0

theorem spec_l22First_l1 (l : List ByteArray) (hl : l.length ≤ 8) (i : Nat) (hi : i < l.length) (R : List ByteArray) :
    ∀ (e k0 : Nat) (acc : List ByteArray), k0 + e = l.length → acc.length ≤ 1000 + k0 → Ev (fun k => spec_l22First.l0 k l (firstIn l i e k0 acc) l l.length ((i + 1 : Nat) : Int)) R → Ev (fun k => spec_l22First.l1 k l acc i l[i] l l.length i l l.length k0) R := by
  have w1 : Aside0 (wrap64 ((i : Int) + 1) = ((i + 1 : Nat) : Int)) := ⟨by rw [wr (by omega) (by omega)]; rfl⟩
  have hgi : l.getD i ByteArray.empty = l[i] := by rw [List.getD_eq_getElem?_getD, List.getElem?_eq_getElem hi]; rfl
  intro e
  induction e with
  | zero =>
    intro k0 acc h ha next
    rw [firstIn] at next
    exact Ev.step (fun k => by rw [spec_l22First.l1, w1.out]) (Ev.neg (by omega) next)
  | succ e ih =>
    intro k0 acc h ha next
    have hk : k0 < l.length := by omega
    have w2 : Aside0 (wrap64 ((k0 : Int) + 1) = ((k0 + 1 : Nat) : Int)) := ⟨by rw [wr (by omega) (by omega)]; rfl⟩
    have hgk : l.getD k0 ByteArray.empty = l[k0] := by rw [List.getD_eq_getElem?_getD, List.getElem?_eq_getElem hk]; rfl
    have hst := stepF_length l i k0 acc
    have n2 := ih (k0 + 1) (stepF l i k0 acc) (by omega) (by omega) (by rw [firstIn] at next; exact next)
    unfold stepF hit beg tailOf at n2
    rw [hgi, hgk] at n2
    refine Ev.step (fun k => by rw [spec_l22First.l1, w2.out, rdOf_nat hk, spec_l22Begins_eq, Int.toNat_natCast, Option.bind_some]) (Ev.pos (by omega) (Ev.pos (by omega) (Ev.pos (by omega) ?_)))
    by_cases c : i = k0
    · rw [decide_eq_false (fun z => z c), Bool.false_and, if_neg (by simp)] at n2
      exact Ev.pos (by omega) n2
    · rw [decide_eq_true c, Bool.true_and] at n2
      refine Ev.neg (by omega) ?_
      by_cases c2 : ((N l[i]).take l[k0].size == N l[k0]) = true
      · rw [if_pos c2] at n2
        have hle : l[k0].size ≤ l[i].size := by
          rw [beq_iff_eq] at c2
          have := congrArg List.length c2
          rw [List.length_take, N_length, N_length] at this
          omega
        exact Ev.pos c2 (Ev.pos (by omega) (Ev.pos (by omega) (Ev.bind (spec_l22Put_ev acc _ (by omega)) n2)))
      · rw [if_neg c2] at n2
        exact Ev.neg c2 n2
theorem spec_l22First_l0 (l : List ByteArray) (hl : l.length ≤ 8) : ∀ (d i : Nat) (acc : List ByteArray), i + d = l.length → acc.length ≤ 8 * i → Ev (fun k => spec_l22First.l0 k l acc l l.length i) (firstOut l d i acc) := by
  intro d
  induction d with
  | zero => intro i acc h ha; exact Ev.step (fun k => by rw [spec_l22First.l0]) (Ev.neg (by omega) (Ev.now acc))
  | succ d ih =>
    intro i acc h ha
    have hi : i < l.length := by omega
    have hfl := firstIn_length l i l.length 0 acc
    rw [firstOut]
    refine Ev.step (fun k => by rw [spec_l22First.l0, rdOf_nat hi]) (Ev.pos (by omega) (Ev.pos (by omega) (Ev.pos (by omega) ?_)))
    exact spec_l22First_l1 l hl i hi _ l.length 0 acc (by omega) (by omega) (ih (i + 1) _ (by omega) (by omega))
theorem spec_l22First_ev (l : List ByteArray) (hl : l.length ≤ 8) : Ev (fun k => spec_l22First.f k l) (firstOut l l.length 0 []) := by
  unfold spec_l22First.f
  exact spec_l22First_l0 l hl l.length 0 [] (by omega) (by simp)

theorem listFrom_size {l : List ByteArray} : ∀ {d i j : Nat}, listFrom l d i = true → i ≤ j → j < i + d → 1 ≤ (l.getD j ByteArray.empty).size ∧ (l.getD j ByteArray.empty).size ≤ 6 := by
  intro d
  induction d with
  | zero => intro i j h h1 h2; omega
  | succ d ih =>
    intro i j h h1 h2
    rw [listFrom] at h
    simp only [Bool.and_eq_true, decide_eq_true_eq] at h
    rcases Nat.eq_or_lt_of_le h1 with rfl | h3
    · exact ⟨h.1.1.1.2, h.1.1.2⟩
    · exact ih h.2 h3 (by omega)
theorem listOk_size {l : List ByteArray} (h : listOk l = true) {i : Nat} (hi : i < l.length) : 1 ≤ l[i].size ∧ l[i].size ≤ 6 := by
  unfold listOk at h
  simp only [Bool.and_eq_true, decide_eq_true_eq] at h
  have := listFrom_size (j := i) h.2 (by omega) (by omega)
  rw [List.getD_eq_getElem?_getD, List.getElem?_eq_getElem hi] at this
  exact this
theorem listOk_length {l : List ByteArray} (h : listOk l = true) : 1 ≤ l.length ∧ l.length ≤ 8 := by
  unfold listOk at h
  simp only [Bool.and_eq_true, decide_eq_true_eq] at h
  exact ⟨h.1.1, h.1.2⟩

theorem spec_IsPrefixCode_ev (l : List ByteArray) (hl : l.length ≤ 140737488351232) (hz : ∀ s ∈ l, s.size ≤ 140737488351232) : Ev (fun k => spec_IsPrefixCode.f k l) (prefixCode l) := by
  unfold spec_IsPrefixCode.f prefixCode
  refine Ev.bind (spec_ListOk_ev l hl hz) (Ev.ite (fun h => ?_) (fun h => Ev.now' (by rw [Bool.eq_false_iff.2 h]; rfl)))
  refine Ev.bind (spec_l22First_ev l (listOk_length h).2) (Ev.now' ?_)
  rw [h, Bool.true_and, Bool.eq_iff_iff, beq_iff_eq]
  have := firstOut_nil l l.length 0 []
  constructor
  · intro z
    have := (this.1 (List.eq_nil_of_length_eq_zero (by omega))).2
    rw [this]; rfl
  · intro z
    have := this.2 ⟨rfl, by simpa using z⟩
    rw [this]; rfl

def mirrorB (w : ByteArray) : ByteArray := strOfNums (N w).reverse
theorem N_mirrorB (w : ByteArray) : N (mirrorB w) = (N w).reverse := N_nums (fun c hc => N_range w c (List.mem_reverse.1 hc))
theorem mirrorB_size (w : ByteArray) : (mirrorB w).size = w.size := by rw [← N_length, N_mirrorB, List.length_reverse, N_length]
theorem mirrorB_inj {u v : ByteArray} (h : mirrorB u = mirrorB v) : u = v := by
  apply N_inj
  have := congrArg N h
  rw [N_mirrorB, N_mirrorB] at this
  exact List.reverse_inj.1 this
theorem mirrorB_mirrorB (w : ByteArray) : mirrorB (mirrorB w) = w := by
  apply N_inj
  rw [N_mirrorB, N_mirrorB, List.reverse_reverse]

theorem spec_MirrorWord_l0 (w : ByteArray) (hw : w.size ≤ 140737488351232) : ∀ (i : Nat) (s : ByteArray), i ≤ w.size → s.size + i ≤ w.size → Ev (fun k => spec_MirrorWord.l0 k w s ((i : Int) - 1)) (strOfNums (N s ++ ((N w).take i).reverse)) := by
  intro i
  induction i with
  | zero => intro s h hs; exact Ev.step (fun _ => rfl) (Ev.neg (by omega) (Ev.now' (by rw [List.take_zero, List.reverse_nil, List.append_nil, B_N])))
  | succ i ih =>
    intro s h hs
    have w0 : ((i + 1 : Nat) : Int) - 1 = (i : Int) := by omega
    have w1 : Aside0 (wrap64 ((i : Int) + 1) = (i : Int) + 1) := ⟨wr (by omega) (by omega)⟩
    have w2 : Aside0 (wrap64 ((i : Int) - 1) = (i : Int) - 1) := ⟨wr (by omega) (by omega)⟩
    have hx := N_one w (i : Int) (by omega) (by omega)
    have hxs := N_one_size w (i : Int) (by omega) (by omega)
    rw [w0]
    refine Ev.step (fun k => by rw [spec_MirrorWord.l0, w1.out, w2.out]) (Ev.pos (by omega) (Ev.pos (by omega) (Ev.pos (by omega) (Ev.pos (by omega) (Ev.pos (by omega) ?_)))))
    refine Ev.eq (ih _ (by omega) (by rw [ByteArray.size_append, hxs]; omega)) ?_
    have h2 : i < (N w).length := by rw [N_length]; omega
    have hb : (N w)[i] = bt w (i : Int) := by rw [N_bt, List.getD_eq_getElem?_getD, Int.toNat_natCast, List.getElem?_eq_getElem h2]; rfl
    rw [N_append, hx, List.take_succ_eq_append_getElem h2, hb, List.reverse_append]
    simp
theorem spec_MirrorWord_ev (w : ByteArray) (hw : w.size ≤ 140737488351232) : Ev (fun k => spec_MirrorWord.f k w) (mirrorB w) := by
  unfold spec_MirrorWord.f mirrorB
  rw [wr (by omega) (by omega)]
  refine Ev.eq (spec_MirrorWord_l0 w hw w.size (⟨#[]⟩ : ByteArray) (Nat.le_refl _) (by show 0 + w.size ≤ _; omega)) ?_
  rw [List.take_of_length_le (by rw [N_length]; exact Nat.le_refl _)]; rfl

theorem spec_MirrorList_l0 (l : List ByteArray) (hl : l.length ≤ 1000000000000) (hz : ∀ s ∈ l, s.size ≤ 140737488351232) : ∀ (d i : Nat), i + d = l.length → Ev (fun k => spec_MirrorList.l0 k ((l.take i).map mirrorB) l l.length i) (l.map mirrorB) := by
  intro d
  induction d with
  | zero => intro i h; exact Ev.step (fun _ => rfl) (Ev.neg (by omega) (Ev.now' (by rw [List.take_of_length_le (by omega)])))
  | succ d ih =>
    intro i h
    have hi : i < l.length := by omega
    have w1 : Aside0 (wrap64 ((i : Int) + 1) = ((i + 1 : Nat) : Int)) := ⟨by rw [wr (by omega) (by omega)]; rfl⟩
    have hlen : ((l.take i).map mirrorB).length = i := by rw [List.length_map, List.length_take]; omega
    refine Ev.step (fun k => by rw [spec_MirrorList.l0, w1.out, rdOf_nat hi]) (Ev.pos (by omega) (Ev.pos (by omega) (Ev.pos (by omega) (Ev.bind (spec_MirrorWord_ev l[i] (hz _ (List.getElem_mem hi))) ?_))))
    refine Ev.pos (by omega) ?_
    have := ih (i + 1) (by omega)
    rw [List.take_succ_eq_append_getElem hi, List.map_append] at this
    exact this
theorem spec_MirrorList_ev (l : List ByteArray) (hl : l.length ≤ 1000000000000) (hz : ∀ s ∈ l, s.size ≤ 140737488351232) : Ev (fun k => spec_MirrorList.f k l) (l.map mirrorB) := by
  unfold spec_MirrorList.f
  exact spec_MirrorList_l0 l hl hz l.length 0 (by omega)

theorem listFrom_new {l : List ByteArray} : ∀ {d i j : Nat}, listFrom l d i = true → i ≤ j → j < i + d → l.getD j ByteArray.empty ∉ l.take j := by
  intro d
  induction d with
  | zero => intro i j h h1 h2; omega
  | succ d ih =>
    intro i j h h1 h2
    rw [listFrom] at h
    simp only [Bool.and_eq_true, decide_eq_true_eq, Bool.not_eq_true', decide_eq_false_iff_not] at h
    rcases Nat.eq_or_lt_of_le h1 with rfl | h3
    · exact h.1.2
    · exact ih h.2 h3 (by omega)
theorem listOk_distinct {l : List ByteArray} (h : listOk l = true) {i k : Nat} (hi : i < l.length) (hk : k < l.length) (e : l.getD i ByteArray.empty = l.getD k ByteArray.empty) : i = k := by
  have aux : ∀ {a b : Nat}, a < b → b < l.length → l.getD a ByteArray.empty ≠ l.getD b ByteArray.empty := by
    intro a b hab hb e
    unfold listOk at h
    simp only [Bool.and_eq_true, decide_eq_true_eq] at h
    have h2 := listFrom_new (j := b) h.2 (by omega) (by omega)
    apply h2
    rw [← e, List.getD_eq_getElem?_getD, List.getElem?_eq_getElem (by omega)]
    exact List.mem_take_iff_getElem.2 ⟨a, by omega, rfl⟩
  rcases Nat.lt_trichotomy i k with h1 | h1 | h1
  · exact absurd e (aux h1 hk)
  · exact h1
  · exact absurd e.symm (aux h1 hi)

theorem HasSuffix_eq (s t : ByteArray) (hs : s.size ≤ 140737488351232) : stringslite_HasSuffix.f s t = some (decide (t.size ≤ s.size) && ((N s).drop (s.size - t.size) == N t)) := by
  unfold stringslite_HasSuffix.f
  by_cases h : (s.size : Int) ≥ (t.size : Int)
  · have w1 : Aside0 (wrap64 ((s.size : Int) - (t.size : Int)) = ((s.size - t.size : Nat) : Int)) := ⟨by rw [wr (by omega) (by omega)]; omega⟩
    rw [w1.out, if_pos h, if_pos (by omega), if_pos (by omega), decide_eq_true (by omega), Bool.true_and]
    congr 1
    rw [Bool.eq_iff_iff, beq_iff_eq, beq_iff_eq, bytes_eqN, N_extract, Int.toNat_natCast, List.take_of_length_le (l := (N s).drop (s.size - t.size)) (by rw [List.length_drop, N_length]; exact Nat.le_refl _)]
  · rw [if_neg h, decide_eq_false (by omega)]; rfl

theorem strings_HasSuffix_eq' (s t : ByteArray) (hs : s.size ≤ 140737488351232) : strings_HasSuffix.f s t = some (decide (t.size ≤ s.size) && ((N s).drop (s.size - t.size) == N t)) := by
  unfold strings_HasSuffix.f
  rw [HasSuffix_eq s t hs]; rfl

def endsSuffix (u v : ByteArray) : Bool := (decide (v.size ≤ u.size) && ((N u).drop (u.size - v.size) == N v))
theorem relSuffix_at (u v : ByteArray) (hu : u.size ≤ 140737488351232) : strings_HasSuffix.f u v = some (endsSuffix u v) := strings_HasSuffix_eq' u v hu
def relSuffix (l : List ByteArray) (i k : Nat) : Bool := decide (l.getD i ByteArray.empty ≠ l.getD k ByteArray.empty) && endsSuffix (l.getD i ByteArray.empty) (l.getD k ByteArray.empty)
def relSuffixIn (l : List ByteArray) (i : Nat) : Nat → Nat → Bool
  | 0, _ => false
  | e + 1, k => relSuffix l i k || relSuffixIn l i e (k + 1)
def relSuffixOut (l : List ByteArray) : Nat → Nat → Bool
  | 0, _ => false
  | d + 1, i => relSuffixIn l i l.length 0 || relSuffixOut l d (i + 1)

theorem getD_map (l : List ByteArray) (i : Nat) (hi : i < l.length) : (l.map mirrorB).getD i ByteArray.empty = mirrorB (l.getD i ByteArray.empty) := by
  rw [List.getD_eq_getElem?_getD, List.getD_eq_getElem?_getD, List.getElem?_map, List.getElem?_eq_getElem hi]; rfl
theorem letters_reverse (x : Int) (l : List Int) : letters x l.reverse = letters x l := by unfold letters; rw [List.all_reverse]
theorem longOk_mirror (m x : Int) (w : ByteArray) : longOk m x (mirrorB w) = longOk m x w := by
  unfold longOk; rw [mirrorB_size, N_mirrorB, letters_reverse]
theorem mem_mirror {w : ByteArray} {l : List ByteArray} : mirrorB w ∈ l.map mirrorB ↔ w ∈ l := by
  rw [List.mem_map]
  constructor
  · rintro ⟨v, hv, e⟩; rw [← mirrorB_inj e]; exact hv
  · intro h; exact ⟨w, h, rfl⟩
theorem listFrom_mirror (l : List ByteArray) : ∀ d i, i + d = l.length → listFrom (l.map mirrorB) d i = listFrom l d i
  | 0, _, _ => rfl
  | d + 1, i, h => by
    rw [listFrom, listFrom, getD_map l i (by omega), longOk_mirror, mirrorB_size, listFrom_mirror l d (i + 1) (by omega)]
    congr 3
    rw [decide_eq_decide, ← List.map_take, mem_mirror]
theorem listOk_mirror (l : List ByteArray) : listOk (l.map mirrorB) = listOk l := by
  unfold listOk
  rw [List.length_map, listFrom_mirror l l.length 0 (by omega)]
theorem beg_mirror (u v : ByteArray) : beg (mirrorB u) (mirrorB v) = endsSuffix u v := by
  unfold beg endsSuffix
  rw [N_mirrorB, N_mirrorB, mirrorB_size]
  by_cases h : v.size ≤ u.size
  · rw [decide_eq_true h, Bool.true_and, Bool.eq_iff_iff, beq_iff_eq, beq_iff_eq, List.take_reverse, N_length, List.reverse_inj]
  · rw [decide_eq_false h, Bool.false_and, beq_eq_false_iff_ne]
    intro z
    have := congrArg List.length z
    rw [List.length_take, List.length_reverse, List.length_reverse, N_length, N_length] at this
    omega
theorem hit_mirror {l : List ByteArray} (h : listOk l = true) {i k : Nat} (hi : i < l.length) (hk : k < l.length) : hit (l.map mirrorB) i k = relSuffix l i k := by
  unfold hit relSuffix
  rw [getD_map l i hi, getD_map l k hk, beg_mirror]
  congr 1
  rw [decide_eq_decide]
  exact ⟨fun z e => z (listOk_distinct h hi hk e), fun z e => z (by rw [e])⟩
theorem anyIn_mirror {l : List ByteArray} (h : listOk l = true) {i : Nat} (hi : i < l.length) : ∀ e k, k + e = l.length → anyIn (l.map mirrorB) i e k = relSuffixIn l i e k
  | 0, _, _ => rfl
  | e + 1, k, hk => by rw [relSuffixIn, anyIn, hit_mirror h hi (by omega), anyIn_mirror h hi e (k + 1) (by omega)]
theorem anyOut_mirror {l : List ByteArray} (h : listOk l = true) : ∀ d i, i + d = l.length → anyOut (l.map mirrorB) d i = relSuffixOut l d i
  | 0, _, _ => rfl
  | d + 1, i, hi => by rw [relSuffixOut, anyOut, List.length_map, anyIn_mirror h (by omega) l.length 0 (by omega), anyOut_mirror h d (i + 1) (by omega)]
def suffixCode (l : List ByteArray) : Bool := listOk l && !relSuffixOut l l.length 0

theorem spec_IsSuffixCode_ev (l : List ByteArray) (hl : l.length ≤ 1000000000000) (hz : ∀ s ∈ l, s.size ≤ 140737488351232) : Ev (fun k => spec_IsSuffixCode.f k l) (suffixCode l) := by
  unfold spec_IsSuffixCode.f suffixCode
  have hz2 : ∀ s ∈ l.map mirrorB, s.size ≤ 140737488351232 := by
    intro s hs
    obtain ⟨v, hv, rfl⟩ := List.mem_map.1 hs
    rw [mirrorB_size]; exact hz v hv
  refine Ev.bind (spec_MirrorList_ev l hl hz) (Ev.bind (spec_IsPrefixCode_ev (l.map mirrorB) (by rw [List.length_map]; omega) hz2) ?_)
  unfold prefixCode
  rw [listOk_mirror, List.length_map]
  by_cases h : listOk l = true
  · rw [h, Bool.true_and, Bool.true_and, anyOut_mirror h l.length 0 (by omega)]
    refine Ev.ite (fun c => Ev.bind (spec_ListOk_ev l (by omega) hz) (Ev.now' (by rw [h, c]))) (fun c => Ev.now' (by rw [Bool.eq_false_iff.2 c]))
  · rw [Bool.eq_false_iff.2 h, Bool.false_and, Bool.false_and]
    exact Ev.neg (by simp) (Ev.now _)

theorem impl_within_eq (a b c : Int) : impl_within.f a b c = some (decide (b ≤ a ∧ a ≤ c)) := by
  unfold impl_within.f; split <;> simp <;> omega

theorem impl_hasLetters_l0 (x : Int) (w : ByteArray) (hw : w.size ≤ 140737488351232) (hx : 1 ≤ x ∧ x ≤ 4) : ∀ (d : Nat) (i : Int), 0 ≤ i → i ≤ w.size → (w.size : Int) - i = d → Ev (fun k => impl_hasLetters.l0 k x w w.size i) (letters x ((N w).drop i.toNat)) := by
  intro d
  induction d with
  | zero =>
    intro i h0 h1 hd
    refine Ev.step (fun _ => rfl) (Ev.neg (by omega) (Ev.now' ?_))
    rw [N_done w i (by omega)]; rfl
  | succ d ih =>
    intro i h0 h1 hd
    have hb := bt_range w i
    rw [N_cons w i h0 (by omega), letters_cons]
    refine Ev.step (fun _ => rfl) (Ev.pos (by omega) (Ev.pos h0 (Ev.pos (by omega) (Ev.bind (impl_within_eq .. ▸ Ev.now _) ?_))))
    rw [wr (by omega) (by omega), wr (n := 97 + x) (by omega) (by omega), wr (n := 97 + x - 1) (by omega) (by omega)]
    refine Ev.ite (fun h => ?_) (fun h => Ev.now' ?_)
    · rw [wr (by omega) (by omega)]
      refine Ev.eq (ih (i + 1) (by omega) (by omega) (by omega)) ?_
      grind
    · grind

theorem impl_WordOk_ev (x : Int) (w : ByteArray) (hw : w.size ≤ 140737488351232) : Ev (fun k => impl_WordOk.f k x w) (longOk 16 x w) := by
  unfold impl_WordOk.f longOk
  refine Ev.bind (impl_within_eq .. ▸ Ev.now _) (Ev.ite (fun h => ?_) (fun h => Ev.now' (by grind)))
  have h2 := of_decide_eq_true h
  refine Ev.ite (fun h => Ev.bind (impl_hasLetters_l0 x w hw h2 w.size 0 (by omega) (by omega) (by omega)) (Ev.now' (by grind))) (fun h => Ev.now' (by grind))

theorem slices_Index_l0 (l : List ByteArray) (x : ByteArray) (hl : l.length ≤ 140737488351232) : ∀ (d i : Nat), i + d = l.length → ∃ r : Int, Ev (fun k => slices_Index_string_string.l0 k l x l.length i) r ∧ (0 ≤ r ↔ x ∈ l.drop i) := by
  intro d
  induction d with
  | zero => intro i h; refine ⟨-1, Ev.step (fun _ => rfl) (Ev.neg (by omega) (Ev.now _)), ?_⟩; rw [List.drop_of_length_le (by omega)]; simp
  | succ d ih =>
    intro i h
    have hi : i < l.length := by omega
    have w1 : wrap64 ((i : Int) + 1) = ((i + 1 : Nat) : Int) := by rw [wr (by omega) (by omega)]; rfl
    rw [List.drop_eq_getElem_cons hi]
    by_cases c : x = l[i]
    · exact ⟨i, Ev.step (fun k => by rw [slices_Index_string_string.l0, w1, rdOf_nat hi]) (Ev.pos (by omega) (Ev.pos (by omega) (Ev.pos (by omega) (Ev.pos (toList_inj.2 c) (Ev.now _))))), by rw [List.mem_cons]; simp [c]⟩
    · obtain ⟨r, e, hr⟩ := ih (i + 1) (by omega)
      exact ⟨r, Ev.step (fun k => by rw [slices_Index_string_string.l0, w1, rdOf_nat hi]) (Ev.pos (by omega) (Ev.pos (by omega) (Ev.pos (by omega) (Ev.neg (fun z => c (toList_inj.1 z)) e)))), by rw [List.mem_cons]; simp [c, hr]⟩

theorem slices_Contains_ev (l : List ByteArray) (x : ByteArray) (hl : l.length ≤ 140737488351232) : Ev (fun k => slices_Contains_string_string.f k l x) (decide (x ∈ l)) := by
  unfold slices_Contains_string_string.f slices_Index_string_string.f
  obtain ⟨r, e, hr⟩ := slices_Index_l0 l x hl l.length 0 (by omega)
  refine Ev.bind e (Ev.now' ?_)
  rw [List.drop_zero] at hr
  by_cases h : x ∈ l
  · rw [decide_eq_true h, decide_eq_true (hr.2 h)]
  · rw [decide_eq_false h, decide_eq_false (fun z => h (hr.1 z))]

theorem impl_ListOk_l0 (l : List ByteArray) (hl : l.length ≤ 8) (hz : ∀ s ∈ l, s.size ≤ 140737488351232) : ∀ (d i : Nat), i + d = l.length → Ev (fun k => impl_ListOk.l0 k l l l.length i) (listFrom l d i) := by
  intro d
  induction d with
  | zero => intro i h; exact Ev.step (fun _ => rfl) (Ev.neg (by omega) (Ev.now _))
  | succ d ih =>
    intro i h
    have hi : i < l.length := by omega
    have hs := hz l[i] (List.getElem_mem hi)
    have w1 : wrap64 ((i : Int) + 1) = ((i + 1 : Nat) : Int) := by rw [wr (by omega) (by omega)]; rfl
    have hg : l.getD i ByteArray.empty = l[i] := by rw [List.getD_eq_getElem?_getD, List.getElem?_eq_getElem hi]; rfl
    rw [listFrom, hg]
    refine Ev.step (fun k => by rw [impl_ListOk.l0, w1, rdOf_nat hi, Int.toNat_natCast]) (Ev.pos (by omega) (Ev.pos (by omega) (Ev.pos (by omega) (Ev.bind (Ev.eqc (impl_within_eq ..)) ?_))))
    refine Ev.ite (fun c2 => ?_) (fun c2 => Ev.now' (by grind))
    refine Ev.bind (impl_WordOk_ev 4 l[i] hs) ?_
    refine Ev.ite (fun c => ?_) (fun c => Ev.now' (by rw [Bool.eq_false_iff.2 c]; simp))
    refine Ev.pos (by omega) (Ev.bind (slices_Contains_ev (l.take i) l[i] (by rw [List.length_take]; omega)) ?_)
    refine Ev.ite (fun c3 => Ev.now' (by rw [c3]; simp)) (fun c3 => Ev.eq (ih (i + 1) (by omega)) ?_)
    rw [Bool.eq_false_iff.2 c3, c]; grind
theorem impl_ListOk_ev (l : List ByteArray) (hl : l.length ≤ 140737488351232) (hz : ∀ s ∈ l, s.size ≤ 140737488351232) : Ev (fun k => impl_ListOk.f k l) (listOk l) := by
  unfold impl_ListOk.f listOk
  refine Ev.bind (impl_within_eq .. ▸ Ev.now _) (Ev.ite (fun h => ?_) (fun h => Ev.now' (by grind)))
  have h2 := of_decide_eq_true h
  refine Ev.eq (impl_ListOk_l0 l (by omega) hz l.length 0 (by omega)) ?_
  rw [decide_eq_true (by omega), decide_eq_true (by omega)]; simp

theorem impl_related_Suffix_l1 (l : List ByteArray) (hl : l.length ≤ 8) (hz : ∀ s ∈ l, s.size ≤ 140737488351232) (i : Nat) (hi : i < l.length) (R : Bool) :
    ∀ (e k0 : Nat), k0 + e = l.length → (relSuffixIn l i e k0 = true → R = true) → (relSuffixIn l i e k0 = false → Ev (fun k => impl_related_at_strings_HasSuffix.l0 k l l l.length ((i + 1 : Nat) : Int)) R) → Ev (fun k => impl_related_at_strings_HasSuffix.l1 k l l[i] l l.length i l l.length k0) R := by
  have w1 : Aside0 (wrap64 ((i : Int) + 1) = ((i + 1 : Nat) : Int)) := ⟨by rw [wr (by omega) (by omega)]; rfl⟩
  have hgi : l.getD i ByteArray.empty = l[i] := by rw [List.getD_eq_getElem?_getD, List.getElem?_eq_getElem hi]; rfl
  intro e
  induction e with
  | zero =>
    intro k0 h hT hF
    exact Ev.step (fun k => by rw [impl_related_at_strings_HasSuffix.l1, w1.out]) (Ev.neg (by omega) (hF rfl))
  | succ e ih =>
    intro k0 h hT hF
    have hk : k0 < l.length := by omega
    have w2 : Aside0 (wrap64 ((k0 : Int) + 1) = ((k0 + 1 : Nat) : Int)) := ⟨by rw [wr (by omega) (by omega)]; rfl⟩
    have hgk : l.getD k0 ByteArray.empty = l[k0] := by rw [List.getD_eq_getElem?_getD, List.getElem?_eq_getElem hk]; rfl
    rw [relSuffixIn, relSuffix, hgi, hgk] at hT hF
    refine Ev.step (fun k => by rw [impl_related_at_strings_HasSuffix.l1, w2.out, rdOf_nat hk, relSuffix_at _ _ (hz _ (List.getElem_mem hi)), Option.bind_some]) (Ev.pos (by omega) (Ev.pos (by omega) (Ev.pos (by omega) ?_)))
    refine Ev.ite (fun c => ?_) (fun c => ?_)
    · rw [toList_inj] at c
      rw [decide_eq_false (fun z => z c), Bool.false_and, Bool.false_or] at hT hF
      exact ih (k0 + 1) (by omega) hT hF
    · rw [toList_inj] at c
      rw [decide_eq_true c, Bool.true_and] at hT hF
      refine Ev.ite (fun c2 => Ev.now' (hT (by rw [c2]; rfl)).symm) (fun c2 => ?_)
      rw [Bool.eq_false_iff.2 c2, Bool.false_or] at hT hF
      exact ih (k0 + 1) (by omega) hT hF
theorem impl_related_Suffix_l0 (l : List ByteArray) (hl : l.length ≤ 8) (hz : ∀ s ∈ l, s.size ≤ 140737488351232) : ∀ (d i : Nat), i + d = l.length → Ev (fun k => impl_related_at_strings_HasSuffix.l0 k l l l.length i) (relSuffixOut l d i) := by
  intro d
  induction d with
  | zero => intro i h; exact Ev.step (fun k => by rw [impl_related_at_strings_HasSuffix.l0]) (Ev.neg (by omega) (Ev.now false))
  | succ d ih =>
    intro i h
    have hi : i < l.length := by omega
    rw [relSuffixOut]
    refine Ev.step (fun k => by rw [impl_related_at_strings_HasSuffix.l0, rdOf_nat hi]) (Ev.pos (by omega) (Ev.pos (by omega) (Ev.pos (by omega) ?_)))
    refine impl_related_Suffix_l1 l hl hz i hi _ l.length 0 (by omega) (fun z => by rw [z]; rfl) (fun z => ?_)
    rw [z, Bool.false_or]
    exact ih (i + 1) (by omega)
theorem impl_related_Suffix_ev (l : List ByteArray) (hl : l.length ≤ 8) (hz : ∀ s ∈ l, s.size ≤ 140737488351232) : Ev (fun k => impl_related_at_strings_HasSuffix.f k l) (relSuffixOut l l.length 0) := by
  unfold impl_related_at_strings_HasSuffix.f
  exact impl_related_Suffix_l0 l hl hz l.length 0 (by omega)

theorem impl_IsSuffixCode_ev (l : List ByteArray) (hl : l.length ≤ 140737488351232) (hz : ∀ s ∈ l, s.size ≤ 140737488351232) : Ev (fun k => impl_IsSuffixCode.f k l) (suffixCode l) := by
  unfold impl_IsSuffixCode.f suffixCode
  refine Ev.bind (impl_ListOk_ev l hl hz) (Ev.ite (fun h => ?_) (fun h => Ev.now' (by rw [Bool.eq_false_iff.2 h]; rfl)))
  refine Ev.bind (impl_related_Suffix_ev l (listOk_length h).2 hz) (Ev.now' ?_)
  rw [h]; rfl

theorem FnExactIsSuffixCode : laws_FnExactIsSuffixCode.Pure := by
  intro l hl hz
  apply Ev.rounds
  unfold laws_FnExactIsSuffixCode.f
  have hn : l.length ≤ 17592186044416 := by omega
  obtain ⟨r, e, hr⟩ := laws_szStringS_ev l hl hz 1048576 (by omega) (by omega)
  refine Ev.bind e (Ev.ite (fun h => Ev.now _) (fun h => ?_))
  have hb := hr (by omega)
  exact Ev.bind (laws_toStringS_ev l hn) (Ev.bind (spec_IsSuffixCode_ev l (by omega) hz) (Ev.bind (laws_toStringS_ev l hn) (Ev.bind (impl_IsSuffixCode_ev l (by omega) hz) (Ev.neg (by simp) (Ev.bind (laws_toStringS_ev l hn) (Ev.bind (laws_eqStringS_same l (by omega)) (Ev.pos rfl (Ev.now _))))))))

end Go.Proofs.Ytkklcjfpgfgkdad.Pure
