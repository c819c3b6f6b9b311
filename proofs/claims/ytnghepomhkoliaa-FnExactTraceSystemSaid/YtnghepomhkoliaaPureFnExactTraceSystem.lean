/- The program's TraceSystem returns what the reference's returns, and memory of its own: for all numbers and all lists of pairs that fit the row's reach. -/
import Derived.Test.YtnghepomhkoliaaQFnExactTraceSystemx6
import Derived.Test.YtnghepomhkoliaaThy
set_option linter.unusedVariables false
set_option linter.unusedSimpArgs false
namespace Go.Proofs.Ytnghepomhkoliaa.Pure
open Go.RowKit Go.Proofs.Ytnghepomhkoliaa.QFnExactTraceSystem Go.Proofs.YtnghepomhkoliaaW.PrintWords Go.Proofs.YtnghepomhkoliaaW.PrintLast Go.Proofs.YtnghepomhkoliaaW.PrintMore Go.Proofs.Ytnghepomhkoliaa.Thy

def sumSz (l : List ByteArray) : Nat := (l.map ByteArray.size).sum
theorem sumSz_cons (s : ByteArray) (l : List ByteArray) : sumSz (s :: l) = s.size + sumSz l := by simp [sumSz]
theorem mem_sumSz {s : ByteArray} : ∀ {l : List ByteArray}, s ∈ l → s.size ≤ sumSz l
  | x :: l, h => by
    rw [sumSz_cons]
    rcases List.mem_cons.1 h with rfl | h
    · omega
    · have := mem_sumSz h; omega
theorem laws_szStringS_l0 (xs : List ByteArray) (hx : xs.length ≤ 140737488351232) (hz : ∀ s ∈ xs, s.size ≤ 140737488351232) : ∀ (d i : Nat) (a : Int), i + d = xs.length → 0 ≤ a → a ≤ 140737488351232 → ∃ r, Ev (fun k => laws_szStringS.l0 k xs a i) r ∧ (0 ≤ r → (sumSz (xs.drop i) : Int) ≤ a) := by
  intro d
  induction d with
  | zero => intro i a h h0 h1; exact ⟨a, Ev.step (fun _ => rfl) (Ev.neg (by omega) (Ev.now _)), fun _ => by rw [List.drop_of_length_le (by omega)]; exact h0⟩
  | succ d ih =>
    intro i a h h0 h1
    have hi : i < xs.length := by omega
    have hm := hz xs[i] (List.getElem_mem hi)
    have hr : rdOf ByteArray.empty xs (i : Int) = xs[i] := rdOf_nat hi
    have w1 : wrap64 ((i : Int) + 1) = ((i + 1 : Nat) : Int) := by rw [wr (by omega) (by omega)]; rfl
    have w2 : wrap64 (a - ((xs[i].size : Nat) : Int)) = a - xs[i].size := wr (by omega) (by omega)
    by_cases c : a - xs[i].size < 0
    · exact ⟨-1, Ev.step (fun k => by rw [laws_szStringS.l0, hr, w2]) (Ev.pos (by omega) (Ev.pos (by omega) (Ev.pos c (Ev.now _)))), fun h => absurd h (by omega)⟩
    · obtain ⟨r, e, hh⟩ := ih (i + 1) (a - xs[i].size) (by omega) (by omega) (by omega)
      refine ⟨r, Ev.step (fun k => by rw [laws_szStringS.l0, hr, w2, w1]) (Ev.pos (by omega) (Ev.pos (by omega) (Ev.neg c e))), fun h => ?_⟩
      have := hh h
      rw [List.drop_eq_getElem_cons hi, sumSz_cons]
      omega
theorem laws_szStringS_ev (xs : List ByteArray) (hx : xs.length * 16 ≤ 140737488351232) (hz : ∀ s ∈ xs, s.size ≤ 140737488351232) (a : Int) (a0 : 0 ≤ a) (a1 : a ≤ 140737488351232) : ∃ r, Ev (fun k => laws_szStringS.f k xs a) r ∧ (0 ≤ r → (xs.length : Int) + sumSz xs ≤ a) := by
  unfold laws_szStringS.f
  have w : wrap64 (a - (xs.length : Int)) = a - xs.length := wr (by omega) (by omega)
  rw [w]
  by_cases c : a - (xs.length : Int) < 0
  · exact ⟨-1, Ev.pos c (Ev.now _), fun h => absurd h (by omega)⟩
  · obtain ⟨r, e, hh⟩ := laws_szStringS_l0 xs (by omega) hz xs.length 0 (a - xs.length) (by omega) (by omega) (by omega)
    exact ⟨r, Ev.neg c e, fun h => by have := hh h; rw [List.drop_zero] at this; omega⟩

theorem laws_toStringS_l0 (xs : List ByteArray) (hx : xs.length ≤ 17592186044416) : ∀ (d i : Nat), i + d = xs.length → Ev (fun k => laws_toStringS.l0 k xs (xs.take i ++ List.replicate d (⟨#[]⟩ : ByteArray)) i) xs := by
  intro d
  induction d with
  | zero => intro i h; exact Ev.step (fun _ => rfl) (Ev.neg (by omega) (Ev.now' (by rw [List.take_of_length_le (by omega)]; simp)))
  | succ d ih =>
    intro i h
    have w1 : wrap64 ((i : Int) + 1) = ((i + 1 : Nat) : Int) := by rw [wr (by omega) (by omega)]; rfl
    have hl : (xs.take i).length = i := by rw [List.length_take]; omega
    have hs : (xs.take i ++ List.replicate (d + 1) (⟨#[]⟩ : ByteArray)).set i (rdOf ByteArray.empty xs (i : Int)) = xs.take (i + 1) ++ List.replicate d (⟨#[]⟩ : ByteArray) := by
      rw [rdOf_nat (by omega), List.set_append_right _ _ (by omega), hl, Nat.sub_self, List.replicate_succ, List.set_cons_zero, List.take_succ_eq_append_getElem (by omega), List.append_assoc]
      rfl
    refine Ev.step (fun k => by rw [laws_toStringS.l0, w1, Int.toNat_natCast, hs]) (Ev.pos (by omega) (Ev.pos (by omega) (Ev.pos (by rw [List.length_append, hl, List.length_replicate]; omega) (ih (i + 1) (by omega)))))
theorem laws_toStringS_ev (xs : List ByteArray) (hx : xs.length ≤ 17592186044416) : Ev (fun k => laws_toStringS.f k xs) xs := by
  unfold laws_toStringS.f
  refine Ev.pos (by omega) (Ev.pos (by omega) ?_)
  simpa using laws_toStringS_l0 xs hx xs.length 0 (by omega)

theorem laws_eqStringS_l0 (xs : List ByteArray) (hx : xs.length ≤ 140737488351232) : ∀ (d i : Nat), i + d = xs.length → Ev (fun k => laws_eqStringS.l0 k xs xs i) true := by
  intro d
  induction d with
  | zero => intro i h; exact Ev.step (fun _ => rfl) (Ev.neg (by omega) (Ev.now _))
  | succ d ih =>
    intro i h
    have w1 : wrap64 ((i : Int) + 1) = ((i + 1 : Nat) : Int) := by rw [wr (by omega) (by omega)]; rfl
    exact Ev.step (fun k => by rw [laws_eqStringS.l0, w1]) (Ev.pos (by omega) (Ev.pos (by omega) (Ev.pos (by omega) (Ev.pos rfl (ih (i + 1) (by omega))))))
theorem laws_eqStringS_same (xs : List ByteArray) (hx : xs.length ≤ 140737488351232) : Ev (fun k => laws_eqStringS.f k xs xs) true := by
  unfold laws_eqStringS.f
  exact Ev.pos rfl (laws_eqStringS_l0 xs hx xs.length 0 (by omega))

theorem laws_markText_l0 : ∀ (m : Nat) (x : Int) (s : ByteArray), 0 ≤ x → x.toNat ≤ m → x ≤ 4611686018427387904 → (s.size : Int) + x ≤ 4611686018427387904 → ∃ r, Ev (fun k => laws_markText.l0 k x s) r := by
  intro m
  induction m with
  | zero =>
    intro x s h0 hm hx hs
    have : x = 0 := by omega
    subst this
    exact ⟨_, Ev.step (fun _ => rfl) (Ev.neg (by omega) (Ev.pos (by omega) (Ev.now _)))⟩
  | succ m ih =>
    intro x s h0 hm hx hs
    by_cases hp : x > 0
    · have w1 : Aside0 (wrap64 (Int.tdiv x 10) = x / 10) := ⟨by rw [Int.tdiv_eq_ediv_of_nonneg h0, wr (by omega) (by omega)]⟩
      have h1 : (strOfNums [(wrap64 (48 + (Int.tmod x 10))) % 256]).size = 1 := rfl
      obtain ⟨r, e⟩ := ih (x / 10) (strOfNums [(wrap64 (48 + (Int.tmod x 10))) % 256] ++ s) (by omega) (by omega) (by omega) (by rw [ByteArray.size_append, h1]; omega)
      refine ⟨r, Ev.step (fun k => by rw [laws_markText.l0, w1.out]) (Ev.pos hp ?_)⟩
      simp only [Option.bind_some]
      exact Ev.pos (by rw [h1]; omega) e
    · have : x = 0 := by omega
      subst this
      exact ⟨_, Ev.step (fun _ => rfl) (Ev.neg (by omega) (Ev.pos (by omega) (Ev.now _)))⟩
theorem laws_markText_ev (n : Nat) (hn : n ≤ 1000000000000) : ∃ r, Ev (fun k => laws_markText.f k (n : Int)) r := by
  unfold laws_markText.f
  by_cases h : (n : Int) ≤ 0
  · exact ⟨_, Ev.pos h (Ev.now _)⟩
  · obtain ⟨r, e⟩ := laws_markText_l0 n n ⟨#[]⟩ (by omega) (by omega) (by omega) (by show ((0 : Nat) : Int) + n ≤ _; omega)
    exact ⟨r, Ev.neg h e⟩
theorem markText_fun : ∃ f : Nat → ByteArray, ∀ n : Nat, n ≤ 1000000000000 → Ev (fun k => laws_markText.f k (n : Int)) (f n) :=
  ⟨fun n => if h : n ≤ 1000000000000 then Classical.choose (laws_markText_ev n h) else ByteArray.empty, fun n h => by
    show Ev _ (if h : n ≤ 1000000000000 then Classical.choose (laws_markText_ev n h) else ByteArray.empty)
    rw [dif_pos h]
    exact Classical.choose_spec (laws_markText_ev n h)⟩
def marksB (f : Nat → ByteArray) (n : Nat) : List ByteArray := (List.range n).map fun i => f (1 + i)
theorem marksB_length (f : Nat → ByteArray) (n : Nat) : (marksB f n).length = n := by simp [marksB]
theorem marksB_get (f : Nat → ByteArray) (n i : Nat) (h : i < (marksB f n).length) : (marksB f n)[i] = f (1 + i) := by simp [marksB]
theorem marksB_succ (f : Nat → ByteArray) (n : Nat) : marksB f (n + 1) = marksB f n ++ [f (1 + n)] := by simp [marksB, List.range_succ]

theorem laws_markStringS_l0 (f : Nat → ByteArray) (hf : ∀ n : Nat, n ≤ 1000000000000 → Ev (fun k => laws_markText.f k (n : Int)) (f n)) (n : Nat) (hx : n ≤ 100000000000) : ∀ (d i : Nat) (xs : List ByteArray), xs.length = n → i + d = n → xs.take i = marksB f i → Ev (fun k => laws_markStringS.l0 k xs ((1 + i : Nat) : Int) i) (((1 + n : Nat) : Int), marksB f n) := by
  intro d
  induction d with
  | zero =>
    intro i xs hl h ht
    obtain rfl : i = n := by omega
    refine Ev.step (fun _ => rfl) (Ev.neg (by omega) (Ev.now' ?_))
    rw [← ht, List.take_of_length_le (by omega)]
  | succ d ih =>
    intro i xs hl h ht
    have w1 : Aside0 (wrap64 ((i : Int) + 1) = ((i + 1 : Nat) : Int)) := ⟨by rw [wr (by omega) (by omega)]; rfl⟩
    have w2 : Aside0 (wrap64 (((1 + i : Nat) : Int) + 1) = ((1 + (i + 1) : Nat) : Int)) := ⟨by rw [wr (by omega) (by omega)]; omega⟩
    refine Ev.step (fun k => by rw [laws_markStringS.l0, w1.out, w2.out, Int.toNat_natCast]) ?_
    refine Ev.pos (by omega) (Ev.bind (hf (1 + i) (by omega)) (Ev.pos (by omega) (ih (i + 1) _ (by rw [List.length_set]; exact hl) (by omega) ?_)))
    rw [List.take_succ_eq_append_getElem (by rw [List.length_set]; omega), List.getElem_set_self, List.take_set_of_le (Nat.le_refl i), ht, marksB_succ]
theorem laws_markStringS_ev (f : Nat → ByteArray) (hf : ∀ n : Nat, n ≤ 1000000000000 → Ev (fun k => laws_markText.f k (n : Int)) (f n)) (xs : List ByteArray) (hx : xs.length ≤ 100000000000) : Ev (fun k => laws_markStringS.f k xs 1) (((1 + xs.length : Nat) : Int), marksB f xs.length) := by
  unfold laws_markStringS.f
  exact laws_markStringS_l0 f hf xs.length hx xs.length 0 xs rfl (by omega) rfl

theorem spec_l01In_eq (a b c : Int) : spec_l01In.f a b c = some (decide (b ≤ a ∧ a ≤ c)) := by
  unfold spec_l01In.f; split <;> simp <;> omega

theorem spec_WordOk_l0 (x : Int) (w : ByteArray) (hw : w.size ≤ 140737488351232) (hx : 1 ≤ x ∧ x ≤ 4) : ∀ (d : Nat) (i : Int), 0 ≤ i → i ≤ w.size → (w.size : Int) - i = d → Ev (fun k => spec_WordOk.l0 k x w i) (letters x ((N w).drop i.toNat)) := by
  intro d
  induction d with
  | zero =>
    intro i h0 h1 hd
    refine Ev.step (fun _ => rfl) (Ev.neg (by omega) (Ev.now' ?_))
    rw [N_done w i (by omega)]; rfl
  | succ d ih =>
    intro i h0 h1 hd
    have hb := bt_range w i
    rw [N_cons w i h0 (by omega), letters_cons]
    refine Ev.step (fun _ => rfl) (Ev.pos (by omega) (Ev.pos h0 (Ev.ite (fun h => Ev.now' ?_) (fun h => Ev.ite (fun h2 => Ev.now' ?_) (fun h2 => ?_)))))
    · simp; omega
    · simp; omega
    · rw [wr (by omega) (by omega)]
      refine Ev.eq (ih (i + 1) (by omega) (by omega) (by omega)) ?_
      rw [decide_eq_true (by omega), decide_eq_true (by omega)]; simp
theorem spec_WordOk_ev (x : Int) (w : ByteArray) (hw : w.size ≤ 140737488351232) : Ev (fun k => spec_WordOk.f k x w) (longOk 16 x w) := by
  unfold spec_WordOk.f longOk
  refine Ev.bind (spec_l01In_eq .. ▸ Ev.now _) (Ev.ite (fun h => ?_) (fun h => ?_))
  · have h2 := of_decide_eq_true h
    refine Ev.step (fun _ => rfl) (Ev.ite (fun h => Ev.now' ?_) (fun h => Ev.eq (spec_WordOk_l0 x w hw h2 w.size 0 (by omega) (by omega) (by omega)) ?_))
    · grind
    · grind
  · refine Ev.step (fun _ => spec_WordOk.j0.eq_2 ..) (Ev.pos rfl (Ev.now' ?_))
    grind

theorem spec_l04Has_l0 (l : List ByteArray) (x : ByteArray) (hl : l.length ≤ 140737488351232) : ∀ (d i : Nat), i + d = l.length → Ev (fun k => spec_l04Has.l0 k x l l.length i) (decide (x ∈ l.drop i)) := by
  intro d
  induction d with
  | zero => intro i h; refine Ev.step (fun _ => rfl) (Ev.neg (by omega) (Ev.now' ?_)); rw [List.drop_of_length_le (by omega)]; simp
  | succ d ih =>
    intro i h
    have hi : i < l.length := by omega
    have w1 : wrap64 ((i : Int) + 1) = ((i + 1 : Nat) : Int) := by rw [wr (by omega) (by omega)]; rfl
    rw [List.drop_eq_getElem_cons hi]
    refine Ev.step (fun k => by rw [spec_l04Has.l0, w1, rdOf_nat hi]) (Ev.pos (by omega) (Ev.pos (by omega) (Ev.pos (by omega) (Ev.ite (fun c => Ev.now' ?_) (fun c => Ev.eq (ih (i + 1) (by omega)) ?_)))))
    · rw [toList_inj] at c; symm; rw [decide_eq_true_eq, List.mem_cons]; exact .inl c.symm
    · rw [toList_inj] at c; rw [decide_eq_decide, List.mem_cons]; exact ⟨.inr, fun h => h.resolve_left (fun z => c z.symm)⟩
theorem spec_l04Has_ev (l : List ByteArray) (x : ByteArray) (hl : l.length ≤ 140737488351232) : Ev (fun k => spec_l04Has.f k l x) (decide (x ∈ l)) := by
  unfold spec_l04Has.f
  exact Ev.eq (spec_l04Has_l0 l x hl l.length 0 (by omega)) (by rw [List.drop_zero])

/-- Are the pairs from place i on good, and none of them among those before? -/
def pairGood (K : Int) (l : List ByteArray) (i : Nat) : Bool := longOk 16 K (l.getD i ByteArray.empty) && decide ((l.getD i ByteArray.empty).size = 2) && decide (bt (l.getD i ByteArray.empty) 0 < bt (l.getD i ByteArray.empty) 1) && !decide (l.getD i ByteArray.empty ∈ l.take i)
def pairsFrom (K : Int) (l : List ByteArray) : Nat → Nat → Bool
  | 0, _ => true
  | d + 1, i => pairGood K l i && pairsFrom K l d (i + 1)
def commuteOk (K : Int) (l : List ByteArray) : Bool := decide (1 ≤ K) && decide (K ≤ 4) && pairsFrom K l l.length 0

theorem spec_CommuteOk_l0 (K : Int) (l : List ByteArray) (hl : l.length ≤ 140737488351232) (hz : ∀ s ∈ l, s.size ≤ 140737488351232) : ∀ (d i : Nat), i + d = l.length → Ev (fun k => spec_CommuteOk.l0 k K l l l.length i) (pairsFrom K l d i) := by
  intro d
  induction d with
  | zero => intro i h; exact Ev.step (fun _ => rfl) (Ev.neg (by omega) (Ev.now _))
  | succ d ih =>
    intro i h
    have hi : i < l.length := by omega
    have hs := hz l[i] (List.getElem_mem hi)
    have w1 : Aside0 (wrap64 ((i : Int) + 1) = ((i + 1 : Nat) : Int)) := ⟨by rw [wr (by omega) (by omega)]; rfl⟩
    have hg : l.getD i ByteArray.empty = l[i] := by rw [List.getD_eq_getElem?_getD, List.getElem?_eq_getElem hi]; rfl
    rw [pairsFrom, pairGood, hg]
    refine Ev.step (fun k => by rw [spec_CommuteOk.l0, w1.out, rdOf_nat hi, Int.toNat_natCast]) (Ev.pos (by omega) (Ev.pos (by omega) (Ev.pos (by omega) (Ev.bind (spec_WordOk_ev K l[i] hs) ?_))))
    refine Ev.ite (fun c => ?_) (fun c => Ev.now' (by rw [Bool.eq_false_iff.2 c]; simp))
    refine Ev.ite (fun c2 => Ev.pos (by omega) (Ev.pos (by omega) ?_)) (fun c2 => Ev.now' (by rw [decide_eq_false (show ¬ l[i].size = 2 by omega)]; simp))
    refine Ev.ite (fun c3 => Ev.now' (by rw [decide_eq_false (show ¬ bt l[i] 0 < bt l[i] 1 by omega)]; simp)) (fun c3 => ?_)
    refine Ev.pos (by omega) (Ev.bind (spec_l04Has_ev (l.take i) l[i] (by rw [List.length_take]; omega)) ?_)
    refine Ev.ite (fun c4 => Ev.now' (by rw [c4]; simp)) (fun c4 => Ev.eq (ih (i + 1) (by omega)) ?_)
    rw [Bool.eq_false_iff.2 c4, c, decide_eq_true (show l[i].size = 2 by omega), decide_eq_true (show bt l[i] 0 < bt l[i] 1 by omega)]; simp
theorem spec_CommuteOk_ev (K : Int) (l : List ByteArray) (hl : l.length ≤ 140737488351232) (hz : ∀ s ∈ l, s.size ≤ 140737488351232) : Ev (fun k => spec_CommuteOk.f k K l) (commuteOk K l) := by
  unfold spec_CommuteOk.f commuteOk
  refine Ev.bind (Ev.eqc (spec_l01In_eq ..)) ?_
  refine Ev.ite (fun h => ?_) (fun h => Ev.now' (by grind))
  have h2 := of_decide_eq_true h
  refine Ev.eq (spec_CommuteOk_l0 K l hl hz l.length 0 (by omega)) ?_
  rw [decide_eq_true h2.1, decide_eq_true h2.2]; simp

def mirrorB (w : ByteArray) : ByteArray := strOfNums (N w).reverse
theorem N_mirrorB (w : ByteArray) : N (mirrorB w) = (N w).reverse := N_nums (fun c hc => N_range w c (List.mem_reverse.1 hc))
theorem mirrorB_size (w : ByteArray) : (mirrorB w).size = w.size := by rw [← N_length, N_mirrorB, List.length_reverse, N_length]
theorem mirrorB_inj {u v : ByteArray} (h : mirrorB u = mirrorB v) : u = v := by
  apply N_inj
  have := congrArg N h
  rw [N_mirrorB, N_mirrorB] at this
  exact List.reverse_inj.1 this
theorem mirrorB_mirrorB (w : ByteArray) : mirrorB (mirrorB w) = w := by
  apply N_inj
  rw [N_mirrorB, N_mirrorB, List.reverse_reverse]

theorem spec_MirrorWord_l0 (w : ByteArray) (hw : w.size ≤ 140737488351232) : ∀ (i : Nat) (s : ByteArray), i ≤ w.size → s.size + i ≤ w.size → Ev (fun k => spec_MirrorWord.l0 k w s ((i : Int) - 1)) (strOfNums (N s ++ ((N w).take i).reverse)) := by
  intro i
  induction i with
  | zero => intro s h hs; exact Ev.step (fun _ => rfl) (Ev.neg (by omega) (Ev.now' (by rw [List.take_zero, List.reverse_nil, List.append_nil, B_N])))
  | succ i ih =>
    intro s h hs
    have w0 : ((i + 1 : Nat) : Int) - 1 = (i : Int) := by omega
    have w1 : Aside0 (wrap64 ((i : Int) + 1) = (i : Int) + 1) := ⟨wr (by omega) (by omega)⟩
    have w2 : Aside0 (wrap64 ((i : Int) - 1) = (i : Int) - 1) := ⟨wr (by omega) (by omega)⟩
    have hx := N_one w (i : Int) (by omega) (by omega)
    have hxs := N_one_size w (i : Int) (by omega) (by omega)
    rw [w0]
    refine Ev.step (fun k => by rw [spec_MirrorWord.l0, w1.out, w2.out]) (Ev.pos (by omega) (Ev.pos (by omega) (Ev.pos (by omega) (Ev.pos (by omega) (Ev.pos (by omega) ?_)))))
    refine Ev.eq (ih _ (by omega) (by rw [ByteArray.size_append, hxs]; omega)) ?_
    have h2 : i < (N w).length := by rw [N_length]; omega
    have hb : (N w)[i] = bt w (i : Int) := by rw [N_bt, List.getD_eq_getElem?_getD, Int.toNat_natCast, List.getElem?_eq_getElem h2]; rfl
    rw [N_append, hx, List.take_succ_eq_append_getElem h2, hb, List.reverse_append]
    simp
theorem spec_MirrorWord_ev (w : ByteArray) (hw : w.size ≤ 140737488351232) : Ev (fun k => spec_MirrorWord.f k w) (mirrorB w) := by
  unfold spec_MirrorWord.f mirrorB
  rw [wr (by omega) (by omega)]
  refine Ev.eq (spec_MirrorWord_l0 w hw w.size (⟨#[]⟩ : ByteArray) (Nat.le_refl _) (by show 0 + w.size ≤ _; omega)) ?_
  rw [List.take_of_length_le (by rw [N_length]; exact Nat.le_refl _)]; rfl

def rulesOf (l : List ByteArray) : List S55 := l.map fun w => ⟨mirrorB w, w⟩
theorem rulesOf_length (l : List ByteArray) : (rulesOf l).length = l.length := by simp [rulesOf]
def sysOf (K : Int) (l : List ByteArray) : Int × List S55 × Bool := if commuteOk K l = true then (K, rulesOf l, true) else (0, [], false)
theorem sysOf_length (K : Int) (l : List ByteArray) : (sysOf K l).2.1.length ≤ l.length := by
  unfold sysOf; split
  · show (rulesOf l).length ≤ _; rw [rulesOf_length]; exact Nat.le_refl _
  · exact Nat.zero_le _
theorem rd_T55_nat {xs : List S55} {i : Nat} (h : i < xs.length) : rd_T55 xs (i : Int) = xs[i] := by
  unfold rd_T55; rw [List.getD_eq_getElem?_getD, Int.toNat_natCast, List.getElem?_eq_getElem h]; rfl
def marksR (f : Nat → ByteArray) (n : Nat) : List S55 := (List.range n).map fun i => ⟨f (1 + 2 * i), f (1 + 2 * i + 1)⟩
theorem marksR_length (f : Nat → ByteArray) (n : Nat) : (marksR f n).length = n := by simp [marksR]
theorem marksR_get (f : Nat → ByteArray) (n i : Nat) (h : i < (marksR f n).length) : (marksR f n)[i] = ⟨f (1 + 2 * i), f (1 + 2 * i + 1)⟩ := by simp [marksR]
theorem marksR_succ (f : Nat → ByteArray) (n : Nat) : marksR f (n + 1) = marksR f n ++ [⟨f (1 + 2 * n), f (1 + 2 * n + 1)⟩] := by simp [marksR, List.range_succ]

theorem spec_TraceSystem_l0 (K : Int) (l : List ByteArray) (hl : l.length ≤ 1000000000000) (hz : ∀ s ∈ l, s.size ≤ 140737488351232) : ∀ (d i : Nat), i + d = l.length → Ev (fun k => spec_TraceSystem.l0 k l l.length i K (rulesOf (l.take i))) (K, rulesOf l, true) := by
  intro d
  induction d with
  | zero => intro i h; exact Ev.step (fun _ => rfl) (Ev.neg (by omega) (Ev.now' (by rw [List.take_of_length_le (by omega)])))
  | succ d ih =>
    intro i h
    have hi : i < l.length := by omega
    have w1 : Aside0 (wrap64 ((i : Int) + 1) = ((i + 1 : Nat) : Int)) := ⟨by rw [wr (by omega) (by omega)]; rfl⟩
    have hlen : (rulesOf (l.take i)).length = i := by rw [rulesOf_length, List.length_take]; omega
    refine Ev.step (fun k => by rw [spec_TraceSystem.l0, w1.out, rdOf_nat hi]) (Ev.pos (by omega) (Ev.pos (by omega) (Ev.pos (by omega) (Ev.bind (spec_MirrorWord_ev l[i] (hz _ (List.getElem_mem hi))) ?_))))
    refine Ev.pos (by omega) ?_
    have := ih (i + 1) (by omega)
    rw [List.take_succ_eq_append_getElem hi, rulesOf, List.map_append] at this
    exact this
theorem spec_TraceSystem_ev (K : Int) (l : List ByteArray) (hl : l.length ≤ 1000000000000) (hz : ∀ s ∈ l, s.size ≤ 140737488351232) : Ev (fun k => spec_TraceSystem.f k K l) (sysOf K l) := by
  unfold spec_TraceSystem.f
  refine Ev.bind (spec_CommuteOk_ev K l (by omega) hz) (Ev.ite (fun c => ?_) (fun c => Ev.now' ?_))
  · exact Ev.eq (spec_TraceSystem_l0 K l hl hz l.length 0 (by omega)) (by unfold sysOf; rw [if_pos c])
  · unfold sysOf; rw [if_neg c]

theorem impl_within_eq (a b c : Int) : impl_within.f a b c = some (decide (b ≤ a ∧ a ≤ c)) := by
  unfold impl_within.f; split <;> simp <;> omega

theorem impl_hasLetters_l0 (x : Int) (w : ByteArray) (hw : w.size ≤ 140737488351232) (hx : 1 ≤ x ∧ x ≤ 4) : ∀ (d : Nat) (i : Int), 0 ≤ i → i ≤ w.size → (w.size : Int) - i = d → Ev (fun k => impl_hasLetters.l0 k x w w.size i) (letters x ((N w).drop i.toNat)) := by
  intro d
  induction d with
  | zero =>
    intro i h0 h1 hd
    refine Ev.step (fun _ => rfl) (Ev.neg (by omega) (Ev.now' ?_))
    rw [N_done w i (by omega)]; rfl
  | succ d ih =>
    intro i h0 h1 hd
    have hb := bt_range w i
    rw [N_cons w i h0 (by omega), letters_cons]
    refine Ev.step (fun _ => rfl) (Ev.pos (by omega) (Ev.pos h0 (Ev.pos (by omega) (Ev.bind (impl_within_eq .. ▸ Ev.now _) ?_))))
    rw [wr (by omega) (by omega), wr (n := 97 + x) (by omega) (by omega), wr (n := 97 + x - 1) (by omega) (by omega)]
    refine Ev.ite (fun h => ?_) (fun h => Ev.now' ?_)
    · rw [wr (by omega) (by omega)]
      refine Ev.eq (ih (i + 1) (by omega) (by omega) (by omega)) ?_
      grind
    · grind

theorem impl_WordOk_ev (x : Int) (w : ByteArray) (hw : w.size ≤ 140737488351232) : Ev (fun k => impl_WordOk.f k x w) (longOk 16 x w) := by
  unfold impl_WordOk.f longOk
  refine Ev.bind (impl_within_eq .. ▸ Ev.now _) (Ev.ite (fun h => ?_) (fun h => Ev.now' (by grind)))
  have h2 := of_decide_eq_true h
  refine Ev.ite (fun h => Ev.bind (impl_hasLetters_l0 x w hw h2 w.size 0 (by omega) (by omega) (by omega)) (Ev.now' (by grind))) (fun h => Ev.now' (by grind))

theorem slices_Index_l0 (l : List ByteArray) (x : ByteArray) (hl : l.length ≤ 140737488351232) : ∀ (d i : Nat), i + d = l.length → ∃ r : Int, Ev (fun k => slices_Index_string_string.l0 k l x l.length i) r ∧ (0 ≤ r ↔ x ∈ l.drop i) := by
  intro d
  induction d with
  | zero => intro i h; refine ⟨-1, Ev.step (fun _ => rfl) (Ev.neg (by omega) (Ev.now _)), ?_⟩; rw [List.drop_of_length_le (by omega)]; simp
  | succ d ih =>
    intro i h
    have hi : i < l.length := by omega
    have w1 : wrap64 ((i : Int) + 1) = ((i + 1 : Nat) : Int) := by rw [wr (by omega) (by omega)]; rfl
    rw [List.drop_eq_getElem_cons hi]
    by_cases c : x = l[i]
    · exact ⟨i, Ev.step (fun k => by rw [slices_Index_string_string.l0, w1, rdOf_nat hi]) (Ev.pos (by omega) (Ev.pos (by omega) (Ev.pos (by omega) (Ev.pos (toList_inj.2 c) (Ev.now _))))), by rw [List.mem_cons]; simp [c]⟩
    · obtain ⟨r, e, hr⟩ := ih (i + 1) (by omega)
      exact ⟨r, Ev.step (fun k => by rw [slices_Index_string_string.l0, w1, rdOf_nat hi]) (Ev.pos (by omega) (Ev.pos (by omega) (Ev.pos (by omega) (Ev.neg (fun z => c (toList_inj.1 z)) e)))), by rw [List.mem_cons]; simp [c, hr]⟩

theorem slices_Contains_ev (l : List ByteArray) (x : ByteArray) (hl : l.length ≤ 140737488351232) : Ev (fun k => slices_Contains_string_string.f k l x) (decide (x ∈ l)) := by
  unfold slices_Contains_string_string.f slices_Index_string_string.f
  obtain ⟨r, e, hr⟩ := slices_Index_l0 l x hl l.length 0 (by omega)
  refine Ev.bind e (Ev.now' ?_)
  rw [List.drop_zero] at hr
  by_cases h : x ∈ l
  · rw [decide_eq_true h, decide_eq_true (hr.2 h)]
  · rw [decide_eq_false h, decide_eq_false (fun z => h (hr.1 z))]

theorem impl_CommuteOk_l0 (K : Int) (l : List ByteArray) (hl : l.length ≤ 140737488351232) (hz : ∀ s ∈ l, s.size ≤ 140737488351232) : ∀ (d i : Nat), i + d = l.length → Ev (fun k => impl_CommuteOk.l0 k K l l l.length i) (pairsFrom K l d i && decide (1 ≤ K ∧ K ≤ 4)) := by
  intro d
  induction d with
  | zero => intro i h; exact Ev.step (fun _ => rfl) (Ev.neg (by omega) (Ev.bind (Ev.eqc (impl_within_eq ..)) (Ev.now' (by simp [pairsFrom]))))
  | succ d ih =>
    intro i h
    have hi : i < l.length := by omega
    have hs := hz l[i] (List.getElem_mem hi)
    have w1 : Aside0 (wrap64 ((i : Int) + 1) = ((i + 1 : Nat) : Int)) := ⟨by rw [wr (by omega) (by omega)]; rfl⟩
    have hg : l.getD i ByteArray.empty = l[i] := by rw [List.getD_eq_getElem?_getD, List.getElem?_eq_getElem hi]; rfl
    rw [pairsFrom, pairGood, hg]
    refine Ev.step (fun k => by rw [impl_CommuteOk.l0, w1.out, rdOf_nat hi, Int.toNat_natCast]) (Ev.pos (by omega) (Ev.pos (by omega) (Ev.pos (by omega) ?_)))
    refine Ev.ite (fun c2 => ?_) (fun c2 => Ev.now' (by rw [decide_eq_false (show ¬ l[i].size = 2 by omega)]; simp))
    refine Ev.bind (impl_WordOk_ev K l[i] hs) ?_
    refine Ev.ite (fun c => Ev.pos (by omega) (Ev.pos (by omega) ?_)) (fun c => Ev.now' (by rw [Bool.eq_false_iff.2 c]; simp))
    refine Ev.ite (fun c3 => Ev.now' (by rw [decide_eq_false (show ¬ bt l[i] 0 < bt l[i] 1 by omega)]; simp)) (fun c3 => ?_)
    refine Ev.pos (by omega) (Ev.bind (slices_Contains_ev (l.take i) l[i] (by rw [List.length_take]; omega)) ?_)
    refine Ev.ite (fun c4 => Ev.now' (by rw [c4]; simp)) (fun c4 => Ev.eq (ih (i + 1) (by omega)) ?_)
    rw [Bool.eq_false_iff.2 c4, c, decide_eq_true (show l[i].size = 2 by omega), decide_eq_true (show bt l[i] 0 < bt l[i] 1 by omega)]; simp
theorem impl_CommuteOk_ev (K : Int) (l : List ByteArray) (hl : l.length ≤ 140737488351232) (hz : ∀ s ∈ l, s.size ≤ 140737488351232) : Ev (fun k => impl_CommuteOk.f k K l) (commuteOk K l) := by
  unfold impl_CommuteOk.f commuteOk
  refine Ev.eq (impl_CommuteOk_l0 K l hl hz l.length 0 (by omega)) ?_
  rw [Bool.decide_and, Bool.and_comm]

theorem impl_MirrorWord_eq (s : ByteArray) (hs : s.size ≤ 140737488351232) : impl_MirrorWord.f s = some (mirrorB s) := by
  unfold impl_MirrorWord.f
  rw [if_pos (by omega)]
  congr 1
  apply N_inj
  rw [N_mirrorB]
  simp [N, revB]

theorem impl_TraceSystem_l0 (K : Int) (l : List ByteArray) (hl : l.length ≤ 1000000000000) (hz : ∀ s ∈ l, s.size ≤ 140737488351232) : ∀ (d i : Nat), i + d = l.length → Ev (fun k => impl_TraceSystem.l0 k l l.length i K (rulesOf (l.take i))) (K, rulesOf l, true) := by
  intro d
  induction d with
  | zero => intro i h; exact Ev.step (fun _ => rfl) (Ev.neg (by omega) (Ev.now' (by rw [List.take_of_length_le (by omega)])))
  | succ d ih =>
    intro i h
    have hi : i < l.length := by omega
    have w1 : Aside0 (wrap64 ((i : Int) + 1) = ((i + 1 : Nat) : Int)) := ⟨by rw [wr (by omega) (by omega)]; rfl⟩
    have hlen : (rulesOf (l.take i)).length = i := by rw [rulesOf_length, List.length_take]; omega
    refine Ev.step (fun k => by rw [impl_TraceSystem.l0, w1.out, rdOf_nat hi]) (Ev.pos (by omega) (Ev.pos (by omega) (Ev.pos (by omega) (Ev.bind (Ev.eqc (impl_MirrorWord_eq l[i] (hz _ (List.getElem_mem hi)))) ?_))))
    refine Ev.pos (by omega) ?_
    have := ih (i + 1) (by omega)
    rw [List.take_succ_eq_append_getElem hi, rulesOf, List.map_append] at this
    exact this
theorem impl_TraceSystem_ev (K : Int) (l : List ByteArray) (hl : l.length ≤ 1000000000000) (hz : ∀ s ∈ l, s.size ≤ 140737488351232) : Ev (fun k => impl_TraceSystem.f k K l) (sysOf K l) := by
  unfold impl_TraceSystem.f
  refine Ev.bind (impl_CommuteOk_ev K l (by omega) hz) (Ev.ite (fun c => ?_) (fun c => Ev.now' ?_))
  · exact Ev.eq (impl_TraceSystem_l0 K l hl hz l.length 0 (by omega)) (by unfold sysOf; rw [if_pos c])
  · unfold sysOf; rw [if_neg c]

theorem laws_eqRule_same (a b : ByteArray) : laws_eqRule.f a b a b = some true := by
  unfold laws_eqRule.f; rw [if_pos rfl, if_pos rfl]
theorem laws_eqRuleS_l0 (xs : List S55) (hx : xs.length ≤ 140737488351232) : ∀ (d i : Nat), i + d = xs.length → Ev (fun k => laws_eqRuleS.l0 k xs xs i) true := by
  intro d
  induction d with
  | zero => intro i h; exact Ev.step (fun _ => rfl) (Ev.neg (by omega) (Ev.now _))
  | succ d ih =>
    intro i h
    have w1 : Aside0 (wrap64 ((i : Int) + 1) = ((i + 1 : Nat) : Int)) := ⟨by rw [wr (by omega) (by omega)]; rfl⟩
    exact Ev.step (fun k => by rw [laws_eqRuleS.l0, w1.out]) (Ev.pos (by omega) (Ev.pos (by omega) (Ev.pos (by omega) (Ev.bind (Ev.eqc (laws_eqRule_same ..)) (Ev.pos rfl (ih (i + 1) (by omega)))))))
theorem laws_eqRuleS_same (xs : List S55) (hx : xs.length ≤ 140737488351232) : Ev (fun k => laws_eqRuleS.f k xs xs) true := by
  unfold laws_eqRuleS.f
  exact Ev.pos rfl (laws_eqRuleS_l0 xs hx xs.length 0 (by omega))

theorem laws_eqSystem_same (K : Int) (xs : List S55) (hx : xs.length ≤ 140737488351232) : Ev (fun k => laws_eqSystem.f k K xs K xs) true := by
  unfold laws_eqSystem.f
  exact Ev.pos rfl (Ev.bind (laws_eqRuleS_same xs hx) (Ev.pos rfl (Ev.now _)))

theorem laws_markRuleS_l0 (f : Nat → ByteArray) (hf : ∀ n : Nat, n ≤ 1000000000000 → Ev (fun k => laws_markText.f k (n : Int)) (f n)) (n : Nat) (hx : n ≤ 100000000000) : ∀ (d i : Nat) (xs : List S55), xs.length = n → i + d = n → xs.take i = marksR f i → Ev (fun k => laws_markRuleS.l0 k xs ((1 + 2 * i : Nat) : Int) i) (((1 + 2 * n : Nat) : Int), marksR f n) := by
  intro d
  induction d with
  | zero =>
    intro i xs hl h ht
    obtain rfl : i = n := by omega
    refine Ev.step (fun _ => rfl) (Ev.neg (by omega) (Ev.now' ?_))
    rw [← ht, List.take_of_length_le (by omega)]
  | succ d ih =>
    intro i xs hl h ht
    have w1 : Aside0 (wrap64 ((i : Int) + 1) = ((i + 1 : Nat) : Int)) := ⟨by rw [wr (by omega) (by omega)]; rfl⟩
    have w2 : Aside0 (wrap64 (((1 + 2 * i : Nat) : Int) + 1) = ((1 + 2 * i + 1 : Nat) : Int)) := ⟨by rw [wr (by omega) (by omega)]; omega⟩
    have w3 : Aside0 (wrap64 (((1 + 2 * i + 1 : Nat) : Int) + 1) = ((1 + 2 * (i + 1) : Nat) : Int)) := ⟨by rw [wr (by omega) (by omega)]; omega⟩
    refine Ev.step (fun k => by rw [laws_markRuleS.l0, w1.out, w2.out, w3.out, Int.toNat_natCast]) ?_
    refine Ev.pos (by omega) (Ev.bind (hf (1 + 2 * i) (by omega)) (Ev.pos (by omega) ?_))
    simp only [Option.bind_some]
    refine Ev.bind (hf (1 + 2 * i + 1) (by omega)) (ih (i + 1) _ (by rw [List.length_set, List.length_set]; exact hl) (by omega) ?_)
    rw [rd_T55_nat (show i < xs.length by omega), rd_T55_nat (by rw [List.length_set]; omega), List.getElem_set_self, List.set_set]
    rw [List.take_succ_eq_append_getElem (by rw [List.length_set]; omega), List.getElem_set_self, List.take_set_of_le (Nat.le_refl i), ht, marksR_succ]
theorem laws_markRuleS_ev (f : Nat → ByteArray) (hf : ∀ n : Nat, n ≤ 1000000000000 → Ev (fun k => laws_markText.f k (n : Int)) (f n)) (xs : List S55) (hx : xs.length ≤ 100000000000) : Ev (fun k => laws_markRuleS.f k xs 1) (((1 + 2 * xs.length : Nat) : Int), marksR f xs.length) := by
  unfold laws_markRuleS.f
  exact laws_markRuleS_l0 f hf xs.length hx xs.length 0 xs rfl (by omega) rfl

theorem laws_markSystem_ev (f : Nat → ByteArray) (hf : ∀ n : Nat, n ≤ 1000000000000 → Ev (fun k => laws_markText.f k (n : Int)) (f n)) (K : Int) (xs : List S55) (hx : xs.length ≤ 100000000000) : Ev (fun k => laws_markSystem.f k K xs 1) (((1 + 2 * xs.length : Nat) : Int), marksR f xs.length) := by
  unfold laws_markSystem.f
  exact Ev.bind (laws_markRuleS_ev f hf xs hx) (Ev.now _)

theorem laws_heldRuleS_l0 (f : Nat → ByteArray) (hf : ∀ n : Nat, n ≤ 1000000000000 → Ev (fun k => laws_markText.f k (n : Int)) (f n)) (n : Nat) (hx : n ≤ 100000000000) : ∀ (d i : Nat), i + d = n → Ev (fun k => laws_heldRuleS.l0 k (marksR f n) ((1 + 2 * i : Nat) : Int) i) ((1 + 2 * n : Nat) : Int) := by
  intro d
  have hl := marksR_length f n
  induction d with
  | zero =>
    intro i h
    obtain rfl : i = n := by omega
    exact Ev.step (fun _ => rfl) (Ev.neg (by omega) (Ev.now _))
  | succ d ih =>
    intro i h
    have w1 : Aside0 (wrap64 ((i : Int) + 1) = ((i + 1 : Nat) : Int)) := ⟨by rw [wr (by omega) (by omega)]; rfl⟩
    have w2 : Aside0 (wrap64 (((1 + 2 * i : Nat) : Int) + 1) = ((1 + 2 * i + 1 : Nat) : Int)) := ⟨by rw [wr (by omega) (by omega)]; omega⟩
    have w3 : Aside0 (wrap64 (((1 + 2 * i + 1 : Nat) : Int) + 1) = ((1 + 2 * (i + 1) : Nat) : Int)) := ⟨by rw [wr (by omega) (by omega)]; omega⟩
    have hr : rd_T55 (marksR f n) (i : Int) = ⟨f (1 + 2 * i), f (1 + 2 * i + 1)⟩ := by rw [rd_T55_nat (by omega), marksR_get]
    refine Ev.step (fun k => by rw [laws_heldRuleS.l0, w1.out, w2.out, w3.out, hr]) ?_
    exact Ev.pos (by omega) (Ev.pos (by omega) (Ev.bind (hf (1 + 2 * i) (by omega)) (Ev.pos rfl (Ev.bind (hf (1 + 2 * i + 1) (by omega)) (Ev.pos rfl (ih (i + 1) (by omega)))))))

theorem laws_heldSystem_ev (f : Nat → ByteArray) (hf : ∀ n : Nat, n ≤ 1000000000000 → Ev (fun k => laws_markText.f k (n : Int)) (f n)) (K : Int) (n : Nat) (hx : n ≤ 100000000000) : Ev (fun k => laws_heldSystem.f k K (marksR f n) 1) ((1 + 2 * n : Nat) : Int) := by
  unfold laws_heldSystem.f laws_heldRuleS.f
  exact Ev.bind (laws_heldRuleS_l0 f hf n hx n 0 (by omega)) (Ev.neg (by omega) (Ev.now _))

theorem FnExactTraceSystem : laws_FnExactTraceSystem.Pure := by
  intro K l _ hl hz
  apply Ev.rounds
  unfold laws_FnExactTraceSystem.f
  have hn : l.length ≤ 17592186044416 := by omega
  obtain ⟨r, e, hr⟩ := laws_szStringS_ev l hl hz 1048576 (by omega) (by omega)
  refine Ev.bind e (Ev.ite (fun h => Ev.now _) (fun h => ?_))
  have hs := hr (by omega)
  have hl' : l.length ≤ 1048576 := by omega
  obtain ⟨f, hf⟩ := markText_fun
  have E := impl_TraceSystem_ev K l (by omega) hz
  have T := laws_toStringS_ev l hn
  have S := spec_TraceSystem_ev K l (by omega) hz
  have hm := Nat.le_trans (sysOf_length K l) hl'
  generalize sysOf K l = s at E S hm
  obtain ⟨K', R, b⟩ := s
  have hm : R.length ≤ 1048576 := hm
  refine Ev.bind T (Ev.bind S (Ev.bind T (Ev.bind E (Ev.bind (laws_eqSystem_same K' R (by omega)) (Ev.pos rfl ?_)))))
  refine Ev.step (fun k => by rw [laws_FnExactTraceSystem.j0]) ?_
  refine Ev.neg (by simp) ?_
  refine Ev.bind T (Ev.bind (laws_eqStringS_same l (by omega)) (Ev.pos rfl ?_))
  refine Ev.bind (laws_markStringS_ev f hf l (by omega)) ?_
  refine Ev.neg (by omega) ?_
  refine Ev.bind (laws_eqSystem_same K' R (by omega)) (Ev.pos rfl ?_)
  refine Ev.step (fun k => by rw [laws_FnExactTraceSystem.j1]) ?_
  refine Ev.neg (by simp) ?_
  refine Ev.bind (laws_markSystem_ev f hf K' R (by omega)) ?_
  have H := laws_heldSystem_ev f hf K' R.length (by omega)
  refine Ev.bind H (Ev.neg (by omega) (Ev.pos rfl ?_))
  refine Ev.bind T (Ev.bind E (Ev.bind (laws_eqSystem_same K' R (by omega)) (Ev.pos rfl ?_)))
  refine Ev.step (fun k => by rw [laws_FnExactTraceSystem.j2]) ?_
  refine Ev.neg (by simp) ?_
  exact Ev.bind H (Ev.neg (by omega) (Ev.pos rfl (Ev.now _)))

end Go.Proofs.Ytnghepomhkoliaa.Pure
