/- The program's MirrorList returns what the reference's returns, and memory of its own: for all lists of words that fit the row's reach. -/
import Derived.Test.YtkklcjfpgfgkdaaQFnExactMirrorListx3
import Derived.Test.YtkklcjfpgfgkdaaThy
set_option linter.unusedVariables false
set_option linter.unusedSimpArgs false
namespace Go.Proofs.Ytkklcjfpgfgkdaa.Pure
open Go.RowKit Go.Proofs.Ytkklcjfpgfgkdaa.QFnExactMirrorList Go.Proofs.YtkklcjfpgfgkdaaW.PrintWords Go.Proofs.YtkklcjfpgfgkdaaW.PrintLast Go.Proofs.YtkklcjfpgfgkdaaW.PrintMore Go.Proofs.Ytkklcjfpgfgkdaa.Thy

def sumSz (l : List ByteArray) : Nat := (l.map ByteArray.size).sum
theorem sumSz_cons (s : ByteArray) (l : List ByteArray) : sumSz (s :: l) = s.size + sumSz l := by simp [sumSz]
theorem mem_sumSz {s : ByteArray} : ∀ {l : List ByteArray}, s ∈ l → s.size ≤ sumSz l
  | x :: l, h => by
    rw [sumSz_cons]
    rcases List.mem_cons.1 h with rfl | h
    · omega
    · have := mem_sumSz h; omega
theorem laws_szStringS_l0 (xs : List ByteArray) (hx : xs.length ≤ 140737488351232) (hz : ∀ s ∈ xs, s.size ≤ 140737488351232) : ∀ (d i : Nat) (a : Int), i + d = xs.length → 0 ≤ a → a ≤ 140737488351232 → ∃ r, Ev (fun k => laws_szStringS.l0 k xs a i) r ∧ (0 ≤ r → (sumSz (xs.drop i) : Int) ≤ a) := by
  intro d
  induction d with
  | zero => intro i a h h0 h1; exact ⟨a, Ev.step (fun _ => rfl) (Ev.neg (by omega) (Ev.now _)), fun _ => by rw [List.drop_of_length_le (by omega)]; exact h0⟩
  | succ d ih =>
    intro i a h h0 h1
    have hi : i < xs.length := by omega
    have hm := hz xs[i] (List.getElem_mem hi)
    have hr : rdOf ByteArray.empty xs (i : Int) = xs[i] := rdOf_nat hi
    have w1 : wrap64 ((i : Int) + 1) = ((i + 1 : Nat) : Int) := by rw [wr (by omega) (by omega)]; rfl
    have w2 : wrap64 (a - ((xs[i].size : Nat) : Int)) = a - xs[i].size := wr (by omega) (by omega)
    by_cases c : a - xs[i].size < 0
    · exact ⟨-1, Ev.step (fun k => by rw [laws_szStringS.l0, hr, w2]) (Ev.pos (by omega) (Ev.pos (by omega) (Ev.pos c (Ev.now _)))), fun h => absurd h (by omega)⟩
    · obtain ⟨r, e, hh⟩ := ih (i + 1) (a - xs[i].size) (by omega) (by omega) (by omega)
      refine ⟨r, Ev.step (fun k => by rw [laws_szStringS.l0, hr, w2, w1]) (Ev.pos (by omega) (Ev.pos (by omega) (Ev.neg c e))), fun h => ?_⟩
      have := hh h
      rw [List.drop_eq_getElem_cons hi, sumSz_cons]
      omega
theorem laws_szStringS_ev (xs : List ByteArray) (hx : xs.length * 16 ≤ 140737488351232) (hz : ∀ s ∈ xs, s.size ≤ 140737488351232) (a : Int) (a0 : 0 ≤ a) (a1 : a ≤ 140737488351232) : ∃ r, Ev (fun k => laws_szStringS.f k xs a) r ∧ (0 ≤ r → (xs.length : Int) + sumSz xs ≤ a) := by
  unfold laws_szStringS.f
  have w : wrap64 (a - (xs.length : Int)) = a - xs.length := wr (by omega) (by omega)
  rw [w]
  by_cases c : a - (xs.length : Int) < 0
  · exact ⟨-1, Ev.pos c (Ev.now _), fun h => absurd h (by omega)⟩
  · obtain ⟨r, e, hh⟩ := laws_szStringS_l0 xs (by omega) hz xs.length 0 (a - xs.length) (by omega) (by omega) (by omega)
    exact ⟨r, Ev.neg c e, fun h => by have := hh h; rw [List.drop_zero] at this; omega⟩

theorem laws_toStringS_l0 (xs : List ByteArray) (hx : xs.length ≤ 17592186044416) : ∀ (d i : Nat), i + d = xs.length → Ev (fun k => laws_toStringS.l0 k xs (xs.take i ++ List.replicate d (⟨#[]⟩ : ByteArray)) i) xs := by
  intro d
  induction d with
  | zero => intro i h; exact Ev.step (fun _ => rfl) (Ev.neg (by omega) (Ev.now' (by rw [List.take_of_length_le (by omega)]; simp)))
  | succ d ih =>
    intro i h
    have w1 : wrap64 ((i : Int) + 1) = ((i + 1 : Nat) : Int) := by rw [wr (by omega) (by omega)]; rfl
    have hl : (xs.take i).length = i := by rw [List.length_take]; omega
    have hs : (xs.take i ++ List.replicate (d + 1) (⟨#[]⟩ : ByteArray)).set i (rdOf ByteArray.empty xs (i : Int)) = xs.take (i + 1) ++ List.replicate d (⟨#[]⟩ : ByteArray) := by
      rw [rdOf_nat (by omega), List.set_append_right _ _ (by omega), hl, Nat.sub_self, List.replicate_succ, List.set_cons_zero, List.take_succ_eq_append_getElem (by omega), List.append_assoc]
      rfl
    refine Ev.step (fun k => by rw [laws_toStringS.l0, w1, Int.toNat_natCast, hs]) (Ev.pos (by omega) (Ev.pos (by omega) (Ev.pos (by rw [List.length_append, hl, List.length_replicate]; omega) (ih (i + 1) (by omega)))))
theorem laws_toStringS_ev (xs : List ByteArray) (hx : xs.length ≤ 17592186044416) : Ev (fun k => laws_toStringS.f k xs) xs := by
  unfold laws_toStringS.f
  refine Ev.pos (by omega) (Ev.pos (by omega) ?_)
  simpa using laws_toStringS_l0 xs hx xs.length 0 (by omega)

theorem laws_eqStringS_l0 (xs : List ByteArray) (hx : xs.length ≤ 140737488351232) : ∀ (d i : Nat), i + d = xs.length → Ev (fun k => laws_eqStringS.l0 k xs xs i) true := by
  intro d
  induction d with
  | zero => intro i h; exact Ev.step (fun _ => rfl) (Ev.neg (by omega) (Ev.now _))
  | succ d ih =>
    intro i h
    have w1 : wrap64 ((i : Int) + 1) = ((i + 1 : Nat) : Int) := by rw [wr (by omega) (by omega)]; rfl
    exact Ev.step (fun k => by rw [laws_eqStringS.l0, w1]) (Ev.pos (by omega) (Ev.pos (by omega) (Ev.pos (by omega) (Ev.pos rfl (ih (i + 1) (by omega))))))
theorem laws_eqStringS_same (xs : List ByteArray) (hx : xs.length ≤ 140737488351232) : Ev (fun k => laws_eqStringS.f k xs xs) true := by
  unfold laws_eqStringS.f
  exact Ev.pos rfl (laws_eqStringS_l0 xs hx xs.length 0 (by omega))

def mirrorB (w : ByteArray) : ByteArray := strOfNums (N w).reverse
theorem N_mirrorB (w : ByteArray) : N (mirrorB w) = (N w).reverse := N_nums (fun c hc => N_range w c (List.mem_reverse.1 hc))
theorem mirrorB_size (w : ByteArray) : (mirrorB w).size = w.size := by rw [← N_length, N_mirrorB, List.length_reverse, N_length]
theorem mirrorB_inj {u v : ByteArray} (h : mirrorB u = mirrorB v) : u = v := by
  apply N_inj
  have := congrArg N h
  rw [N_mirrorB, N_mirrorB] at this
  exact List.reverse_inj.1 this
theorem mirrorB_mirrorB (w : ByteArray) : mirrorB (mirrorB w) = w := by
  apply N_inj
  rw [N_mirrorB, N_mirrorB, List.reverse_reverse]

theorem spec_MirrorWord_l0 (w : ByteArray) (hw : w.size ≤ 140737488351232) : ∀ (i : Nat) (s : ByteArray), i ≤ w.size → s.size + i ≤ w.size → Ev (fun k => spec_MirrorWord.l0 k w s ((i : Int) - 1)) (strOfNums (N s ++ ((N w).take i).reverse)) := by
  intro i
  induction i with
  | zero => intro s h hs; exact Ev.step (fun _ => rfl) (Ev.neg (by omega) (Ev.now' (by rw [List.take_zero, List.reverse_nil, List.append_nil, B_N])))
  | succ i ih =>
    intro s h hs
    have w0 : ((i + 1 : Nat) : Int) - 1 = (i : Int) := by omega
    have w1 : Aside0 (wrap64 ((i : Int) + 1) = (i : Int) + 1) := ⟨wr (by omega) (by omega)⟩
    have w2 : Aside0 (wrap64 ((i : Int) - 1) = (i : Int) - 1) := ⟨wr (by omega) (by omega)⟩
    have hx := N_one w (i : Int) (by omega) (by omega)
    have hxs := N_one_size w (i : Int) (by omega) (by omega)
    rw [w0]
    refine Ev.step (fun k => by rw [spec_MirrorWord.l0, w1.out, w2.out]) (Ev.pos (by omega) (Ev.pos (by omega) (Ev.pos (by omega) (Ev.pos (by omega) (Ev.pos (by omega) ?_)))))
    refine Ev.eq (ih _ (by omega) (by rw [ByteArray.size_append, hxs]; omega)) ?_
    have h2 : i < (N w).length := by rw [N_length]; omega
    have hb : (N w)[i] = bt w (i : Int) := by rw [N_bt, List.getD_eq_getElem?_getD, Int.toNat_natCast, List.getElem?_eq_getElem h2]; rfl
    rw [N_append, hx, List.take_succ_eq_append_getElem h2, hb, List.reverse_append]
    simp
theorem spec_MirrorWord_ev (w : ByteArray) (hw : w.size ≤ 140737488351232) : Ev (fun k => spec_MirrorWord.f k w) (mirrorB w) := by
  unfold spec_MirrorWord.f mirrorB
  rw [wr (by omega) (by omega)]
  refine Ev.eq (spec_MirrorWord_l0 w hw w.size (⟨#[]⟩ : ByteArray) (Nat.le_refl _) (by show 0 + w.size ≤ _; omega)) ?_
  rw [List.take_of_length_le (by rw [N_length]; exact Nat.le_refl _)]; rfl

theorem spec_MirrorList_l0 (l : List ByteArray) (hl : l.length ≤ 1000000000000) (hz : ∀ s ∈ l, s.size ≤ 140737488351232) : ∀ (d i : Nat), i + d = l.length → Ev (fun k => spec_MirrorList.l0 k ((l.take i).map mirrorB) l l.length i) (l.map mirrorB) := by
  intro d
  induction d with
  | zero => intro i h; exact Ev.step (fun _ => rfl) (Ev.neg (by omega) (Ev.now' (by rw [List.take_of_length_le (by omega)])))
  | succ d ih =>
    intro i h
    have hi : i < l.length := by omega
    have w1 : Aside0 (wrap64 ((i : Int) + 1) = ((i + 1 : Nat) : Int)) := ⟨by rw [wr (by omega) (by omega)]; rfl⟩
    have hlen : ((l.take i).map mirrorB).length = i := by rw [List.length_map, List.length_take]; omega
    refine Ev.step (fun k => by rw [spec_MirrorList.l0, w1.out, rdOf_nat hi]) (Ev.pos (by omega) (Ev.pos (by omega) (Ev.pos (by omega) (Ev.bind (spec_MirrorWord_ev l[i] (hz _ (List.getElem_mem hi))) ?_))))
    refine Ev.pos (by omega) ?_
    have := ih (i + 1) (by omega)
    rw [List.take_succ_eq_append_getElem hi, List.map_append] at this
    exact this
theorem spec_MirrorList_ev (l : List ByteArray) (hl : l.length ≤ 1000000000000) (hz : ∀ s ∈ l, s.size ≤ 140737488351232) : Ev (fun k => spec_MirrorList.f k l) (l.map mirrorB) := by
  unfold spec_MirrorList.f
  exact spec_MirrorList_l0 l hl hz l.length 0 (by omega)

theorem impl_MirrorWord_eq (s : ByteArray) (hs : s.size ≤ 140737488351232) : impl_MirrorWord.f s = some (mirrorB s) := by
  unfold impl_MirrorWord.f
  rw [if_pos (by omega)]
  congr 1
  apply N_inj
  rw [N_mirrorB]
  simp [N, revB]

theorem impl_MirrorList_l0 (l : List ByteArray) (hl : l.length ≤ 1000000000000) (hz : ∀ s ∈ l, s.size ≤ 140737488351232) : ∀ (d i : Nat), i + d = l.length → Ev (fun k => impl_MirrorList.l0 k ((l.take i).map mirrorB) l l.length i) (l.map mirrorB) := by
  intro d
  induction d with
  | zero => intro i h; exact Ev.step (fun _ => rfl) (Ev.neg (by omega) (Ev.now' (by rw [List.take_of_length_le (by omega)])))
  | succ d ih =>
    intro i h
    have hi : i < l.length := by omega
    have w1 : Aside0 (wrap64 ((i : Int) + 1) = ((i + 1 : Nat) : Int)) := ⟨by rw [wr (by omega) (by omega)]; rfl⟩
    have hlen : ((l.take i).map mirrorB).length = i := by rw [List.length_map, List.length_take]; omega
    refine Ev.step (fun k => by rw [impl_MirrorList.l0, w1.out, rdOf_nat hi]) (Ev.pos (by omega) (Ev.pos (by omega) (Ev.pos (by omega) (Ev.bind (Ev.eqc (impl_MirrorWord_eq l[i] (hz _ (List.getElem_mem hi)))) ?_))))
    refine Ev.pos (by omega) ?_
    have := ih (i + 1) (by omega)
    rw [List.take_succ_eq_append_getElem hi, List.map_append] at this
    exact this
theorem impl_MirrorList_ev (l : List ByteArray) (hl : l.length ≤ 1000000000000) (hz : ∀ s ∈ l, s.size ≤ 140737488351232) : Ev (fun k => impl_MirrorList.f k l) (l.map mirrorB) := by
  unfold impl_MirrorList.f
  exact impl_MirrorList_l0 l hl hz l.length 0 (by omega)

theorem laws_markText_l0 : ∀ (m : Nat) (x : Int) (s : ByteArray), 0 ≤ x → x.toNat ≤ m → x ≤ 4611686018427387904 → (s.size : Int) + x ≤ 4611686018427387904 → ∃ r, Ev (fun k => laws_markText.l0 k x s) r := by
  intro m
  induction m with
  | zero =>
    intro x s h0 hm hx hs
    have : x = 0 := by omega
    subst this
    exact ⟨_, Ev.step (fun _ => rfl) (Ev.neg (by omega) (Ev.pos (by omega) (Ev.now _)))⟩
  | succ m ih =>
    intro x s h0 hm hx hs
    by_cases hp : x > 0
    · have w1 : Aside0 (wrap64 (Int.tdiv x 10) = x / 10) := ⟨by rw [Int.tdiv_eq_ediv_of_nonneg h0, wr (by omega) (by omega)]⟩
      have h1 : (strOfNums [(wrap64 (48 + (Int.tmod x 10))) % 256]).size = 1 := rfl
      obtain ⟨r, e⟩ := ih (x / 10) (strOfNums [(wrap64 (48 + (Int.tmod x 10))) % 256] ++ s) (by omega) (by omega) (by omega) (by rw [ByteArray.size_append, h1]; omega)
      refine ⟨r, Ev.step (fun k => by rw [laws_markText.l0, w1.out]) (Ev.pos hp ?_)⟩
      simp only [Option.bind_some]
      exact Ev.pos (by rw [h1]; omega) e
    · have : x = 0 := by omega
      subst this
      exact ⟨_, Ev.step (fun _ => rfl) (Ev.neg (by omega) (Ev.pos (by omega) (Ev.now _)))⟩
theorem laws_markText_ev (n : Nat) (hn : n ≤ 1000000000000) : ∃ r, Ev (fun k => laws_markText.f k (n : Int)) r := by
  unfold laws_markText.f
  by_cases h : (n : Int) ≤ 0
  · exact ⟨_, Ev.pos h (Ev.now _)⟩
  · obtain ⟨r, e⟩ := laws_markText_l0 n n ⟨#[]⟩ (by omega) (by omega) (by omega) (by show ((0 : Nat) : Int) + n ≤ _; omega)
    exact ⟨r, Ev.neg h e⟩
theorem markText_fun : ∃ f : Nat → ByteArray, ∀ n : Nat, n ≤ 1000000000000 → Ev (fun k => laws_markText.f k (n : Int)) (f n) :=
  ⟨fun n => if h : n ≤ 1000000000000 then Classical.choose (laws_markText_ev n h) else ByteArray.empty, fun n h => by
    show Ev _ (if h : n ≤ 1000000000000 then Classical.choose (laws_markText_ev n h) else ByteArray.empty)
    rw [dif_pos h]
    exact Classical.choose_spec (laws_markText_ev n h)⟩
def marksB (f : Nat → ByteArray) (n : Nat) : List ByteArray := (List.range n).map fun i => f (1 + i)
theorem marksB_length (f : Nat → ByteArray) (n : Nat) : (marksB f n).length = n := by simp [marksB]
theorem marksB_get (f : Nat → ByteArray) (n i : Nat) (h : i < (marksB f n).length) : (marksB f n)[i] = f (1 + i) := by simp [marksB]
theorem marksB_succ (f : Nat → ByteArray) (n : Nat) : marksB f (n + 1) = marksB f n ++ [f (1 + n)] := by simp [marksB, List.range_succ]

theorem laws_markStringS_l0 (f : Nat → ByteArray) (hf : ∀ n : Nat, n ≤ 1000000000000 → Ev (fun k => laws_markText.f k (n : Int)) (f n)) (n : Nat) (hx : n ≤ 100000000000) : ∀ (d i : Nat) (xs : List ByteArray), xs.length = n → i + d = n → xs.take i = marksB f i → Ev (fun k => laws_markStringS.l0 k xs ((1 + i : Nat) : Int) i) (((1 + n : Nat) : Int), marksB f n) := by
  intro d
  induction d with
  | zero =>
    intro i xs hl h ht
    obtain rfl : i = n := by omega
    refine Ev.step (fun _ => rfl) (Ev.neg (by omega) (Ev.now' ?_))
    rw [← ht, List.take_of_length_le (by omega)]
  | succ d ih =>
    intro i xs hl h ht
    have w1 : Aside0 (wrap64 ((i : Int) + 1) = ((i + 1 : Nat) : Int)) := ⟨by rw [wr (by omega) (by omega)]; rfl⟩
    have w2 : Aside0 (wrap64 (((1 + i : Nat) : Int) + 1) = ((1 + (i + 1) : Nat) : Int)) := ⟨by rw [wr (by omega) (by omega)]; omega⟩
    refine Ev.step (fun k => by rw [laws_markStringS.l0, w1.out, w2.out, Int.toNat_natCast]) ?_
    refine Ev.pos (by omega) (Ev.bind (hf (1 + i) (by omega)) (Ev.pos (by omega) (ih (i + 1) _ (by rw [List.length_set]; exact hl) (by omega) ?_)))
    rw [List.take_succ_eq_append_getElem (by rw [List.length_set]; omega), List.getElem_set_self, List.take_set_of_le (Nat.le_refl i), ht, marksB_succ]
theorem laws_markStringS_ev (f : Nat → ByteArray) (hf : ∀ n : Nat, n ≤ 1000000000000 → Ev (fun k => laws_markText.f k (n : Int)) (f n)) (xs : List ByteArray) (hx : xs.length ≤ 100000000000) : Ev (fun k => laws_markStringS.f k xs 1) (((1 + xs.length : Nat) : Int), marksB f xs.length) := by
  unfold laws_markStringS.f
  exact laws_markStringS_l0 f hf xs.length hx xs.length 0 xs rfl (by omega) rfl

theorem laws_heldStringS_l0 (f : Nat → ByteArray) (hf : ∀ n : Nat, n ≤ 1000000000000 → Ev (fun k => laws_markText.f k (n : Int)) (f n)) (n : Nat) (hx : n ≤ 100000000000) : ∀ (d i : Nat), i + d = n → Ev (fun k => laws_heldStringS.l0 k (marksB f n) ((1 + i : Nat) : Int) i) ((1 + n : Nat) : Int) := by
  intro d
  have hl := marksB_length f n
  induction d with
  | zero =>
    intro i h
    obtain rfl : i = n := by omega
    exact Ev.step (fun _ => rfl) (Ev.neg (by omega) (Ev.now _))
  | succ d ih =>
    intro i h
    have w1 : Aside0 (wrap64 ((i : Int) + 1) = ((i + 1 : Nat) : Int)) := ⟨by rw [wr (by omega) (by omega)]; rfl⟩
    have w2 : Aside0 (wrap64 (((1 + i : Nat) : Int) + 1) = ((1 + (i + 1) : Nat) : Int)) := ⟨by rw [wr (by omega) (by omega)]; omega⟩
    have hr : rdOf ByteArray.empty (marksB f n) (i : Int) = f (1 + i) := by rw [rdOf_nat (by omega), marksB_get]
    refine Ev.step (fun k => by rw [laws_heldStringS.l0, w1.out, w2.out, hr]) ?_
    exact Ev.pos (by omega) (Ev.pos (by omega) (Ev.bind (hf (1 + i) (by omega)) (Ev.pos rfl (ih (i + 1) (by omega)))))
theorem laws_heldStringS_ev (f : Nat → ByteArray) (hf : ∀ n : Nat, n ≤ 1000000000000 → Ev (fun k => laws_markText.f k (n : Int)) (f n)) (n : Nat) (hx : n ≤ 100000000000) : Ev (fun k => laws_heldStringS.f k (marksB f n) 1) ((1 + n : Nat) : Int) := by
  unfold laws_heldStringS.f
  exact laws_heldStringS_l0 f hf n hx n 0 (by omega)

theorem FnExactMirrorList : laws_FnExactMirrorList.Pure := by
  intro l hl hz
  apply Ev.rounds
  unfold laws_FnExactMirrorList.f
  have hn : l.length ≤ 17592186044416 := by omega
  obtain ⟨r, e, hr⟩ := laws_szStringS_ev l hl hz 1048576 (by omega) (by omega)
  refine Ev.bind e (Ev.ite (fun h => Ev.now _) (fun h => ?_))
  have hs := hr (by omega)
  have hl' : l.length ≤ 1048576 := by omega
  obtain ⟨f, hf⟩ := markText_fun
  have E := impl_MirrorList_ev l (by omega) hz
  have T := laws_toStringS_ev l hn
  have S := spec_MirrorList_ev l (by omega) hz
  have hm : (l.map mirrorB).length = l.length := List.length_map ..
  generalize l.map mirrorB = m at E S hm
  have hm' : m.length ≤ 1048576 := by omega
  refine Ev.bind T (Ev.bind S (Ev.bind T (Ev.bind E (Ev.bind (laws_eqStringS_same m (by omega)) (Ev.pos rfl ?_)))))
  refine Ev.bind T (Ev.bind (laws_eqStringS_same l (by omega)) (Ev.pos rfl ?_))
  refine Ev.bind (laws_markStringS_ev f hf l (by omega)) ?_
  refine Ev.neg (by omega) ?_
  refine Ev.bind (laws_eqStringS_same m (by omega)) ?_
  refine Ev.step (fun k => by rw [laws_FnExactMirrorList.j0]) ?_
  refine Ev.neg (by decide) ?_
  refine Ev.bind (laws_markStringS_ev f hf m (by omega)) ?_
  have H := laws_heldStringS_ev f hf m.length (by omega)
  refine Ev.bind H (Ev.neg (by omega) (Ev.pos rfl ?_))
  exact Ev.bind T (Ev.bind E (Ev.bind (laws_eqStringS_same m (by omega)) (Ev.pos rfl (Ev.bind H (Ev.neg (by omega) (Ev.pos rfl (Ev.now _)))))))

end Go.Proofs.Ytkklcjfpgfgkdaa.Pure
