/- The program's IsSquareFree returns what the reference's returns: for all words that fit the row's reach. -/
import Derived.Test.YtonfncakpdoglabQFnExactIsSquareFreex2
import Derived.Test.YtonfncakpdoglabThy
import Derived.Test.YtonfncakpdoglabThyRep
set_option linter.unusedVariables false
set_option linter.unusedSimpArgs false
namespace Go.Proofs.Ytonfncakpdoglab.Pure
open Go.RowKit Go.Proofs.Ytonfncakpdoglab.QFnExactIsSquareFree Go.Proofs.YtonfncakpdoglabW.PrintWords Go.Proofs.YtonfncakpdoglabW.PrintLast Go.Proofs.YtonfncakpdoglabW.PrintMore Go.Proofs.Ytonfncakpdoglab.Thy

theorem spec_l01In_eq (a b c : Int) : spec_l01In.f a b c = some (decide (b ≤ a ∧ a ≤ c)) := by
  unfold spec_l01In.f; split <;> simp <;> omega

theorem spec_LongOk_l0 (x : Int) (w : ByteArray) (hw : w.size ≤ 140737488351232) (hx : 1 ≤ x ∧ x ≤ 4) : ∀ (d : Nat) (i : Int), 0 ≤ i → i ≤ w.size → (w.size : Int) - i = d → Ev (fun k => spec_LongOk.l0 k x w i) (letters x ((N w).drop i.toNat)) := by
  intro d
  induction d with
  | zero =>
    intro i h0 h1 hd
    refine Ev.step (fun _ => rfl) (Ev.neg (by omega) (Ev.now' ?_))
    rw [N_done w i (by omega)]; rfl
  | succ d ih =>
    intro i h0 h1 hd
    have hb := bt_range w i
    rw [N_cons w i h0 (by omega), letters_cons]
    refine Ev.step (fun _ => rfl) (Ev.pos (by omega) (Ev.pos h0 (Ev.ite (fun h => Ev.now' ?_) (fun h => Ev.ite (fun h2 => Ev.now' ?_) (fun h2 => ?_)))))
    · simp; omega
    · simp; omega
    · rw [wr (by omega) (by omega)]
      refine Ev.eq (ih (i + 1) (by omega) (by omega) (by omega)) ?_
      rw [decide_eq_true (by omega), decide_eq_true (by omega)]; simp
theorem spec_LongOk_ev (x : Int) (w : ByteArray) (hw : w.size ≤ 140737488351232) : Ev (fun k => spec_LongOk.f k x w) (longOk 400 x w) := by
  unfold spec_LongOk.f longOk
  refine Ev.bind (spec_l01In_eq .. ▸ Ev.now _) (Ev.ite (fun h => ?_) (fun h => ?_))
  · have h2 := of_decide_eq_true h
    refine Ev.step (fun _ => rfl) (Ev.ite (fun h => Ev.now' ?_) (fun h => Ev.eq (spec_LongOk_l0 x w hw h2 w.size 0 (by omega) (by omega) (by omega)) ?_))
    · grind
    · grind
  · refine Ev.step (fun _ => spec_LongOk.j0.eq_2 ..) (Ev.pos rfl (Ev.now' ?_))
    grind

theorem spec_l20Ends_l0 (p : ByteArray) (h : Int) (hp : p.size ≤ 140737488351232) (h0 : 0 ≤ h) : ∀ (d : Nat) (i : Int), h ≤ i → i ≤ p.size → (p.size : Int) - i = d → Ev (fun k => spec_l20Ends.l0 k h p.size p i) ((N p).drop i.toNat == ((N p).drop (i - h).toNat).take (p.size - i.toNat)) := by
  intro d
  induction d with
  | zero =>
    intro i h1 h2 hd
    refine Ev.step (fun _ => rfl) (Ev.neg (by omega) (Ev.now' ?_))
    rw [N_done p i (by omega), show p.size - i.toNat = 0 by omega, List.take_zero]; rfl
  | succ d ih =>
    intro i h1 h2 hd
    have w1 : wrap64 (i + 1) = i + 1 := wr (by omega) (by omega)
    have w2 : wrap64 (i - h) = i - h := wr (by omega) (by omega)
    refine Ev.step (fun k => by rw [spec_l20Ends.l0, w1, w2]) (Ev.pos (by omega) (Ev.pos (by omega) (Ev.pos (by omega) (Ev.pos (by omega) (Ev.pos (by omega) ?_)))))
    rw [N_cons p i (by omega) (by omega), N_cons p (i - h) (by omega) (by omega), show p.size - i.toNat = (p.size - (i + 1).toNat) + 1 by omega, List.take_succ_cons]
    refine Ev.ite (fun e => Ev.eq (ih (i + 1) (by omega) (by omega) (by omega)) ?_) (fun e => Ev.now' ?_)
    · rw [e, show i + 1 - h = i - h + 1 by omega]; simp
    · symm; simp [e]
theorem spec_l20Ends_ev (w : ByteArray) (h n m : Int) (hw : w.size ≤ 400) (h0 : 0 ≤ h) (h1 : h ≤ 1000) (n0 : 1 ≤ n) (n1 : n ≤ 10) (m0 : 0 ≤ m) (m1 : m ≤ 1) : Ev (fun k => spec_l20Ends.f k w h n m) (ends (N w) h.toNat (h * n + m).toNat) := by
  unfold spec_l20Ends.f
  have q0 : h ≤ h * n := by have := Int.mul_le_mul_of_nonneg_left n0 h0; omega
  have q1 : h * n ≤ 10000 := by have := Int.mul_le_mul_of_nonneg_left n1 h0; omega
  have w1 : wrap64 (h * n) = h * n := wr (by omega) (by omega)
  have w2 : wrap64 (h * n + m) = h * n + m := wr (by omega) (by omega)
  have w3 : wrap64 ((w.size : Int) - (h * n + m)) = (w.size : Int) - (h * n + m) := wr (by omega) (by omega)
  simp only [w1, w2, w3]
  unfold ends
  refine Ev.ite (fun e => Ev.now' ?_) (fun e => Ev.pos (by omega) (Ev.pos (by omega) ?_))
  · rw [decide_eq_false (by rw [N_length]; omega)]; rfl
  · have hs : (w.extract ((w.size : Int) - (h * n + m)).toNat w.size).size = (h * n + m).toNat := by rw [ByteArray.size_extract]; omega
    have hN : N (w.extract ((w.size : Int) - (h * n + m)).toNat w.size) = (N w).drop ((N w).length - (h * n + m).toNat) := by
      rw [N_extract, N_length, List.take_of_length_le (by rw [List.length_drop, N_length]; omega)]
      congr 1; omega
    have := spec_l20Ends_l0 (w.extract ((w.size : Int) - (h * n + m)).toNat w.size) h (by omega) h0 ((w.extract ((w.size : Int) - (h * n + m)).toNat w.size).size - h.toNat) h (by omega) (by omega) (by omega)
    rw [hs, show (((h * n + m).toNat : Nat) : Int) = h * n + m by omega] at this
    refine Ev.eq this ?_
    rw [decide_eq_true (by rw [N_length]; omega), Bool.true_and, hN, Int.sub_self, per]
    rw [List.length_drop, N_length, show w.size - (w.size - (h * n + m).toNat) - h.toNat = (h * n + m).toNat - h.toNat by omega]
    rfl

theorem l20_wraps (h n m : Nat) (hh : h ≤ 401) (n0 : 1 ≤ n) (n1 : n ≤ 10) (m1 : m ≤ 1) : wrap64 ((h : Int) * n) = ((h * n : Nat) : Int) ∧ wrap64 (((h * n : Nat) : Int) + m) = ((h * n + m : Nat) : Int) ∧ wrap64 ((h : Int) + 1) = ((h + 1 : Nat) : Int) ∧ h ≤ h * n := by
  have q : h ≤ h * n := Nat.le_mul_of_pos_right h n0
  have q2 : h * n ≤ 401 * 10 := Nat.mul_le_mul hh n1
  rw [← Int.natCast_mul]
  generalize h * n = p at *
  exact ⟨wr (by omega) (by omega), by rw [wr (by omega) (by omega)]; rfl, by rw [wr (by omega) (by omega)]; rfl, q⟩
theorem spec_l20First_l1 (w : ByteArray) (n m : Nat) (hw : w.size ≤ 400) (n0 : 1 ≤ n) (n1 : n ≤ 10) (m1 : m ≤ 1) (e : Nat) (he : e ≤ w.size) (R : Int × Int) (next : Ev (fun k => spec_l20First.l0 k w n m (e + 1)) R) :
    ∀ (d h : Nat), h ≤ e + 1 → e + 1 ≤ h + d → 1 ≤ h → Ev (fun k => spec_l20First.l1 k w n m e h) (match frH (N w) n m e d h with | some h' => ((e : Int), (h' : Int)) | none => R) := by
  have w3 : wrap64 ((e : Int) + 1) = e + 1 := wr (by omega) (by omega)
  intro d
  induction d with
  | zero =>
    intro h h1 h2 h3
    obtain ⟨w1, w2, w4, q⟩ := l20_wraps h n m (by omega) n0 n1 m1
    have hc : ¬ ((h * n + m : Nat) : Int) ≤ (e : Int) := by clear w1 w2 w3 w4; generalize h * n = p at *; omega
    exact Ev.step (fun k => by rw [spec_l20First.l1, w1, w2, w3]) (Ev.neg hc next)
  | succ d ih =>
    intro h h1 h2 h3
    obtain ⟨w1, w2, w4, q⟩ := l20_wraps h n m (by omega) n0 n1 m1
    have hx : (w.extract 0 (e : Int).toNat).size = e := by rw [ByteArray.size_extract, Int.toNat_natCast, Nat.min_eq_left he, Nat.sub_zero]
    have hN : N (w.extract 0 (e : Int).toNat) = (N w).take e := by rw [N_extract]; simp
    have E := spec_l20Ends_ev (w.extract 0 (e : Int).toNat) h n m (by rw [hx]; exact Nat.le_trans he hw) (Int.natCast_nonneg h) (by clear w1 w2 w3 w4 q; omega) (by clear w1 w2 w3 w4 q; omega) (by clear w1 w2 w3 w4 q; omega) (by clear w1 w2 w3 w4 q; omega) (by clear w1 w2 w3 w4 q; omega)
    rw [hN, show ((h : Int) * n + m).toNat = h * n + m by rw [← Int.natCast_mul, ← Int.natCast_add, Int.toNat_natCast], Int.toNat_natCast h] at E
    refine Ev.step (fun k => by rw [spec_l20First.l1, w1, w2, w3, w4]) ?_
    rw [frH]
    by_cases c : h * n + m ≤ e
    · rw [if_pos c]
      refine Ev.pos (Int.ofNat_le.2 c) (Ev.pos (Int.natCast_nonneg e) (Ev.pos (Int.ofNat_le.2 he) (Ev.bind E (Ev.ite (fun c2 => Ev.now' ?_) (fun c2 => Ev.eq (ih (h + 1) ?_ ?_ ?_) ?_)))))
      · rw [if_pos c2]
      · clear w1 w2 w3 w4 E; generalize h * n = p at *; omega
      · clear w1 w2 w3 w4 E; generalize h * n = p at *; omega
      · exact Nat.le_add_left 1 h
      · rw [if_neg c2]
    · rw [if_neg c]
      exact Ev.neg (fun h => c (Int.ofNat_le.1 h)) next
theorem spec_l20First_l0 (w : ByteArray) (n m : Nat) (hw : w.size ≤ 400) (n0 : 1 ≤ n) (n1 : n ≤ 10) (m1 : m ≤ 1) :
    ∀ (d e : Nat), 1 ≤ e → e + d = w.size + 2 → Ev (fun k => spec_l20First.l0 k w n m e) (toInts (frE (N w) n m d e)) := by
  intro d
  induction d with
  | zero => intro e h1 h2; exact Ev.step (fun _ => rfl) (Ev.neg (by omega) (Ev.now _))
  | succ d ih =>
    intro e h1 h2
    rw [frE]
    refine Ev.step (fun _ => rfl) (Ev.ite (fun c => ?_) (fun c => Ev.now' ?_))
    · rw [if_pos (by rw [N_length]; omega)]
      refine Ev.eq (spec_l20First_l1 w n m hw n0 n1 m1 e (by omega) _ (ih (e + 1) (by omega) (by omega)) (e + 1) 1 (by omega) (by omega) (by omega)) ?_
      cases frH (N w) n m e (e + 1) 1 <;> rfl
    · rw [if_neg (by rw [N_length]; omega)]; rfl
theorem spec_l20First_ev (w : ByteArray) (n m : Nat) (hw : w.size ≤ 140737488351232) (n0 : 1 ≤ n) (n1 : n ≤ 10) (m1 : m ≤ 1) : Ev (fun k => spec_l20First.f k w n m) (if longOk 400 4 w = true then firstRep (N w) n m else (0, 0)) := by
  unfold spec_l20First.f
  refine Ev.bind (spec_LongOk_ev 4 w hw) (Ev.ite (fun h => ?_) (fun h => Ev.now' (by rw [if_neg h])))
  rw [if_pos h]
  have hs : w.size ≤ 400 := by have := longOk_size h; omega
  exact Ev.eq (spec_l20First_l0 w n m hs n0 n1 m1 (w.size + 1) 1 (by omega) (by omega)) (by unfold firstRep; rw [N_length])

theorem spec_l20Free_ev (w : ByteArray) (n m : Nat) (hw : w.size ≤ 140737488351232) (n0 : 1 ≤ n) (n1 : n ≤ 10) (m1 : m ≤ 1) : Ev (fun k => spec_l20Free.f k w n m) (longOk 400 4 w && ((if longOk 400 4 w = true then firstRep (N w) n m else (0, 0)).1 == 0)) := by
  unfold spec_l20Free.f
  exact Ev.bind (spec_l20First_ev w n m hw n0 n1 m1) (Ev.bind (spec_LongOk_ev 4 w hw) (Ev.ite (fun h => Ev.now' (by rw [h]; rfl)) (fun h => Ev.now' (by rw [Bool.eq_false_iff.2 h]; rfl))))

def firstPower (w : ByteArray) (n : Int) : Int × Int := if longOk 400 4 w = true ∧ 2 ≤ n ∧ n ≤ 8 then firstRep (N w) n.toNat 0 else (0, 0)

theorem spec_IsSquareFree_ev (w : ByteArray) (hw : w.size ≤ 140737488351232) : Ev (fun k => spec_IsSquareFree.f k w) (longOk 400 4 w && ((firstPower w 2).1 == 0)) := by
  unfold spec_IsSquareFree.f firstPower
  refine Ev.bind (spec_l20Free_ev w 2 0 hw (by omega) (by omega) (by omega)) ?_
  by_cases h2 : longOk 400 4 w = true
  · rw [if_pos h2, if_pos ⟨h2, by omega⟩]; exact Ev.now _
  · rw [if_neg h2, if_neg (fun z => h2 z.1)]; exact Ev.now _

theorem impl_within_eq (a b c : Int) : impl_within.f a b c = some (decide (b ≤ a ∧ a ≤ c)) := by
  unfold impl_within.f; split <;> simp <;> omega

theorem impl_hasLetters_l0 (x : Int) (w : ByteArray) (hw : w.size ≤ 140737488351232) (hx : 1 ≤ x ∧ x ≤ 4) : ∀ (d : Nat) (i : Int), 0 ≤ i → i ≤ w.size → (w.size : Int) - i = d → Ev (fun k => impl_hasLetters.l0 k x w w.size i) (letters x ((N w).drop i.toNat)) := by
  intro d
  induction d with
  | zero =>
    intro i h0 h1 hd
    refine Ev.step (fun _ => rfl) (Ev.neg (by omega) (Ev.now' ?_))
    rw [N_done w i (by omega)]; rfl
  | succ d ih =>
    intro i h0 h1 hd
    have hb := bt_range w i
    rw [N_cons w i h0 (by omega), letters_cons]
    refine Ev.step (fun _ => rfl) (Ev.pos (by omega) (Ev.pos h0 (Ev.pos (by omega) (Ev.bind (impl_within_eq .. ▸ Ev.now _) ?_))))
    rw [wr (by omega) (by omega), wr (n := 97 + x) (by omega) (by omega), wr (n := 97 + x - 1) (by omega) (by omega)]
    refine Ev.ite (fun h => ?_) (fun h => Ev.now' ?_)
    · rw [wr (by omega) (by omega)]
      refine Ev.eq (ih (i + 1) (by omega) (by omega) (by omega)) ?_
      grind
    · grind

theorem impl_LongOk_ev (x : Int) (w : ByteArray) (hw : w.size ≤ 140737488351232) : Ev (fun k => impl_LongOk.f k x w) (longOk 400 x w) := by
  unfold impl_LongOk.f longOk
  refine Ev.bind (impl_within_eq .. ▸ Ev.now _) (Ev.ite (fun h => ?_) (fun h => Ev.now' (by grind)))
  have h2 := of_decide_eq_true h
  refine Ev.ite (fun h => Ev.bind (impl_hasLetters_l0 x w hw h2 w.size 0 (by omega) (by omega) (by omega)) (Ev.now' (by grind))) (fun h => Ev.now' (by grind))

theorem FirstPower_1_nat (h n : Nat) (hh : h ≤ 401) (hn : n ≤ 8) : impl_FirstPower_1.f (h : Int) (n : Int) = some ((h * n : Nat) : Int) := by
  unfold impl_FirstPower_1.f
  have q : n * h ≤ 8 * 401 := Nat.mul_le_mul hn hh
  rw [← Int.natCast_mul, Nat.mul_comm h n]
  generalize n * h = p at *
  rw [wr (by omega) (by omega)]
theorem impl_firstRepeat_pw_l1 (w : ByteArray) (hw : w.size ≤ 400) (n : Nat) (n2 : 2 ≤ n) (n8 : n ≤ 8) (e : Nat) (he : e ≤ w.size) (R : Int × Int) (next : Ev (fun k => impl_firstRepeat_at_impl_FirstPower_1.l0 k w (e + 1) n) R) :
    ∀ (d h : Nat), h ≤ e + 1 → e + 1 ≤ h + d → 1 ≤ h → Ev (fun k => impl_firstRepeat_at_impl_FirstPower_1.l1 k w e h n) (match frH (N w) n 0 e d h with | some h' => ((e : Int), (h' : Int)) | none => R) := by
  have w3 : Aside0 (wrap64 ((e : Int) + 1) = e + 1) := ⟨wr (by omega) (by omega)⟩
  intro d
  induction d with
  | zero =>
    intro h h1 h2 h3
    have w1 := FirstPower_1_nat h n (by omega) n8
    have q : h * 1 ≤ h * n := Nat.mul_le_mul_left h (by omega)
    have hc : ¬ ((h * n : Nat) : Int) ≤ (e : Int) := by clear w1; generalize h * n = p at *; omega
    exact Ev.step (fun k => by rw [impl_firstRepeat_at_impl_FirstPower_1.l1, w1, w3.out, Option.bind_some]) (Ev.neg hc next)
  | succ d ih =>
    intro h h1 h2 h3
    have w1 := FirstPower_1_nat h n (by omega) n8
    have w4 : Aside0 (wrap64 ((h : Int) + 1) = ((h + 1 : Nat) : Int)) := ⟨by rw [wr (by omega) (by omega)]; rfl⟩
    have q : h * 2 ≤ h * n := Nat.mul_le_mul_left h n2
    rw [frH, Nat.add_zero]
    have ihn := ih (h + 1)
    generalize h * n = p at *
    by_cases c : p ≤ e
    · rw [if_pos c]
      have w5 : Aside0 (wrap64 ((e : Int) - (p : Int)) = ((e - p : Nat) : Int)) := ⟨by rw [wr (by omega) (by omega)]; omega⟩
      have hs : (w.extract (e - p) e).size = p := by rw [ByteArray.size_extract]; omega
      have w6 : Aside0 (wrap64 ((p : Int) - (h : Int)) = ((p - h : Nat) : Int)) := ⟨by rw [wr (by omega) (by omega)]; omega⟩
      have T := part_test w e p h (by omega) c he (w.extract (e - p) e) rfl
      rw [hs] at T
      refine Ev.step (fun k => by rw [impl_firstRepeat_at_impl_FirstPower_1.l1, w1, w3.out, w4.out, Option.bind_some, w5.out, Int.toNat_natCast, Int.toNat_natCast, Int.toNat_natCast, hs, w6.out, Int.toNat_natCast]) ?_
      refine Ev.pos (by omega) (Ev.pos (by omega) (Ev.pos (by omega) (Ev.pos (by omega) (Ev.pos (by omega) (Ev.pos (by omega) (Ev.pos (by omega) (Ev.pos (by omega) ?_)))))))
      refine Ev.ite (fun c2 => Ev.now' ?_) (fun c2 => Ev.eq (ihn (by omega) (by omega) (by omega)) ?_)
      · rw [if_pos (T.1 c2)]
      · rw [if_neg (fun z => c2 (T.2 z))]
    · rw [if_neg c]
      exact Ev.step (fun k => by rw [impl_firstRepeat_at_impl_FirstPower_1.l1, w1, w3.out, Option.bind_some]) (Ev.neg (by omega) next)
theorem impl_firstRepeat_pw_l0 (w : ByteArray) (hw : w.size ≤ 400) (n : Nat) (n2 : 2 ≤ n) (n8 : n ≤ 8) :
    ∀ (d e : Nat), 1 ≤ e → e + d = w.size + 2 → Ev (fun k => impl_firstRepeat_at_impl_FirstPower_1.l0 k w e n) (toInts (frE (N w) n 0 d e)) := by
  intro d
  induction d with
  | zero => intro e h1 h2; exact Ev.step (fun _ => rfl) (Ev.neg (by omega) (Ev.now _))
  | succ d ih =>
    intro e h1 h2
    rw [frE]
    refine Ev.step (fun _ => rfl) (Ev.ite (fun c => ?_) (fun c => Ev.now' ?_))
    · rw [if_pos (by rw [N_length]; omega)]
      refine Ev.eq (impl_firstRepeat_pw_l1 w hw n n2 n8 e (by omega) _ (ih (e + 1) (by omega) (by omega)) (e + 1) 1 (by omega) (by omega) (by omega)) ?_
      cases frH (N w) n 0 e (e + 1) 1 <;> rfl
    · rw [if_neg (by rw [N_length]; omega)]; rfl

theorem impl_FirstPower_ev (w : ByteArray) (n : Int) (hw : w.size ≤ 140737488351232) : Ev (fun k => impl_FirstPower.f k w n) (firstPower w n) := by
  unfold impl_FirstPower.f firstPower impl_firstRepeat_at_impl_FirstPower_1.f
  refine Ev.bind (impl_LongOk_ev 4 w hw) ?_
  by_cases h2 : longOk 400 4 w = true
  · refine Ev.pos h2 (Ev.bind (Ev.eqc (impl_within_eq ..)) ?_)
    by_cases h : 2 ≤ n ∧ n ≤ 8
    · rw [decide_eq_true h, if_pos ⟨h2, h⟩]
      have hs : w.size ≤ 400 := by have := longOk_size h2; omega
      have E : Ev (fun k => impl_firstRepeat_at_impl_FirstPower_1.l0 k w 1 n) (firstRep (N w) n.toNat 0) := by
        have := impl_firstRepeat_pw_l0 w hs n.toNat (by omega) (by omega) (w.size + 1) 1 (by omega) (by omega)
        rw [show ((n.toNat : Nat) : Int) = n by omega] at this
        exact Ev.eq this (by unfold firstRep; rw [N_length])
      exact Ev.pos rfl (Ev.bind E (Ev.now _))
    · rw [decide_eq_false h, if_neg (fun z => h z.2)]; exact Ev.neg (by simp) (Ev.now _)
  · rw [if_neg (fun z => h2 z.1)]; exact Ev.neg h2 (Ev.now _)

theorem impl_FirstSquare_ev (w : ByteArray) (hw : w.size ≤ 140737488351232) : Ev (fun k => impl_FirstSquare.f k w) (firstPower w 2) := by
  unfold impl_FirstSquare.f
  exact Ev.bind (impl_FirstPower_ev w 2 hw) (Ev.now _)

theorem impl_IsSquareFree_ev (w : ByteArray) (hw : w.size ≤ 140737488351232) : Ev (fun k => impl_IsSquareFree.f k w) (longOk 400 4 w && ((firstPower w 2).1 == 0)) := by
  unfold impl_IsSquareFree.f
  exact Ev.bind (impl_FirstSquare_ev w hw) (Ev.bind (impl_LongOk_ev 4 w hw) (Ev.ite (fun h => Ev.now' (by rw [h]; rfl)) (fun h => Ev.now' (by rw [Bool.eq_false_iff.2 h]; rfl))))

theorem FnExactIsSquareFree : laws_FnExactIsSquareFree.Pure := by
  intro w hw
  apply Ev.rounds
  unfold laws_FnExactIsSquareFree.f
  exact Ev.ite (fun h => Ev.now _) (fun h => Ev.bind (spec_IsSquareFree_ev w hw) (Ev.bind (impl_IsSquareFree_ev w hw) (Ev.neg (by simp) (Ev.now _))))

end Go.Proofs.Ytonfncakpdoglab.Pure
