/- The program's GreatestPower returns what the reference's returns: for all words that fit the row's reach. -/
import Derived.Test.YtonfncakpdoglaaQFnExactGreatestPowerx2
import Derived.Test.YtonfncakpdoglaaThy
set_option linter.unusedVariables false
set_option linter.unusedSimpArgs false
namespace Go.Proofs.Ytonfncakpdoglaa.Pure
open Go.RowKit Go.Proofs.Ytonfncakpdoglaa.QFnExactGreatestPower Go.Proofs.YtonfncakpdoglaaW.PrintWords Go.Proofs.YtonfncakpdoglaaW.PrintLast Go.Proofs.YtonfncakpdoglaaW.PrintMore Go.Proofs.Ytonfncakpdoglaa.Thy

theorem spec_l01In_eq (a b c : Int) : spec_l01In.f a b c = some (decide (b ≤ a ∧ a ≤ c)) := by
  unfold spec_l01In.f; split <;> simp <;> omega

theorem spec_LongOk_l0 (x : Int) (w : ByteArray) (hw : w.size ≤ 140737488351232) (hx : 1 ≤ x ∧ x ≤ 4) : ∀ (d : Nat) (i : Int), 0 ≤ i → i ≤ w.size → (w.size : Int) - i = d → Ev (fun k => spec_LongOk.l0 k x w i) (letters x ((N w).drop i.toNat)) := by
  intro d
  induction d with
  | zero =>
    intro i h0 h1 hd
    refine Ev.step (fun _ => rfl) (Ev.neg (by omega) (Ev.now' ?_))
    rw [N_done w i (by omega)]; rfl
  | succ d ih =>
    intro i h0 h1 hd
    have hb := bt_range w i
    rw [N_cons w i h0 (by omega), letters_cons]
    refine Ev.step (fun _ => rfl) (Ev.pos (by omega) (Ev.pos h0 (Ev.ite (fun h => Ev.now' ?_) (fun h => Ev.ite (fun h2 => Ev.now' ?_) (fun h2 => ?_)))))
    · simp; omega
    · simp; omega
    · rw [wr (by omega) (by omega)]
      refine Ev.eq (ih (i + 1) (by omega) (by omega) (by omega)) ?_
      rw [decide_eq_true (by omega), decide_eq_true (by omega)]; simp
theorem spec_LongOk_ev (x : Int) (w : ByteArray) (hw : w.size ≤ 140737488351232) : Ev (fun k => spec_LongOk.f k x w) (longOk 400 x w) := by
  unfold spec_LongOk.f longOk
  refine Ev.bind (spec_l01In_eq .. ▸ Ev.now _) (Ev.ite (fun h => ?_) (fun h => ?_))
  · have h2 := of_decide_eq_true h
    refine Ev.step (fun _ => rfl) (Ev.ite (fun h => Ev.now' ?_) (fun h => Ev.eq (spec_LongOk_l0 x w hw h2 w.size 0 (by omega) (by omega) (by omega)) ?_))
    · grind
    · grind
  · refine Ev.step (fun _ => spec_LongOk.j0.eq_2 ..) (Ev.pos rfl (Ev.now' ?_))
    grind

theorem impl_within_eq (a b c : Int) : impl_within.f a b c = some (decide (b ≤ a ∧ a ≤ c)) := by
  unfold impl_within.f; split <;> simp <;> omega

theorem impl_hasLetters_l0 (x : Int) (w : ByteArray) (hw : w.size ≤ 140737488351232) (hx : 1 ≤ x ∧ x ≤ 4) : ∀ (d : Nat) (i : Int), 0 ≤ i → i ≤ w.size → (w.size : Int) - i = d → Ev (fun k => impl_hasLetters.l0 k x w w.size i) (letters x ((N w).drop i.toNat)) := by
  intro d
  induction d with
  | zero =>
    intro i h0 h1 hd
    refine Ev.step (fun _ => rfl) (Ev.neg (by omega) (Ev.now' ?_))
    rw [N_done w i (by omega)]; rfl
  | succ d ih =>
    intro i h0 h1 hd
    have hb := bt_range w i
    rw [N_cons w i h0 (by omega), letters_cons]
    refine Ev.step (fun _ => rfl) (Ev.pos (by omega) (Ev.pos h0 (Ev.pos (by omega) (Ev.bind (impl_within_eq .. ▸ Ev.now _) ?_))))
    rw [wr (by omega) (by omega), wr (n := 97 + x) (by omega) (by omega), wr (n := 97 + x - 1) (by omega) (by omega)]
    refine Ev.ite (fun h => ?_) (fun h => Ev.now' ?_)
    · rw [wr (by omega) (by omega)]
      refine Ev.eq (ih (i + 1) (by omega) (by omega) (by omega)) ?_
      grind
    · grind

theorem impl_LongOk_ev (x : Int) (w : ByteArray) (hw : w.size ≤ 140737488351232) : Ev (fun k => impl_LongOk.f k x w) (longOk 400 x w) := by
  unfold impl_LongOk.f longOk
  refine Ev.bind (impl_within_eq .. ▸ Ev.now _) (Ev.ite (fun h => ?_) (fun h => Ev.now' (by grind)))
  have h2 := of_decide_eq_true h
  refine Ev.ite (fun h => Ev.bind (impl_hasLetters_l0 x w hw h2 w.size 0 (by omega) (by omega) (by omega)) (Ev.now' (by grind))) (fun h => Ev.now' (by grind))

theorem GreatestPower_l1 (w : ByteArray) (h : Int) (hh : 1 ≤ h) (hw : w.size ≤ 140737488351232) (hhw : h ≤ w.size)
    (next : ∀ b : Int, 1 ≤ b → b ≤ 140737488351233 → ∃ r, Ev (fun k => spec_GreatestPower.l0 k w b (h + 1)) r ∧ Ev (fun k => impl_GreatestPower.l0 k w b (h + 1)) r) :
    ∀ (d : Nat) (b run i : Int), 1 ≤ b → b ≤ 140737488351233 → 0 ≤ run → run + h ≤ i → i ≤ w.size → (w.size : Int) - i = d → ∃ r, Ev (fun k => spec_GreatestPower.l1 k w b h (run + h) i) r ∧ Ev (fun k => impl_GreatestPower.l1 k w b h run i) r := by
  intro d
  induction d with
  | zero =>
    intro b run i hb hb2 hr hri hi hd
    obtain ⟨r, e1, e2⟩ := next b hb hb2
    refine ⟨r, Ev.step (fun k => by rw [spec_GreatestPower.l1, wr (n := h + 1) (by omega) (by omega)]) (Ev.neg (by omega) e1), Ev.step (fun k => by rw [impl_GreatestPower.l1, wr (n := h + 1) (by omega) (by omega)]) (Ev.neg (by omega) e2)⟩
  | succ d ih =>
    intro b run i hb hb2 hr hri hi hd
    have w1 : wrap64 (i + 1) = i + 1 := wr (by omega) (by omega)
    have w2 : wrap64 (i - h) = i - h := wr (by omega) (by omega)
    by_cases hc : bt w i = bt w (i - h)
    · have w3 : wrap64 (run + 1) = run + 1 := wr (by omega) (by omega)
      have w4 : wrap64 (run + h + 1) = run + 1 + h := by rw [wr (by omega) (by omega)]; omega
      have q0 : 0 ≤ (run + 1) / h := Int.ediv_nonneg (by omega) (by omega)
      have q1 : (run + 1) / h ≤ run + 1 := Int.ediv_le_self _ (by omega)
      have e5 : Int.tdiv (run + 1 + h) h = (run + 1) / h + 1 := by
        rw [Int.tdiv_eq_ediv_of_nonneg (by omega), Int.add_ediv_of_dvd_right (Int.dvd_refl h), Int.ediv_self (by omega)]
      have e6 : Int.tdiv (run + 1) h = (run + 1) / h := Int.tdiv_eq_ediv_of_nonneg (by omega)
      have w7 : wrap64 ((run + 1) / h) = (run + 1) / h := wr (by omega) (by omega)
      have w8 : wrap64 ((run + 1) / h + 1) = (run + 1) / h + 1 := wr (by omega) (by omega)
      obtain ⟨r, e1, e2⟩ := ih (mx b ((run + 1) / h + 1)) (run + 1) (i + 1) (by unfold mx; split <;> omega) (by unfold mx; split <;> omega) (by omega) (by omega) (by omega) (by omega)
      refine ⟨r, Ev.step (fun k => by rw [spec_GreatestPower.l1, w1, w2, w4, e5, w8]) (Ev.pos (by omega) (Ev.pos (by omega) (Ev.pos (by omega) (Ev.pos (by omega) (Ev.pos hc (Ev.neg (by omega) e1)))))), Ev.step (fun k => by rw [impl_GreatestPower.l1, w1, w2, w3, e6, w7, w8]) (Ev.pos (by omega) (Ev.pos (by omega) (Ev.pos (by omega) (Ev.pos (by omega) (Ev.pos hc (Ev.neg (by omega) e2))))))⟩
    · have m1 : mx b 1 = b := by unfold mx; split <;> omega
      obtain ⟨r, e1, e2⟩ := ih b 0 (i + 1) hb hb2 (by omega) (by omega) (by omega) (by omega)
      rw [Int.zero_add] at e1
      refine ⟨r, Ev.step (fun k => by rw [spec_GreatestPower.l1, w1, w2, m1]) (Ev.pos (by omega) (Ev.pos (by omega) (Ev.pos (by omega) (Ev.pos (by omega) (Ev.neg hc (Ev.neg (by omega) e1)))))), Ev.step (fun k => by rw [impl_GreatestPower.l1, w1, w2, m1]) (Ev.pos (by omega) (Ev.pos (by omega) (Ev.pos (by omega) (Ev.pos (by omega) (Ev.neg hc (Ev.neg (by omega) e2))))))⟩
theorem GreatestPower_l0 (w : ByteArray) (hw : w.size ≤ 140737488351232) : ∀ (d : Nat) (b h : Int), 1 ≤ b → b ≤ 140737488351233 → 1 ≤ h → (w.size : Int) + 1 - h ≤ d → ∃ r, Ev (fun k => spec_GreatestPower.l0 k w b h) r ∧ Ev (fun k => impl_GreatestPower.l0 k w b h) r := by
  intro d
  induction d with
  | zero =>
    intro b h hb hb2 hh hd
    exact ⟨b, Ev.step (fun _ => rfl) (Ev.neg (by omega) (Ev.now _)), Ev.step (fun _ => rfl) (Ev.neg (by omega) (Ev.now _))⟩
  | succ d ih =>
    intro b h hb hb2 hh hd
    by_cases hlt : h < w.size
    · obtain ⟨r, e1, e2⟩ := GreatestPower_l1 w h hh hw (by omega) (fun b hb hb2 => ih b (h + 1) hb hb2 (by omega) (by omega)) (w.size - h.toNat) b 0 h hb hb2 (by omega) (by omega) (by omega) (by omega)
      rw [Int.zero_add] at e1
      exact ⟨r, Ev.step (fun _ => rfl) (Ev.pos (by omega) e1), Ev.step (fun _ => rfl) (Ev.pos (by omega) e2)⟩
    · refine ⟨b, Ev.step (fun _ => rfl) (Ev.ite (fun h2 => ?_) (fun h2 => Ev.now _)), Ev.step (fun _ => rfl) (Ev.neg (by omega) (Ev.now _))⟩
      refine Ev.step (fun k => by rw [spec_GreatestPower.l1, wr (n := h + 1) (by omega) (by omega)]) (Ev.neg (by omega) ?_)
      exact Ev.step (fun _ => rfl) (Ev.neg (by omega) (Ev.now _))
theorem FnExactGreatestPower : laws_FnExactGreatestPower.Pure := by
  intro w hw
  apply Ev.rounds
  unfold laws_FnExactGreatestPower.f spec_GreatestPower.f impl_GreatestPower.f
  refine Ev.ite (fun h => Ev.now _) (fun h => ?_)
  have stop : ∀ k, impl_GreatestPower.j0 (k + 1) w true = some 0 := fun k => by rw [impl_GreatestPower.j0, if_pos rfl]
  have stop2 : ∀ k, spec_GreatestPower.j0 (k + 1) w true = some 0 := fun k => by rw [spec_GreatestPower.j0, if_pos rfl]
  have on : ∀ k, impl_GreatestPower.j0 (k + 1) w false = impl_GreatestPower.l0 k w 1 1 := fun k => by rw [impl_GreatestPower.j0, if_neg (by simp)]
  have on2 : ∀ k, spec_GreatestPower.j0 (k + 1) w false = spec_GreatestPower.l0 k w 1 1 := fun k => by rw [spec_GreatestPower.j0, if_neg (by simp)]
  by_cases he : w.toList = ([] : List UInt8)
  · refine Ev.bind (a := 0) (Ev.bind (spec_LongOk_ev 4 w hw) (Ev.ite (fun h => ?_) (fun h => ?_))) ?_
    · rw [he]; exact Ev.step stop2 (Ev.now _)
    · exact Ev.step stop2 (Ev.now _)
    · exact Ev.bind (a := 0) (Ev.pos he (Ev.step stop (Ev.now _))) (Ev.pos rfl (Ev.now _))
  · have hb : (w.toList == ([] : List UInt8)) = false := by simpa using he
    by_cases ho : longOk 400 4 w = true
    · obtain ⟨r, e1, e2⟩ := GreatestPower_l0 w hw (w.size + 1) 1 1 (by omega) (by omega) (by omega) (by omega)
      refine Ev.bind (a := r) (Ev.bind (spec_LongOk_ev 4 w hw) (Ev.pos ho ?_)) (Ev.bind (a := r) (Ev.neg he (Ev.bind (impl_LongOk_ev 4 w hw) ?_)) (Ev.pos rfl (Ev.now _)))
      · rw [hb]; exact Ev.step on2 e1
      · rw [ho]; exact Ev.step on e2
    · refine Ev.bind (a := 0) (Ev.bind (spec_LongOk_ev 4 w hw) (Ev.neg ho (Ev.step stop2 (Ev.now _)))) (Ev.bind (a := 0) (Ev.neg he (Ev.bind (impl_LongOk_ev 4 w hw) ?_)) (Ev.pos rfl (Ev.now _)))
      rw [Bool.eq_false_iff.2 ho]; exact Ev.step stop (Ev.now _)

end Go.Proofs.Ytonfncakpdoglaa.Pure
