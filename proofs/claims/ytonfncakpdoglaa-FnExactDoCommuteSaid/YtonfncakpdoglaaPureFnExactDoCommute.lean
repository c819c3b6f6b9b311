/- The program's DoCommute returns what the reference's returns: for all pairs of words that fit the row's reach. -/
import Derived.Test.YtonfncakpdoglaaPFnExactDoCommutex1
import Derived.Test.YtonfncakpdoglaaThy
set_option linter.unusedVariables false
set_option linter.unusedSimpArgs false
namespace Go.Proofs.Ytonfncakpdoglaa.Pure
open Go.RowKit Go.Proofs.Ytonfncakpdoglaa.PFnExactDoCommute Go.Proofs.YtonfncakpdoglaaW.PrintWords Go.Proofs.YtonfncakpdoglaaW.PrintLast Go.Proofs.YtonfncakpdoglaaW.PrintMore Go.Proofs.Ytonfncakpdoglaa.Thy

theorem spec_l01In_eq (a b c : Int) : spec_l01In.f a b c = some (decide (b ≤ a ∧ a ≤ c)) := by
  unfold spec_l01In.f; split <;> simp <;> omega

theorem spec_LongOk_l0 (x : Int) (w : ByteArray) (hw : w.size ≤ 140737488351232) (hx : 1 ≤ x ∧ x ≤ 4) : ∀ (d : Nat) (i : Int), 0 ≤ i → i ≤ w.size → (w.size : Int) - i = d → Ev (fun k => spec_LongOk.l0 k x w i) (letters x ((N w).drop i.toNat)) := by
  intro d
  induction d with
  | zero =>
    intro i h0 h1 hd
    refine Ev.step (fun _ => rfl) (Ev.neg (by omega) (Ev.now' ?_))
    rw [N_done w i (by omega)]; rfl
  | succ d ih =>
    intro i h0 h1 hd
    have hb := bt_range w i
    rw [N_cons w i h0 (by omega), letters_cons]
    refine Ev.step (fun _ => rfl) (Ev.pos (by omega) (Ev.pos h0 (Ev.ite (fun h => Ev.now' ?_) (fun h => Ev.ite (fun h2 => Ev.now' ?_) (fun h2 => ?_)))))
    · simp; omega
    · simp; omega
    · rw [wr (by omega) (by omega)]
      refine Ev.eq (ih (i + 1) (by omega) (by omega) (by omega)) ?_
      rw [decide_eq_true (by omega), decide_eq_true (by omega)]; simp
theorem spec_LongOk_ev (x : Int) (w : ByteArray) (hw : w.size ≤ 140737488351232) : Ev (fun k => spec_LongOk.f k x w) (longOk 400 x w) := by
  unfold spec_LongOk.f longOk
  refine Ev.bind (spec_l01In_eq .. ▸ Ev.now _) (Ev.ite (fun h => ?_) (fun h => ?_))
  · have h2 := of_decide_eq_true h
    refine Ev.step (fun _ => rfl) (Ev.ite (fun h => Ev.now' ?_) (fun h => Ev.eq (spec_LongOk_l0 x w hw h2 w.size 0 (by omega) (by omega) (by omega)) ?_))
    · grind
    · grind
  · refine Ev.step (fun _ => spec_LongOk.j0.eq_2 ..) (Ev.pos rfl (Ev.now' ?_))
    grind

theorem spec_l21Ok_ev (w : ByteArray) (hw : w.size ≤ 140737488351232) : Ev (fun k => spec_l21Ok.f k w) (longOk 400 4 w) := by
  unfold spec_l21Ok.f
  exact Ev.bind (spec_LongOk_ev 4 w hw) (Ev.now _)

theorem spec_DoCommute_ev (u v : ByteArray) (hu : u.size ≤ 140737488351232) (hv : v.size ≤ 140737488351232) : Ev (fun k => spec_DoCommute.f k u v) (longOk 400 4 u && longOk 400 4 v && (u ++ v).toList == (v ++ u).toList) := by
  unfold spec_DoCommute.f
  refine Ev.bind (spec_l21Ok_ev u hu) (Ev.ite (fun h => Ev.bind (spec_l21Ok_ev v hv) (Ev.ite (fun h2 => Ev.pos (by omega) (Ev.pos (by omega) (Ev.now' (by rw [h, h2]; rfl)))) (fun h2 => Ev.now' (by rw [Bool.eq_false_iff.2 h2]; simp)))) (fun h => Ev.now' (by rw [Bool.eq_false_iff.2 h]; simp)))

theorem impl_within_eq (a b c : Int) : impl_within.f a b c = some (decide (b ≤ a ∧ a ≤ c)) := by
  unfold impl_within.f; split <;> simp <;> omega

theorem impl_hasLetters_l0 (x : Int) (w : ByteArray) (hw : w.size ≤ 140737488351232) (hx : 1 ≤ x ∧ x ≤ 4) : ∀ (d : Nat) (i : Int), 0 ≤ i → i ≤ w.size → (w.size : Int) - i = d → Ev (fun k => impl_hasLetters.l0 k x w w.size i) (letters x ((N w).drop i.toNat)) := by
  intro d
  induction d with
  | zero =>
    intro i h0 h1 hd
    refine Ev.step (fun _ => rfl) (Ev.neg (by omega) (Ev.now' ?_))
    rw [N_done w i (by omega)]; rfl
  | succ d ih =>
    intro i h0 h1 hd
    have hb := bt_range w i
    rw [N_cons w i h0 (by omega), letters_cons]
    refine Ev.step (fun _ => rfl) (Ev.pos (by omega) (Ev.pos h0 (Ev.pos (by omega) (Ev.bind (impl_within_eq .. ▸ Ev.now _) ?_))))
    rw [wr (by omega) (by omega), wr (n := 97 + x) (by omega) (by omega), wr (n := 97 + x - 1) (by omega) (by omega)]
    refine Ev.ite (fun h => ?_) (fun h => Ev.now' ?_)
    · rw [wr (by omega) (by omega)]
      refine Ev.eq (ih (i + 1) (by omega) (by omega) (by omega)) ?_
      grind
    · grind

theorem impl_LongOk_ev (x : Int) (w : ByteArray) (hw : w.size ≤ 140737488351232) : Ev (fun k => impl_LongOk.f k x w) (longOk 400 x w) := by
  unfold impl_LongOk.f longOk
  refine Ev.bind (impl_within_eq .. ▸ Ev.now _) (Ev.ite (fun h => ?_) (fun h => Ev.now' (by grind)))
  have h2 := of_decide_eq_true h
  refine Ev.ite (fun h => Ev.bind (impl_hasLetters_l0 x w hw h2 w.size 0 (by omega) (by omega) (by omega)) (Ev.now' (by grind))) (fun h => Ev.now' (by grind))

theorem impl_DoCommute_ev (u v : ByteArray) (hu : u.size ≤ 140737488351232) (hv : v.size ≤ 140737488351232) : Ev (fun k => impl_DoCommute.f k u v) (longOk 400 4 u && longOk 400 4 v && (u ++ v).toList == (v ++ u).toList) := by
  unfold impl_DoCommute.f
  refine Ev.bind (impl_LongOk_ev 4 u hu) (Ev.ite (fun h => Ev.bind (impl_LongOk_ev 4 v hv) (Ev.ite (fun h2 => Ev.pos (by omega) (Ev.pos (by omega) (Ev.now' (by rw [h, h2]; rfl)))) (fun h2 => Ev.now' (by rw [Bool.eq_false_iff.2 h2]; simp)))) (fun h => Ev.now' (by rw [Bool.eq_false_iff.2 h]; simp)))

theorem FnExactDoCommute : laws_FnExactDoCommute.Pure := by
  intro u v hu hv
  apply Ev.rounds
  unfold laws_FnExactDoCommute.f
  exact Ev.ite (fun h => Ev.now _) (fun h => Ev.ite (fun h => Ev.now _) (fun h => Ev.bind (spec_DoCommute_ev u v hu hv) (Ev.bind (impl_DoCommute_ev u v hu hv) (Ev.neg (by simp) (Ev.now _)))))

end Go.Proofs.Ytonfncakpdoglaa.Pure
