/- The program's InverseLetter returns what the reference's returns: for all whole numbers. -/
import Derived.Test.YtonfncakpdoglaaPFnExactInverseLetterx1
import Derived.Test.YtonfncakpdoglaaThy
set_option linter.unusedVariables false
set_option linter.unusedSimpArgs false
namespace Go.Proofs.Ytonfncakpdoglaa.Pure
open Go.RowKit Go.Proofs.Ytonfncakpdoglaa.PFnExactInverseLetter Go.Proofs.YtonfncakpdoglaaW.PrintWords Go.Proofs.YtonfncakpdoglaaW.PrintLast Go.Proofs.YtonfncakpdoglaaW.PrintMore Go.Proofs.Ytonfncakpdoglaa.Thy

theorem spec_l01In_eq (a b c : Int) : spec_l01In.f a b c = some (decide (b ≤ a ∧ a ≤ c)) := by
  unfold spec_l01In.f; split <;> simp <;> omega

theorem impl_within_eq (a b c : Int) : impl_within.f a b c = some (decide (b ≤ a ∧ a ≤ c)) := by
  unfold impl_within.f; split <;> simp <;> omega

theorem FnExactInverseLetter : laws_FnExactInverseLetter.Pure := by
  intro g x hg hx
  have e : impl_InverseLetter.f g x = spec_InverseLetter.f g x := by
    unfold impl_InverseLetter.f spec_InverseLetter.f
    simp only [impl_within_eq, spec_l01In_eq]
  unfold laws_FnExactInverseLetter.f
  rw [e]
  have h : ∃ r, spec_InverseLetter.f g x = some r := by
    unfold spec_InverseLetter.f
    simp only [spec_l01In_eq, Option.bind_some]
    split
    · rename_i h
      have h := of_decide_eq_true h
      rw [wr (n := 2 * g) (by omega) (by omega), wr (n := 2 * g - 1) (by omega) (by omega)]
      split
      · rw [if_neg (by omega)]; exact ⟨_, rfl⟩
      · exact ⟨_, rfl⟩
    · exact ⟨_, rfl⟩
  obtain ⟨r, hr⟩ := h
  rw [hr]; simp

end Go.Proofs.Ytonfncakpdoglaa.Pure
