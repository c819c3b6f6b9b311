/- The program's KeepLetters returns what the reference's returns: for all words that fit the row's reach, and all numbers. -/
import Derived.Test.YtonfncakpdoglaaPFnExactKeepLettersx1
import Derived.Test.YtonfncakpdoglaaThy
set_option linter.unusedVariables false
set_option linter.unusedSimpArgs false
namespace Go.Proofs.Ytonfncakpdoglaa.Pure
open Go.RowKit Go.Proofs.Ytonfncakpdoglaa.PFnExactKeepLetters Go.Proofs.YtonfncakpdoglaaW.PrintWords Go.Proofs.YtonfncakpdoglaaW.PrintLast Go.Proofs.YtonfncakpdoglaaW.PrintMore Go.Proofs.Ytonfncakpdoglaa.Thy

def keepL (x y : Int) (l : List Int) : List Int := l.filter fun c => decide (c - 97 = x) || decide (c - 97 = y)
theorem keepL_nil (x y : Int) : keepL x y [] = [] := rfl
theorem keepL_cons (x y c : Int) (l : List Int) : keepL x y (c :: l) = if c - 97 = x ∨ c - 97 = y then c :: keepL x y l else keepL x y l := by
  unfold keepL; rw [List.filter_cons]; simp
theorem keepL_len (x y : Int) (l : List Int) : (keepL x y l).length ≤ l.length := List.length_filter_le ..

theorem spec_KeepLetters_l0 (w : ByteArray) (x y : Int) (hw : w.size ≤ 140737488351232) : ∀ (d : Nat) (i : Int) (s : ByteArray), 0 ≤ i → i ≤ w.size → (w.size : Int) - i = d → (s.size : Int) ≤ i → Ev (fun k => spec_KeepLetters.l0 k w x y s i) (strOfNums (N s ++ keepL x y ((N w).drop i.toNat))) := by
  intro d
  induction d with
  | zero =>
    intro i s h0 h1 hd hs
    refine Ev.step (fun _ => rfl) (Ev.neg (by omega) (Ev.now' ?_))
    rw [N_done w i (by omega), keepL_nil, List.append_nil, B_N]
  | succ d ih =>
    intro i s h0 h1 hd hs
    have hb := bt_range w i
    have hx := N_one w i h0 (by omega)
    have hxs := N_one_size w i h0 (by omega)
    rw [N_cons w i h0 (by omega), keepL_cons]
    have w1 : wrap64 (i + 1) = i + 1 := wr (by omega) (by omega)
    have w2 : wrap64 (bt w i) = bt w i := wr (by omega) (by omega)
    have w3 : wrap64 (bt w i - 97) = bt w i - 97 := wr (by omega) (by omega)
    have go : bt w i - 97 = x ∨ bt w i - 97 = y → Ev (fun k => spec_KeepLetters.l0 k w x y (s ++ w.extract i.toNat (i + 1).toNat) (i + 1)) (strOfNums (N s ++ (if bt w i - 97 = x ∨ bt w i - 97 = y then bt w i :: keepL x y ((N w).drop (i + 1).toNat) else keepL x y ((N w).drop (i + 1).toNat)))) := by
      intro h
      refine Ev.eq (ih (i + 1) _ (by omega) (by omega) (by omega) (by rw [ByteArray.size_append]; omega)) ?_
      rw [N_append, hx, if_pos h]; simp
    refine Ev.step (fun k => by rw [spec_KeepLetters.l0, w2, w3, w1]) (Ev.pos (by omega) (Ev.pos h0 (Ev.ite (fun h => Ev.pos (by omega) (Ev.pos (by omega) (Ev.pos (by omega) (go (.inl h))))) (fun h => Ev.ite (fun h2 => Ev.pos (by omega) (Ev.pos (by omega) (Ev.pos (by omega) (go (.inr h2))))) (fun h2 => ?_)))))
    rw [if_neg (by omega)]
    exact ih (i + 1) s (by omega) (by omega) (by omega) (by omega)

theorem impl_KeepLetters_l0 (w : ByteArray) (x y : Int) (hw : w.size ≤ 140737488351232) : ∀ (d : Nat) (i : Int) (s : List Int), 0 ≤ i → i ≤ w.size → (w.size : Int) - i = d → (s.length : Int) ≤ i → Ev (fun k => impl_KeepLetters.l0 k w x y s w.size i) (strOfNums (s ++ keepL x y ((N w).drop i.toNat))) := by
  intro d
  induction d with
  | zero =>
    intro i s h0 h1 hd hs
    refine Ev.step (fun _ => rfl) (Ev.neg (by omega) (Ev.now' ?_))
    rw [N_done w i (by omega), keepL_nil, List.append_nil]
  | succ d ih =>
    intro i s h0 h1 hd hs
    have hb := bt_range w i
    rw [N_cons w i h0 (by omega), keepL_cons]
    have w1 : wrap64 (i + 1) = i + 1 := wr (by omega) (by omega)
    have w2 : wrap64 (bt w i) = bt w i := wr (by omega) (by omega)
    have w3 : wrap64 (bt w i - 97) = bt w i - 97 := wr (by omega) (by omega)
    have go : bt w i - 97 = x ∨ bt w i - 97 = y → Ev (fun k => impl_KeepLetters.l0 k w x y (s ++ [bt w i]) w.size (i + 1)) (strOfNums (s ++ (if bt w i - 97 = x ∨ bt w i - 97 = y then bt w i :: keepL x y ((N w).drop (i + 1).toNat) else keepL x y ((N w).drop (i + 1).toNat)))) := by
      intro h
      refine Ev.eq (ih (i + 1) _ (by omega) (by omega) (by omega) (by rw [List.length_append]; simp; omega)) ?_
      rw [if_pos h]; simp
    refine Ev.step (fun k => by rw [impl_KeepLetters.l0, w2, w3, w1]) (Ev.pos (by omega) (Ev.pos h0 (Ev.pos (by omega) (Ev.ite (fun h => Ev.pos (by omega) (go (.inl h))) (fun h => Ev.ite (fun h2 => Ev.pos (by omega) (go (.inr h2))) (fun h2 => ?_))))))
    rw [if_neg (by omega)]
    exact ih (i + 1) s (by omega) (by omega) (by omega) (by omega)

theorem FnExactKeepLetters : laws_FnExactKeepLetters.Pure := by
  intro w x y hw hx hy
  apply Ev.rounds
  unfold laws_FnExactKeepLetters.f spec_KeepLetters.f impl_KeepLetters.f
  exact Ev.ite (fun h => Ev.now _) (fun h => Ev.bind (spec_KeepLetters_l0 w x y hw w.size 0 _ (by omega) (by omega) (by omega) (by decide)) (Ev.bind (impl_KeepLetters_l0 w x y hw w.size 0 _ (by omega) (by omega) (by omega) (by decide)) (Ev.pos (by congr 2) (Ev.now _))))

end Go.Proofs.Ytonfncakpdoglaa.Pure
