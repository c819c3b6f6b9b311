/- The program's LeastSquareFree returns what the reference's returns: for all whole numbers. -/
import Derived.Test.YtonfncakpdoglabQFnExactLeastSquareFreex2
import Derived.Test.YtonfncakpdoglabThy
import Derived.Test.YtonfncakpdoglabThyRep
set_option linter.unusedVariables false
set_option linter.unusedSimpArgs false
namespace Go.Proofs.Ytonfncakpdoglab.Pure
open Go.RowKit Go.Proofs.Ytonfncakpdoglab.QFnExactLeastSquareFree Go.Proofs.YtonfncakpdoglabW.PrintWords Go.Proofs.YtonfncakpdoglabW.PrintLast Go.Proofs.YtonfncakpdoglabW.PrintMore Go.Proofs.Ytonfncakpdoglab.Thy

theorem spec_l01In_eq (a b c : Int) : spec_l01In.f a b c = some (decide (b ≤ a ∧ a ≤ c)) := by
  unfold spec_l01In.f; split <;> simp <;> omega

theorem spec_l13Letter_eq {x : Int} (h0 : 0 ≤ x) (h1 : x < 159) : spec_l13Letter.f x = some (letterB x) := by
  unfold spec_l13Letter.f; rw [letterB_raw h0 h1]

theorem spec_l20Ends_l0 (p : ByteArray) (h : Int) (hp : p.size ≤ 140737488351232) (h0 : 0 ≤ h) : ∀ (d : Nat) (i : Int), h ≤ i → i ≤ p.size → (p.size : Int) - i = d → Ev (fun k => spec_l20Ends.l0 k h p.size p i) ((N p).drop i.toNat == ((N p).drop (i - h).toNat).take (p.size - i.toNat)) := by
  intro d
  induction d with
  | zero =>
    intro i h1 h2 hd
    refine Ev.step (fun _ => rfl) (Ev.neg (by omega) (Ev.now' ?_))
    rw [N_done p i (by omega), show p.size - i.toNat = 0 by omega, List.take_zero]; rfl
  | succ d ih =>
    intro i h1 h2 hd
    have w1 : wrap64 (i + 1) = i + 1 := wr (by omega) (by omega)
    have w2 : wrap64 (i - h) = i - h := wr (by omega) (by omega)
    refine Ev.step (fun k => by rw [spec_l20Ends.l0, w1, w2]) (Ev.pos (by omega) (Ev.pos (by omega) (Ev.pos (by omega) (Ev.pos (by omega) (Ev.pos (by omega) ?_)))))
    rw [N_cons p i (by omega) (by omega), N_cons p (i - h) (by omega) (by omega), show p.size - i.toNat = (p.size - (i + 1).toNat) + 1 by omega, List.take_succ_cons]
    refine Ev.ite (fun e => Ev.eq (ih (i + 1) (by omega) (by omega) (by omega)) ?_) (fun e => Ev.now' ?_)
    · rw [e, show i + 1 - h = i - h + 1 by omega]; simp
    · symm; simp [e]
theorem spec_l20Ends_ev (w : ByteArray) (h n m : Int) (hw : w.size ≤ 400) (h0 : 0 ≤ h) (h1 : h ≤ 1000) (n0 : 1 ≤ n) (n1 : n ≤ 10) (m0 : 0 ≤ m) (m1 : m ≤ 1) : Ev (fun k => spec_l20Ends.f k w h n m) (ends (N w) h.toNat (h * n + m).toNat) := by
  unfold spec_l20Ends.f
  have q0 : h ≤ h * n := by have := Int.mul_le_mul_of_nonneg_left n0 h0; omega
  have q1 : h * n ≤ 10000 := by have := Int.mul_le_mul_of_nonneg_left n1 h0; omega
  have w1 : wrap64 (h * n) = h * n := wr (by omega) (by omega)
  have w2 : wrap64 (h * n + m) = h * n + m := wr (by omega) (by omega)
  have w3 : wrap64 ((w.size : Int) - (h * n + m)) = (w.size : Int) - (h * n + m) := wr (by omega) (by omega)
  simp only [w1, w2, w3]
  unfold ends
  refine Ev.ite (fun e => Ev.now' ?_) (fun e => Ev.pos (by omega) (Ev.pos (by omega) ?_))
  · rw [decide_eq_false (by rw [N_length]; omega)]; rfl
  · have hs : (w.extract ((w.size : Int) - (h * n + m)).toNat w.size).size = (h * n + m).toNat := by rw [ByteArray.size_extract]; omega
    have hN : N (w.extract ((w.size : Int) - (h * n + m)).toNat w.size) = (N w).drop ((N w).length - (h * n + m).toNat) := by
      rw [N_extract, N_length, List.take_of_length_le (by rw [List.length_drop, N_length]; omega)]
      congr 1; omega
    have := spec_l20Ends_l0 (w.extract ((w.size : Int) - (h * n + m)).toNat w.size) h (by omega) h0 ((w.extract ((w.size : Int) - (h * n + m)).toNat w.size).size - h.toNat) h (by omega) (by omega) (by omega)
    rw [hs, show (((h * n + m).toNat : Nat) : Int) = h * n + m by omega] at this
    refine Ev.eq this ?_
    rw [decide_eq_true (by rw [N_length]; omega), Bool.true_and, hN, Int.sub_self, per]
    rw [List.length_drop, N_length, show w.size - (w.size - (h * n + m).toNat) - h.toNat = (h * n + m).toNat - h.toNat by omega]
    rfl

theorem spec_l20Square_l0 (w : ByteArray) (hw : w.size ≤ 400) : ∀ (d h : Nat), 1 ≤ h → w.size + 1 ≤ h + d → h ≤ w.size + 1 → Ev (fun k => spec_l20Square.l0 k w h) (sqD (N w) d h) := by
  intro d
  induction d with
  | zero =>
    intro h h1 h2 h3
    refine Ev.step (fun _ => rfl) (Ev.neg ?_ (Ev.now _))
    rw [wr (by omega) (by omega)]; omega
  | succ d ih =>
    intro h h1 h2 h3
    have w1 : wrap64 (2 * (h : Int)) = ((h * 2 : Nat) : Int) := by rw [wr (by omega) (by omega)]; omega
    have w2 : wrap64 ((h : Int) + 1) = ((h + 1 : Nat) : Int) := by rw [wr (by omega) (by omega)]; rfl
    have E := spec_l20Ends_ev w h 2 0 hw (by omega) (by omega) (by omega) (by omega) (by omega) (by omega)
    rw [show ((h : Int) * 2 + 0).toNat = h * 2 by omega, Int.toNat_natCast] at E
    rw [sqD, N_length]
    refine Ev.step (fun k => by rw [spec_l20Square.l0, w1, w2]) ?_
    by_cases c : h * 2 ≤ w.size
    · rw [if_pos c]
      refine Ev.pos (by omega) (Ev.bind E (Ev.ite (fun c2 => Ev.now' ?_) (fun c2 => Ev.eq (ih (h + 1) (by omega) (by omega) (by omega)) ?_)))
      · rw [c2]; rfl
      · rw [Bool.eq_false_iff.2 c2]; rfl
    · rw [if_neg c]
      exact Ev.neg (by omega) (Ev.now _)
theorem spec_l20Square_ev (w : ByteArray) (hw : w.size ≤ 400) : Ev (fun k => spec_l20Square.f k w) (hasSq (N w)) := by
  unfold spec_l20Square.f hasSq
  exact Ev.eq (spec_l20Square_l0 w hw w.size 1 (by omega) (by omega) (by omega)) (by rw [N_length])

theorem impl_within_eq (a b c : Int) : impl_within.f a b c = some (decide (b ≤ a ∧ a ≤ c)) := by
  unfold impl_within.f; split <;> simp <;> omega

theorem impl_letterOf_eq {x : Int} (h0 : 0 ≤ x) (h1 : x < 159) : impl_letterOf.f x = some (letterB x) := by
  unfold impl_letterOf.f; rw [letterB_raw h0 h1]

theorem ends_halves (w : ByteArray) (h : Nat) (h2 : h * 2 ≤ w.size) : (w.extract (w.size - h) w.size).toList = (w.extract (w.size - h * 2) (w.size - h)).toList ↔ ends (N w) h (h * 2) = true := by
  have hl : (N w).length = w.size := N_length w
  rw [bytes_eq_iff, N_extract, N_extract]
  unfold ends per
  rw [hl, decide_eq_true h2, Bool.true_and, beq_iff_eq, List.drop_drop, List.length_drop, hl, show w.size - (w.size - h) = h by omega, show w.size - h - (w.size - h * 2) = h by omega,
    show w.size - (w.size - h * 2) - h = h by omega, show w.size - h * 2 + h = w.size - h by omega, List.take_of_length_le (l := (N w).drop (w.size - h)) (by rw [List.length_drop, hl]; omega)]
theorem impl_endsFree_l0 (w : ByteArray) (hw : w.size ≤ 400) : ∀ (d h : Nat), 1 ≤ h → w.size + 1 ≤ h + d → h ≤ w.size + 1 → Ev (fun k => impl_endsFree.l0 k w h) (!(sqD (N w) d h)) := by
  intro d
  induction d with
  | zero =>
    intro h h1 h2 h3
    refine Ev.step (fun _ => rfl) (Ev.neg ?_ (Ev.now _))
    rw [wr (by omega) (by omega)]; omega
  | succ d ih =>
    intro h h1 h2 h3
    have w1 : wrap64 (2 * (h : Int)) = ((h * 2 : Nat) : Int) := by rw [wr (by omega) (by omega)]; omega
    have w2 : wrap64 ((h : Int) + 1) = ((h + 1 : Nat) : Int) := by rw [wr (by omega) (by omega)]; rfl
    rw [sqD, N_length]
    by_cases c : h * 2 ≤ w.size
    · rw [if_pos c]
      have w3 : wrap64 ((w.size : Int) - (h : Int)) = ((w.size - h : Nat) : Int) := by rw [wr (by omega) (by omega)]; omega
      have w4 : wrap64 ((w.size : Int) - ((h * 2 : Nat) : Int)) = ((w.size - h * 2 : Nat) : Int) := by rw [wr (by omega) (by omega)]; omega
      refine Ev.step (fun k => by rw [impl_endsFree.l0, w1, w2, w3, w4, Int.toNat_natCast, Int.toNat_natCast]) ?_
      refine Ev.pos (by omega) (Ev.pos (by omega) (Ev.pos (by omega) (Ev.pos (by omega) (Ev.pos (by omega) (Ev.ite (fun c2 => Ev.now' ?_) (fun c2 => Ev.eq (ih (h + 1) (by omega) (by omega) (by omega)) ?_))))))
      · rw [(ends_halves w h c).1 c2]; rfl
      · rw [Bool.eq_false_iff.2 (fun z => c2 ((ends_halves w h c).2 z))]; rfl
    · rw [if_neg c]
      exact Ev.step (fun k => by rw [impl_endsFree.l0, w1]) (Ev.neg (by omega) (Ev.now' (a := true) rfl))
theorem impl_endsFree_ev (w : ByteArray) (hw : w.size ≤ 400) : Ev (fun k => impl_endsFree.f k w) (!(hasSq (N w))) := by
  unfold impl_endsFree.f hasSq
  exact Ev.eq (impl_endsFree_l0 w hw w.size 1 (by omega) (by omega) (by omega)) (by rw [N_length])

theorem least_both (K n : Int) (hK : 1 ≤ K) (hK4 : K ≤ 4) (hn : n ≤ 60) : ∀ (left : Nat) (w : ByteArray), (w.size : Int) + left = n → ∃ r, Ev (fun k => spec_l20Least.f k w K left) r ∧ Ev (fun k => impl_leastSquareFree.f k K n w) r := by
  intro left
  induction left with
  | zero =>
    intro w hs
    refine ⟨(w, true), Ev.step (fun k => by rw [spec_l20Least.f]) (Ev.pos (by omega) (Ev.now _)), Ev.step (fun k => by rw [impl_leastSquareFree.f]) (Ev.pos (by omega) (Ev.now _))⟩
  | succ left ih =>
    intro w hs
    have w1 : wrap64 (((left + 1 : Nat) : Int) - 1) = (left : Int) := by rw [wr (by omega) (by omega)]; omega
    have inner : ∀ (d : Nat) (x : Int), 0 ≤ x → K - x = d → ∃ r, Ev (fun k => spec_l20Least.l0 k w K (left + 1 : Nat) x) r ∧ Ev (fun k => impl_leastSquareFree.l0 k K n w K x) r := by
      intro d
      induction d with
      | zero =>
        intro x hx hd
        exact ⟨_, Ev.step (fun k => by rw [spec_l20Least.l0]) (Ev.neg (by omega) (Ev.now _)), Ev.step (fun k => by rw [impl_leastSquareFree.l0]) (Ev.neg (by omega) (Ev.now _))⟩
      | succ d ihd =>
        intro x hx hd
        have w2 : wrap64 (x + 1) = x + 1 := wr (by omega) (by omega)
        obtain ⟨rn, n1, n2⟩ := ihd (x + 1) (by omega) (by omega)
        have hz : (w ++ letterB x).size = w.size + 1 := by rw [ByteArray.size_append, letterB_size]
        obtain ⟨rr, r1, r2⟩ := ih (w ++ letterB x) (by omega)
        have S := spec_l20Square_ev (w ++ letterB x) (by omega)
        have T := impl_endsFree_ev (w ++ letterB x) (by omega)
        have s1 : ∀ k, spec_l20Least.l0 (k + 1) w K (left + 1 : Nat) x = (spec_l20Square.f k (w ++ letterB x)).bind fun t106 => (if t106 = true then (spec_l20Least.l0 k w K (left + 1 : Nat) (x + 1)) else ((spec_l20Least.f k (w ++ letterB x) K left).bind fun bt107 => (if bt107.2 = true then (some (bt107.1, true)) else (spec_l20Least.l0 k w K (left + 1 : Nat) (x + 1))))) := by
          intro k
          rw [spec_l20Least.l0, if_pos (by omega), spec_l13Letter_eq hx (by omega), Option.bind_some, if_pos (by rw [letterB_size]; omega), w1, w2]
        have i1 : ∀ k, impl_leastSquareFree.l0 (k + 1) K n w K x = (impl_endsFree.f k (w ++ letterB x)).bind fun t117 => (if t117 = true then ((impl_leastSquareFree.f k K n (w ++ letterB x)).bind fun bt118 => (if bt118.2 = true then (some (bt118.1, true)) else (impl_leastSquareFree.l0 k K n w K (x + 1)))) else (impl_leastSquareFree.l0 k K n w K (x + 1))) := by
          intro k
          rw [impl_leastSquareFree.l0, if_pos (by omega), impl_letterOf_eq hx (by omega), Option.bind_some, if_pos (by rw [letterB_size]; omega), w2]
        cases hq : hasSq (N (w ++ letterB x)) with
        | true =>
          rw [hq] at S T
          exact ⟨rn, Ev.step s1 (Ev.bind S (Ev.pos rfl n1)), Ev.step i1 (Ev.bind T (Ev.neg (by simp) n2))⟩
        | false =>
          rw [hq] at S T
          by_cases hr : rr.2 = true
          · exact ⟨(rr.1, true), Ev.step s1 (Ev.bind S (Ev.neg (by simp) (Ev.bind r1 (Ev.pos hr (Ev.now _))))), Ev.step i1 (Ev.bind T (Ev.pos rfl (Ev.bind r2 (Ev.pos hr (Ev.now _)))))⟩
          · exact ⟨rn, Ev.step s1 (Ev.bind S (Ev.neg (by simp) (Ev.bind r1 (Ev.neg hr n1)))), Ev.step i1 (Ev.bind T (Ev.pos rfl (Ev.bind r2 (Ev.neg hr n2))))⟩
    obtain ⟨r, r1, r2⟩ := inner K.toNat 0 (by omega) (by omega)
    exact ⟨r, Ev.step (fun k => by rw [spec_l20Least.f]) (Ev.neg (by omega) r1), Ev.step (fun k => by rw [impl_leastSquareFree.f]) (Ev.neg (by omega) r2)⟩
theorem FnExactLeastSquareFree : laws_FnExactLeastSquareFree.Pure := by
  intro K n _ _
  apply Ev.rounds
  unfold laws_FnExactLeastSquareFree.f spec_LeastSquareFree.f impl_LeastSquareFree.f
  simp only [spec_l01In_eq, impl_within_eq, Option.bind_some]
  by_cases h1 : decide (1 ≤ K ∧ K ≤ 4) = true
  · by_cases h2 : decide (0 ≤ n ∧ n ≤ 60) = true
    · have g1 := of_decide_eq_true h1
      have g2 := of_decide_eq_true h2
      obtain ⟨r, r1, r2⟩ := least_both K n g1.1 g1.2 g2.2 n.toNat (⟨#[]⟩ : ByteArray) (by show (0 : Int) + _ = _; omega)
      rw [show ((n.toNat : Nat) : Int) = n by omega] at r1
      exact Ev.bind (Ev.pos h1 (Ev.pos h2 (Ev.bind r1 (Ev.now _)))) (Ev.bind (Ev.pos h1 (Ev.pos h2 (Ev.bind r2 (Ev.now _)))) (Ev.pos rfl (Ev.neg (by simp) (Ev.now _))))
    · exact Ev.bind (Ev.pos h1 (Ev.neg h2 (Ev.now _))) (Ev.bind (Ev.pos h1 (Ev.neg h2 (Ev.now _))) (Ev.pos rfl (Ev.neg (by simp) (Ev.now _))))
  · exact Ev.bind (Ev.neg h1 (Ev.now _)) (Ev.bind (Ev.neg h1 (Ev.now _)) (Ev.pos rfl (Ev.neg (by simp) (Ev.now _))))

end Go.Proofs.Ytonfncakpdoglab.Pure
