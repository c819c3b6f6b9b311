/- Written by a program of this session for this claim: functions of the program as Lean functions, and proofs that the calls come to what these say. -/
import Derived.Test.YtonfncakpdoglabQFnExactIsSquareFreex0
import Derived.Test.YtonfncakpdoglabQFnExactIsSquareFreex1
namespace Go.Proofs.Ytonfncakpdoglab.QFnExactIsSquareFree
open Go.RowKit Go.Proofs.YtonfncakpdoglabW.PrintWords Go.Proofs.YtonfncakpdoglabW.PrintLast Go.Proofs.YtonfncakpdoglabW.PrintMore
attribute [local go_sem] max2_int min2_int max_two min_two max_three min_three max_four min_four   -- for this text's walks alone
set_option linter.unusedVariables false
set_option linter.unusedSimpArgs false

/-! ### impl_LongOk: function 23 -/
def impl_LongOk.f (k : Nat) (a0 : Int) (a1 : ByteArray) : Option (Bool) := (impl_within.f a0 1 4).bind fun t109 => (if t109 = true then (if (a1.size : Int) ≤ 400 then ((impl_hasLetters.f k a0 a1).bind fun t110 => (some t110)) else (some false)) else (some false))
theorem impl_LongOk.mono : ∀ a0 a1 k, LeO (impl_LongOk.f k a0 a1) (impl_LongOk.f (k + 1) a0 a1) := by
  intro a0 a1 k
  unfold impl_LongOk.f
  repeat' first
      | (with_reducible exact impl_hasLetters.mono _ _ _)
      | (with_reducible exact LeO.refl _)
      | (with_reducible exact LeO.none _)
      | (with_reducible refine LeO.ite ?_ ?_)
      | (with_reducible refine LeO.bind ?_ (fun _ => ?_))
      | exact impl_hasLetters.mono _ _ _
      | exact LeO.none _
      | refine LeO.ite ?_ ?_
      | refine LeO.bind ?_ (fun _ => ?_)
set_option maxHeartbeats 8000000 in
set_option maxRecDepth 100000 in
theorem impl_LongOk.calls (k : Nat) (a0 : Int) (a1 : ByteArray) (r : Bool) (w : World) (h : impl_LongOk.f k a0 a1 = some r) :
    Calls Try.prog 23 #[.int .i64 a0, .string a1] w fun e w' => e = .returned (.bool r) ∧ Drawn0 w w' := by
  have H : ((impl_within.f a0 1 4).bind fun t109 => (if t109 = true then (if (a1.size : Int) ≤ 400 then ((impl_hasLetters.f k a0 a1).bind fun t110 => (some t110)) else (some false)) else (some false))) = some r := h
  clear h
  replace H := Option.bind_eq_some_iff.mp H
  obtain ⟨t109, A30, H⟩ := H
  replace H : (if t109 = true then (if (a1.size : Int) ≤ 400 then ((impl_hasLetters.f k a0 a1).bind fun t110 => (some t110)) else (some false)) else (some false)) = some r := H
  have A3 := Aside0.mk A30
  clear A30
  by_cases c4 : t109 = true
  · subst c4
    have H1 : (if (a1.size : Int) ≤ 400 then ((impl_hasLetters.f k a0 a1).bind fun t110 => (some t110)) else (some false)) = some r := by rw [if_pos rfl] at H; exact H
    clear H
    have H := H1
    clear H1
    by_cases c5 : (a1.size : Int) ≤ 400
    · rw [if_pos c5] at H
      have c5b0 : decide ((a1.size : Int) ≤ 400) = true := decide_eq_true c5
      have c5b1 : decide (a1.size ≤ 400) = true := decide_eq_true (by omega)
      clear c5
      replace H := Option.bind_eq_some_iff.mp H
      obtain ⟨t110, A60, H⟩ := H
      replace H : (some t110) = some r := H
      have A6 := Aside0.mk A60
      clear A60
      obtain rfl := Option.some.inj H
      go_enter Try.func23, Try.ntmps23
      go_wp2_with (first | ((with_reducible refine gate_callee (f := 24) rfl ?_); refine goesL_ (some 6) rfl rfl Try.func24 (by kernel_rfl) rfl #[.int .i64 a0, .int .i64 1, .int .i64 4] rfl (by (try simp only [List.map_toArray, List.map_cons, List.map_nil]); first | done | rfl | (simp only [List.length_drop, List.length_take]; rfl) | (go_simp; (repeat' apply And.intro) <;> (simp only [IntKind.wrap_u8]; unfold wrap64; omega))) ?_; (with_reducible refine (impl_within.calls a0 1 4 true _ A3.out).mono ?_); rintro e w' ⟨rfl, ⟨nd, rfl⟩⟩; refine ⟨_, rfl, ?_⟩) | (go_at_call 33; (with_reducible refine (impl_hasLetters.calls k a0 a1 t110 _ A6.out).mono ?_); rintro e w' ⟨rfl, ⟨nd, rfl⟩⟩))
      go_ret
      exact ⟨by first | rfl | (simp; done) | (simp [*]; done), by repeat (first | exact Drawn0.refl _ | apply Drawn0.step)⟩
    · rw [if_neg c5] at H
      have c5b0 : decide ((a1.size : Int) ≤ 400) = false := decide_eq_false c5
      have c5b1 : decide (a1.size ≤ 400) = false := decide_eq_false (by omega)
      clear c5
      obtain rfl := Option.some.inj H
      go_enter Try.func23, Try.ntmps23
      go_wp2_with (first | ((with_reducible refine gate_callee (f := 24) rfl ?_); refine goesL_ (some 6) rfl rfl Try.func24 (by kernel_rfl) rfl #[.int .i64 a0, .int .i64 1, .int .i64 4] rfl (by (try simp only [List.map_toArray, List.map_cons, List.map_nil]); first | done | rfl | (simp only [List.length_drop, List.length_take]; rfl) | (go_simp; (repeat' apply And.intro) <;> (simp only [IntKind.wrap_u8]; unfold wrap64; omega))) ?_; (with_reducible refine (impl_within.calls a0 1 4 true _ A3.out).mono ?_); rintro e w' ⟨rfl, ⟨nd, rfl⟩⟩; refine ⟨_, rfl, ?_⟩))
      go_ret
      exact ⟨by first | rfl | (simp; done) | (simp [*]; done), by repeat (first | exact Drawn0.refl _ | apply Drawn0.step)⟩
  · replace c4 := Bool.eq_false_iff.mpr c4
    subst c4
    have H1 : (some false) = some r := by rw [if_neg (show ¬ (false = true) by decide)] at H; exact H
    clear H
    have H := H1
    clear H1
    obtain rfl := Option.some.inj H
    go_enter Try.func23, Try.ntmps23
    go_wp2_with (first | ((with_reducible refine gate_callee (f := 24) rfl ?_); refine goesL_ (some 6) rfl rfl Try.func24 (by kernel_rfl) rfl #[.int .i64 a0, .int .i64 1, .int .i64 4] rfl (by (try simp only [List.map_toArray, List.map_cons, List.map_nil]); first | done | rfl | (simp only [List.length_drop, List.length_take]; rfl) | (go_simp; (repeat' apply And.intro) <;> (simp only [IntKind.wrap_u8]; unfold wrap64; omega))) ?_; (with_reducible refine (impl_within.calls a0 1 4 false _ A3.out).mono ?_); rintro e w' ⟨rfl, ⟨nd, rfl⟩⟩; refine ⟨_, rfl, ?_⟩))
    go_ret
    exact ⟨by first | rfl | (simp; done) | (simp [*]; done), by repeat (first | exact Drawn0.refl _ | apply Drawn0.step)⟩

/-! ### impl_FirstPower_1: function 26 -/
def impl_FirstPower_1.f (a0 : Int) (a1_0 : Int) : Option (Int) := some (wrap64 (a1_0 * a0))
set_option maxHeartbeats 8000000 in
set_option maxRecDepth 100000 in
theorem impl_FirstPower_1.calls (a0 : Int) (b1_0 : Nat) (a1_0 : Int) (r : Int) (w : World) (hb1_0 : w.cell? ⟨b1_0, 0, none⟩ = some (.int .i64 a1_0)) (h : impl_FirstPower_1.f a0 a1_0 = some r) :
    Calls Try.prog 26 #[.int .i64 a0, .pointer (some ⟨b1_0, 0, none⟩)] w fun e w' => e = .returned (.int .i64 r) ∧ Drawn0 w w' := by
  have H : (some (wrap64 (a1_0 * a0))) = some r := h
  clear h
  obtain rfl := Option.some.inj H
  go_enter Try.func26, Try.ntmps26
  go_wp2
  go_ret
  exact ⟨by first | rfl | (simp; done) | (simp [*]; done), by repeat (first | exact Drawn0.refl _ | apply Drawn0.step)⟩

/-! ### impl_firstRepeat_at_impl_FirstPower_1: function 25 -/
mutual
def impl_firstRepeat_at_impl_FirstPower_1.l0 : Nat → ByteArray → Int → Int → Option (Int × Int)
  | 0, _, _, _ => none
  | k + 1, x0, x6, x910 => if x6 ≤ (x0.size : Int) then (impl_firstRepeat_at_impl_FirstPower_1.l1 k x0 x6 1 x910) else (some (0, 0))
def impl_firstRepeat_at_impl_FirstPower_1.l1 : Nat → ByteArray → Int → Int → Int → Option (Int × Int)
  | 0, _, _, _, _ => none
  | k + 1, x0, x6, x7, x910 => (impl_FirstPower_1.f x7 x910).bind fun t111 => (if t111 ≤ x6 then (if 0 ≤ (wrap64 (x6 - t111)) then (if (wrap64 (x6 - t111)) ≤ x6 then (if x6 ≤ (x0.size : Int) then (if 0 ≤ x7 then (if x7 ≤ ((x0.extract ((wrap64 (x6 - t111)) : Int).toNat (x6 : Int).toNat).size : Int) then (if 0 ≤ (wrap64 (((x0.extract ((wrap64 (x6 - t111)) : Int).toNat (x6 : Int).toNat).size : Int) - x7)) then (if (wrap64 (((x0.extract ((wrap64 (x6 - t111)) : Int).toNat (x6 : Int).toNat).size : Int) - x7)) ≤ ((x0.extract ((wrap64 (x6 - t111)) : Int).toNat (x6 : Int).toNat).size : Int) then (if ((x0.extract ((wrap64 (x6 - t111)) : Int).toNat (x6 : Int).toNat).extract (x7 : Int).toNat (x0.extract ((wrap64 (x6 - t111)) : Int).toNat (x6 : Int).toNat).size).toList = ((x0.extract ((wrap64 (x6 - t111)) : Int).toNat (x6 : Int).toNat).extract 0 ((wrap64 (((x0.extract ((wrap64 (x6 - t111)) : Int).toNat (x6 : Int).toNat).size : Int) - x7)) : Int).toNat).toList then (some (x6, x7)) else (impl_firstRepeat_at_impl_FirstPower_1.l1 k x0 x6 (wrap64 (x7 + 1)) x910)) else (none)) else (none)) else (none)) else (none)) else (none)) else (none)) else (none)) else (impl_firstRepeat_at_impl_FirstPower_1.l0 k x0 (wrap64 (x6 + 1)) x910))
end
def impl_firstRepeat_at_impl_FirstPower_1.f (k : Nat) (a0 : ByteArray) (a1_0 : Int) : Option (Int × Int) := impl_firstRepeat_at_impl_FirstPower_1.l0 k a0 1 a1_0
theorem impl_firstRepeat_at_impl_FirstPower_1.mono_l : ∀ k, (∀ y0 y1 y2, LeO (impl_firstRepeat_at_impl_FirstPower_1.l0 k y0 y1 y2) (impl_firstRepeat_at_impl_FirstPower_1.l0 (k + 1) y0 y1 y2)) ∧ (∀ y0 y1 y2 y3, LeO (impl_firstRepeat_at_impl_FirstPower_1.l1 k y0 y1 y2 y3) (impl_firstRepeat_at_impl_FirstPower_1.l1 (k + 1) y0 y1 y2 y3))
  | 0 => ⟨fun _ _ _ r h => by simp [impl_firstRepeat_at_impl_FirstPower_1.l0] at h, fun _ _ _ _ r h => by simp [impl_firstRepeat_at_impl_FirstPower_1.l1] at h⟩
  | k + 1 => by
    obtain ⟨ih0, ih1⟩ := impl_firstRepeat_at_impl_FirstPower_1.mono_l k
    refine ⟨?_, ?_⟩
    · intro y0 y1 y2
      unfold impl_firstRepeat_at_impl_FirstPower_1.l0
      repeat' first
      | (with_reducible exact ih0 _ _ _)
      | (with_reducible exact ih1 _ _ _ _)
      | (with_reducible exact LeO.refl _)
      | (with_reducible exact LeO.none _)
      | (with_reducible refine LeO.ite ?_ ?_)
      | (with_reducible refine LeO.bind ?_ (fun _ => ?_))
      | exact ih0 _ _ _
      | exact ih1 _ _ _ _
      | exact LeO.none _
      | refine LeO.ite ?_ ?_
      | refine LeO.bind ?_ (fun _ => ?_)
    · intro y0 y1 y2 y3
      unfold impl_firstRepeat_at_impl_FirstPower_1.l1
      repeat' first
      | (with_reducible exact ih0 _ _ _)
      | (with_reducible exact ih1 _ _ _ _)
      | (with_reducible exact LeO.refl _)
      | (with_reducible exact LeO.none _)
      | (with_reducible refine LeO.ite ?_ ?_)
      | (with_reducible refine LeO.bind ?_ (fun _ => ?_))
      | exact ih0 _ _ _
      | exact ih1 _ _ _ _
      | exact LeO.none _
      | refine LeO.ite ?_ ?_
      | refine LeO.bind ?_ (fun _ => ?_)
theorem impl_firstRepeat_at_impl_FirstPower_1.mono : ∀ a0 a1 k, LeO (impl_firstRepeat_at_impl_FirstPower_1.f k a0 a1) (impl_firstRepeat_at_impl_FirstPower_1.f (k + 1) a0 a1) := by
  intro a0 a1 k
  obtain ⟨ih0, ih1⟩ := impl_firstRepeat_at_impl_FirstPower_1.mono_l k
  unfold impl_firstRepeat_at_impl_FirstPower_1.f
  repeat' first
      | (with_reducible exact ih0 _ _ _)
      | (with_reducible exact ih1 _ _ _ _)
      | (with_reducible exact LeO.refl _)
      | (with_reducible exact LeO.none _)
      | (with_reducible refine LeO.ite ?_ ?_)
      | (with_reducible refine LeO.bind ?_ (fun _ => ?_))
      | exact ih0 _ _ _
      | exact ih1 _ _ _ _
      | exact LeO.none _
      | refine LeO.ite ?_ ?_
      | refine LeO.bind ?_ (fun _ => ?_)
set_option maxHeartbeats 8000000 in
set_option maxRecDepth 100000 in
theorem impl_firstRepeat_at_impl_FirstPower_1.calls (k : Nat) (a0 : ByteArray) (b1_0 : Nat) (a1_0 : Int) (r1 : Int) (r2 : Int) (w : World) (hb1_0 : w.cell? ⟨b1_0, 0, none⟩ = some (.int .i64 a1_0)) (h : impl_firstRepeat_at_impl_FirstPower_1.f k a0 a1_0 = some (r1, r2)) :
    Calls Try.prog 25 #[.string a0, .func (.func 26) #[] #[.pointer (some ⟨b1_0, 0, none⟩)]] w fun e w' => e = .returned (.tuple #[.int .i64 r1, .int .i64 r2]) ∧ Drawn0 w w' := by
  have H : (impl_firstRepeat_at_impl_FirstPower_1.l0 k a0 1 a1_0) = some (r1, r2) := h
  clear h
  have H' := Aside0.mk H
  clear H
  go_enter Try.func25, Try.ntmps25
  go_wp2
  repeat (go_quiet (fail); try go_wp2)
  go_loopg [6] k (fun kq v6 w' => ∃ (x6_1 : Int), v6 = .int .i64 x6_1 ∧ Aside0 (impl_firstRepeat_at_impl_FirstPower_1.l0 kq a0 x6_1 a1_0 = some (r1, r2)) ∧ Aside0 (kq ≤ k) ∧ Drawn0 w w')
  case atStart => exact ⟨(1), (by first | rfl | (simp; done) | (simp [*]; done)), H', ⟨Nat.le_refl _⟩, by repeat (first | exact Drawn0.refl _ | apply Drawn0.step)⟩
  case round =>
    clear H'
    try clear c2
    try clear p2
    obtain ⟨x6_1, rfl, HA, HK1, ⟨m1, rfl⟩⟩ := hrel
    cases gk with
    | zero => exact absurd HA.out (by simp [impl_firstRepeat_at_impl_FirstPower_1.l0])
    | succ k1 =>
      have H := HA.out
      clear HA
      simp only [impl_firstRepeat_at_impl_FirstPower_1.l0] at H
      by_cases c3 : x6_1 ≤ (a0.size : Int)
      · rw [if_pos c3] at H
        have c3b0 : decide (x6_1 ≤ (a0.size : Int)) = true := decide_eq_true c3
        clear c3
        have H' := Aside0.mk H
        clear H
        go_wp2
        repeat (go_quiet (fail); try go_wp2)
        go_loopg [7] k1 (fun kq v7 w' => ∃ (x7_2 : Int), v7 = .int .i64 x7_2 ∧ Aside0 (impl_firstRepeat_at_impl_FirstPower_1.l1 kq a0 x6_1 x7_2 a1_0 = some (r1, r2)) ∧ Aside0 (kq ≤ k1) ∧ Drawn0 w w')
        case atStart => exact ⟨(1), (by first | rfl | (simp; done) | (simp [*]; done)), H', ⟨Nat.le_refl _⟩, by repeat (first | exact Drawn0.refl _ | apply Drawn0.step)⟩
        case round =>
          clear H'
          try clear c2
          try clear p2
          try clear c3
          try clear c3b0
          try clear p2
          obtain ⟨x7_2, rfl, HA, HK2, ⟨m2, rfl⟩⟩ := hrel
          cases gk with
          | zero => exact absurd HA.out (by simp [impl_firstRepeat_at_impl_FirstPower_1.l1])
          | succ k2 =>
            have H := HA.out
            clear HA
            simp only [impl_firstRepeat_at_impl_FirstPower_1.l1] at H
            replace H := Option.bind_eq_some_iff.mp H
            obtain ⟨t111, A40, H⟩ := H
            replace H : (if t111 ≤ x6_1 then (if 0 ≤ (wrap64 (x6_1 - t111)) then (if (wrap64 (x6_1 - t111)) ≤ x6_1 then (if x6_1 ≤ (a0.size : Int) then (if 0 ≤ x7_2 then (if x7_2 ≤ ((a0.extract ((wrap64 (x6_1 - t111)) : Int).toNat (x6_1 : Int).toNat).size : Int) then (if 0 ≤ (wrap64 (((a0.extract ((wrap64 (x6_1 - t111)) : Int).toNat (x6_1 : Int).toNat).size : Int) - x7_2)) then (if (wrap64 (((a0.extract ((wrap64 (x6_1 - t111)) : Int).toNat (x6_1 : Int).toNat).size : Int) - x7_2)) ≤ ((a0.extract ((wrap64 (x6_1 - t111)) : Int).toNat (x6_1 : Int).toNat).size : Int) then (if ((a0.extract ((wrap64 (x6_1 - t111)) : Int).toNat (x6_1 : Int).toNat).extract (x7_2 : Int).toNat (a0.extract ((wrap64 (x6_1 - t111)) : Int).toNat (x6_1 : Int).toNat).size).toList = ((a0.extract ((wrap64 (x6_1 - t111)) : Int).toNat (x6_1 : Int).toNat).extract 0 ((wrap64 (((a0.extract ((wrap64 (x6_1 - t111)) : Int).toNat (x6_1 : Int).toNat).size : Int) - x7_2)) : Int).toNat).toList then (some (x6_1, x7_2)) else (impl_firstRepeat_at_impl_FirstPower_1.l1 k2 a0 x6_1 (wrap64 (x7_2 + 1)) a1_0)) else (none)) else (none)) else (none)) else (none)) else (none)) else (none)) else (none)) else (impl_firstRepeat_at_impl_FirstPower_1.l0 k2 a0 (wrap64 (x6_1 + 1)) a1_0)) = some (r1, r2) := H
            have A4 := Aside0.mk A40
            clear A40
            by_cases c5 : t111 ≤ x6_1
            · rw [if_pos c5] at H
              have c5b0 : decide (t111 ≤ x6_1) = true := decide_eq_true c5
              clear c5
              obtain ⟨ji6, hji6⟩ : ∃ j_ : Int, (wrap64 (x6_1 - t111)) = j_ := ⟨_, rfl⟩
              replace H : (if 0 ≤ (ji6) then (if (ji6) ≤ x6_1 then (if x6_1 ≤ (a0.size : Int) then (if 0 ≤ x7_2 then (if x7_2 ≤ ((a0.extract ((ji6) : Int).toNat (x6_1 : Int).toNat).size : Int) then (if 0 ≤ (wrap64 (((a0.extract ((ji6) : Int).toNat (x6_1 : Int).toNat).size : Int) - x7_2)) then (if (wrap64 (((a0.extract ((ji6) : Int).toNat (x6_1 : Int).toNat).size : Int) - x7_2)) ≤ ((a0.extract ((ji6) : Int).toNat (x6_1 : Int).toNat).size : Int) then (if ((a0.extract ((ji6) : Int).toNat (x6_1 : Int).toNat).extract (x7_2 : Int).toNat (a0.extract ((ji6) : Int).toNat (x6_1 : Int).toNat).size).toList = ((a0.extract ((ji6) : Int).toNat (x6_1 : Int).toNat).extract 0 ((wrap64 (((a0.extract ((ji6) : Int).toNat (x6_1 : Int).toNat).size : Int) - x7_2)) : Int).toNat).toList then (some (x6_1, x7_2)) else (impl_firstRepeat_at_impl_FirstPower_1.l1 k2 a0 x6_1 (wrap64 (x7_2 + 1)) a1_0)) else (none)) else (none)) else (none)) else (none)) else (none)) else (none)) else (none)) = some (r1, r2) := by first | (rw [hji6] at H; exact H) | (simp only [hji6] at H ⊢; exact H)
              (try rw [hji6] at hjs9)
              (try rw [hji6] at hjs9n)
              (try rw [hji6] at hjs10)
              (try rw [hji6] at hjs10n)
              (try rw [hji6] at A4)
              have hji6w : (IntKind.i64.wrap (x6_1 - t111)) = ji6 := (i64_w _).trans hji6
              by_cases c7 : 0 ≤ (ji6)
              · rw [if_pos c7] at H
                have c7b0 := eq_true c7
                have c7b1 : decide (0 ≤ (ji6)) = true := decide_eq_true c7
                clear c7
                by_cases c8 : (ji6) ≤ x6_1
                · rw [if_pos c8] at H
                  have c8b0 := eq_true c8
                  have c8b1 : decide ((ji6) ≤ x6_1) = true := decide_eq_true c8
                  clear c8
                  by_cases c9 : x6_1 ≤ (a0.size : Int)
                  · rw [if_pos c9] at H
                    have c9b0 := eq_true c9
                    have c9b1 : decide (x6_1 ≤ (a0.size : Int)) = true := decide_eq_true c9
                    clear c9
                    obtain ⟨js10, hjs10⟩ : ∃ j_ : ByteArray, (a0.extract ((ji6) : Int).toNat (x6_1 : Int).toNat) = j_ := ⟨_, rfl⟩
                    replace H : (if 0 ≤ x7_2 then (if x7_2 ≤ (js10.size : Int) then (if 0 ≤ (wrap64 ((js10.size : Int) - x7_2)) then (if (wrap64 ((js10.size : Int) - x7_2)) ≤ (js10.size : Int) then (if (js10.extract (x7_2 : Int).toNat js10.size).toList = (js10.extract 0 ((wrap64 ((js10.size : Int) - x7_2)) : Int).toNat).toList then (some (x6_1, x7_2)) else (impl_firstRepeat_at_impl_FirstPower_1.l1 k2 a0 x6_1 (wrap64 (x7_2 + 1)) a1_0)) else (none)) else (none)) else (none)) else (none)) = some (r1, r2) := by first | (rw [hjs10] at H; exact H) | (simp only [hjs10] at H ⊢; exact H)
                    (try (have hjs10n := hjs10; simp only [Int.toNat_natCast] at hjs10n))
                    by_cases c11 : 0 ≤ x7_2
                    · rw [if_pos c11] at H
                      have c11b0 := eq_true c11
                      have c11b1 : decide (0 ≤ x7_2) = true := decide_eq_true c11
                      clear c11
                      by_cases c12 : x7_2 ≤ (js10.size : Int)
                      · rw [if_pos c12] at H
                        have c12b0 := eq_true c12
                        have c12b1 : decide (x7_2 ≤ (js10.size : Int)) = true := decide_eq_true c12
                        clear c12
                        obtain ⟨js13, hjs13⟩ : ∃ j_ : ByteArray, (js10.extract (x7_2 : Int).toNat js10.size) = j_ := ⟨_, rfl⟩
                        replace H : (if 0 ≤ (wrap64 ((js10.size : Int) - x7_2)) then (if (wrap64 ((js10.size : Int) - x7_2)) ≤ (js10.size : Int) then (if js13.toList = (js10.extract 0 ((wrap64 ((js10.size : Int) - x7_2)) : Int).toNat).toList then (some (x6_1, x7_2)) else (impl_firstRepeat_at_impl_FirstPower_1.l1 k2 a0 x6_1 (wrap64 (x7_2 + 1)) a1_0)) else (none)) else (none)) = some (r1, r2) := by first | (rw [hjs13] at H; exact H) | (simp only [hjs13] at H ⊢; exact H)
                        (try (have hjs13n := hjs13; simp only [Int.toNat_natCast] at hjs13n))
                        obtain ⟨ji14, hji14⟩ : ∃ j_ : Int, (wrap64 ((js10.size : Int) - x7_2)) = j_ := ⟨_, rfl⟩
                        replace H : (if 0 ≤ (ji14) then (if (ji14) ≤ (js10.size : Int) then (if js13.toList = (js10.extract 0 ((ji14) : Int).toNat).toList then (some (x6_1, x7_2)) else (impl_firstRepeat_at_impl_FirstPower_1.l1 k2 a0 x6_1 (wrap64 (x7_2 + 1)) a1_0)) else (none)) else (none)) = some (r1, r2) := by first | (rw [hji14] at H; exact H) | (simp only [hji14] at H ⊢; exact H)
                        (try rw [hji14] at hjs9)
                        (try rw [hji14] at hjs9n)
                        (try rw [hji14] at hjs10)
                        (try rw [hji14] at hjs10n)
                        (try rw [hji14] at hjs10)
                        (try rw [hji14] at hjs10n)
                        (try rw [hji14] at hjs13)
                        (try rw [hji14] at hjs13n)
                        (try rw [hji14] at A4)
                        have hji14w : (IntKind.i64.wrap ((js10.size : Int) - x7_2)) = ji14 := (i64_w _).trans hji14
                        by_cases c15 : 0 ≤ (ji14)
                        · rw [if_pos c15] at H
                          have c15b0 := eq_true c15
                          have c15b1 : decide (0 ≤ (ji14)) = true := decide_eq_true c15
                          clear c15
                          by_cases c16 : (ji14) ≤ (js10.size : Int)
                          · rw [if_pos c16] at H
                            have c16b0 := eq_true c16
                            have c16b1 : decide ((ji14) ≤ (js10.size : Int)) = true := decide_eq_true c16
                            clear c16
                            obtain ⟨js17, hjs17⟩ : ∃ j_ : ByteArray, (js10.extract 0 ((ji14) : Int).toNat) = j_ := ⟨_, rfl⟩
                            replace H : (if js13.toList = js17.toList then (some (x6_1, x7_2)) else (impl_firstRepeat_at_impl_FirstPower_1.l1 k2 a0 x6_1 (wrap64 (x7_2 + 1)) a1_0)) = some (r1, r2) := by first | (rw [hjs17] at H; exact H) | (simp only [hjs17] at H ⊢; exact H)
                            (try (have hjs17n := hjs17; simp only [Int.toNat_natCast] at hjs17n))
                            by_cases c18 : js13.toList = js17.toList
                            · rw [if_pos c18] at H
                              have c18b0 : (js13.toList == js17.toList) = true := beq_iff_eq.mpr c18
                              have c18b1 : (js13.toList != js17.toList) = false := bne_eq_false_iff_eq.mpr c18
                              clear c18
                              simp only [Option.some.injEq, Prod.mk.injEq] at H
                              obtain ⟨rfl, rfl⟩ := H
                              go_wp2_with (first | (go_at_call 26; (with_reducible refine (impl_FirstPower_1.calls x7_2 _ a1_0 t111 _ (by first | exact hb1_0 | (simp; done) | (simpa using hb1_0) | (go_simp; done) | (go_simp; exact hb1_0)) A4.out).mono ?_); rintro e w' ⟨rfl, ⟨nd, rfl⟩⟩; (try first | exact ⟨rfl, _, World.drewN_drewN _ _ _⟩ | exact ⟨rfl, _, Eq.trans (World.drewN_drewN _ _ _) (congrArg (World.drewN _) (Nat.add_assoc _ _ _))⟩)))
                              repeat (go_quiet (first | (go_at_call 26; (with_reducible refine (impl_FirstPower_1.calls x7_2 _ a1_0 t111 _ (by first | exact hb1_0 | (simp; done) | (simpa using hb1_0) | (go_simp; done) | (go_simp; exact hb1_0)) A4.out).mono ?_); rintro e w' ⟨rfl, ⟨nd, rfl⟩⟩; (try first | exact ⟨rfl, _, World.drewN_drewN _ _ _⟩ | exact ⟨rfl, _, Eq.trans (World.drewN_drewN _ _ _) (congrArg (World.drewN _) (Nat.add_assoc _ _ _))⟩))); try go_wp2_with (first | (go_at_call 26; (with_reducible refine (impl_FirstPower_1.calls x7_2 _ a1_0 t111 _ (by first | exact hb1_0 | (simp; done) | (simpa using hb1_0) | (go_simp; done) | (go_simp; exact hb1_0)) A4.out).mono ?_); rintro e w' ⟨rfl, ⟨nd, rfl⟩⟩; (try first | exact ⟨rfl, _, World.drewN_drewN _ _ _⟩ | exact ⟨rfl, _, Eq.trans (World.drewN_drewN _ _ _) (congrArg (World.drewN _) (Nat.add_assoc _ _ _))⟩))))
                              go_ret2
                              exact ⟨by first | rfl | (simp; done) | (simp only [← hji6, ← hji14] <;> (first | rfl | simp)) | (simp [*]; done), by repeat (first | exact Drawn0.refl _ | apply Drawn0.step)⟩
                            · rw [if_neg c18] at H
                              have c18b0 : (js13.toList == js17.toList) = false := beq_eq_false_iff_ne.mpr c18
                              have c18b1 : (js13.toList != js17.toList) = true := bne_iff_ne.mpr c18
                              have H' := Aside0.mk H
                              clear H
                              go_wp2_with (first | (go_at_call 26; (with_reducible refine (impl_FirstPower_1.calls x7_2 _ a1_0 t111 _ (by first | exact hb1_0 | (simp; done) | (simpa using hb1_0) | (go_simp; done) | (go_simp; exact hb1_0)) A4.out).mono ?_); rintro e w' ⟨rfl, ⟨nd, rfl⟩⟩; (try first | exact ⟨rfl, _, World.drewN_drewN _ _ _⟩ | exact ⟨rfl, _, Eq.trans (World.drewN_drewN _ _ _) (congrArg (World.drewN _) (Nat.add_assoc _ _ _))⟩)))
                              repeat (go_quiet (first | (go_at_call 26; (with_reducible refine (impl_FirstPower_1.calls x7_2 _ a1_0 t111 _ (by first | exact hb1_0 | (simp; done) | (simpa using hb1_0) | (go_simp; done) | (go_simp; exact hb1_0)) A4.out).mono ?_); rintro e w' ⟨rfl, ⟨nd, rfl⟩⟩; (try first | exact ⟨rfl, _, World.drewN_drewN _ _ _⟩ | exact ⟨rfl, _, Eq.trans (World.drewN_drewN _ _ _) (congrArg (World.drewN _) (Nat.add_assoc _ _ _))⟩))); try go_wp2_with (first | (go_at_call 26; (with_reducible refine (impl_FirstPower_1.calls x7_2 _ a1_0 t111 _ (by first | exact hb1_0 | (simp; done) | (simpa using hb1_0) | (go_simp; done) | (go_simp; exact hb1_0)) A4.out).mono ?_); rintro e w' ⟨rfl, ⟨nd, rfl⟩⟩; (try first | exact ⟨rfl, _, World.drewN_drewN _ _ _⟩ | exact ⟨rfl, _, Eq.trans (World.drewN_drewN _ _ _) (congrArg (World.drewN _) (Nat.add_assoc _ _ _))⟩))))
                              go_roundg k2
                              case measure => have := HK1.out; have := HK2.out; omega
                              case rel => exact ⟨(wrap64 (x7_2 + 1)), (by first | rfl | (simp; done) | (simp [*]; done)), H', ⟨by have := HK1.out; have := HK2.out; omega⟩, by repeat (first | exact Drawn0.refl _ | apply Drawn0.step)⟩
                          · rw [if_neg c16] at H
                            exact absurd H (by simp)
                        · rw [if_neg c15] at H
                          exact absurd H (by simp)
                      · rw [if_neg c12] at H
                        exact absurd H (by simp)
                    · rw [if_neg c11] at H
                      exact absurd H (by simp)
                  · rw [if_neg c9] at H
                    exact absurd H (by simp)
                · rw [if_neg c8] at H
                  exact absurd H (by simp)
              · rw [if_neg c7] at H
                exact absurd H (by simp)
            · rw [if_neg c5] at H
              have c5b0 : decide (t111 ≤ x6_1) = false := decide_eq_false c5
              clear c5
              have H' := Aside0.mk H
              clear H
              go_wp2_with (first | (go_at_call 26; (with_reducible refine (impl_FirstPower_1.calls x7_2 _ a1_0 t111 _ (by first | exact hb1_0 | (simp; done) | (simpa using hb1_0) | (go_simp; done) | (go_simp; exact hb1_0)) A4.out).mono ?_); rintro e w' ⟨rfl, ⟨nd, rfl⟩⟩; (try first | exact ⟨rfl, _, World.drewN_drewN _ _ _⟩ | exact ⟨rfl, _, Eq.trans (World.drewN_drewN _ _ _) (congrArg (World.drewN _) (Nat.add_assoc _ _ _))⟩)))
              repeat (go_quiet (first | (go_at_call 26; (with_reducible refine (impl_FirstPower_1.calls x7_2 _ a1_0 t111 _ (by first | exact hb1_0 | (simp; done) | (simpa using hb1_0) | (go_simp; done) | (go_simp; exact hb1_0)) A4.out).mono ?_); rintro e w' ⟨rfl, ⟨nd, rfl⟩⟩; (try first | exact ⟨rfl, _, World.drewN_drewN _ _ _⟩ | exact ⟨rfl, _, Eq.trans (World.drewN_drewN _ _ _) (congrArg (World.drewN _) (Nat.add_assoc _ _ _))⟩))); try go_wp2_with (first | (go_at_call 26; (with_reducible refine (impl_FirstPower_1.calls x7_2 _ a1_0 t111 _ (by first | exact hb1_0 | (simp; done) | (simpa using hb1_0) | (go_simp; done) | (go_simp; exact hb1_0)) A4.out).mono ?_); rintro e w' ⟨rfl, ⟨nd, rfl⟩⟩; (try first | exact ⟨rfl, _, World.drewN_drewN _ _ _⟩ | exact ⟨rfl, _, Eq.trans (World.drewN_drewN _ _ _) (congrArg (World.drewN _) (Nat.add_assoc _ _ _))⟩))))
              go_roundg k2
              case measure => have := HK1.out; have := HK2.out; omega
              case rel => exact ⟨(wrap64 (x6_1 + 1)), (by first | rfl | (simp; done) | (simp [*]; done)), H', ⟨by have := HK1.out; have := HK2.out; omega⟩, by repeat (first | exact Drawn0.refl _ | apply Drawn0.step)⟩
      · rw [if_neg c3] at H
        have c3b0 : decide (x6_1 ≤ (a0.size : Int)) = false := decide_eq_false c3
        clear c3
        simp only [Option.some.injEq, Prod.mk.injEq] at H
        obtain ⟨rfl, rfl⟩ := H
        go_wp2
        repeat (go_quiet (fail); try go_wp2)
        go_ret2
        exact ⟨by first | rfl | (simp; done) | (simp [*]; done), by repeat (first | exact Drawn0.refl _ | apply Drawn0.step)⟩

/-! ### impl_FirstPower: function 12 -/
def impl_FirstPower.f (k : Nat) (a0 : ByteArray) (a1 : Int) : Option (Int × Int) := (impl_LongOk.f k 4 a0).bind fun t112 => (if t112 = true then ((impl_within.f a1 2 8).bind fun t113 => (if t113 = true then ((impl_firstRepeat_at_impl_FirstPower_1.f k a0 a1).bind fun bt114 => (some (bt114.1, bt114.2))) else (some (0, 0)))) else (some (0, 0)))
theorem impl_FirstPower.mono : ∀ a0 a1 k, LeO (impl_FirstPower.f k a0 a1) (impl_FirstPower.f (k + 1) a0 a1) := by
  intro a0 a1 k
  unfold impl_FirstPower.f
  repeat' first
      | (with_reducible exact impl_LongOk.mono _ _ _)
      | (with_reducible exact impl_firstRepeat_at_impl_FirstPower_1.mono _ _ _)
      | (with_reducible exact LeO.refl _)
      | (with_reducible exact LeO.none _)
      | (with_reducible refine LeO.ite ?_ ?_)
      | (with_reducible refine LeO.bind ?_ (fun _ => ?_))
      | exact impl_LongOk.mono _ _ _
      | exact impl_firstRepeat_at_impl_FirstPower_1.mono _ _ _
      | exact LeO.none _
      | refine LeO.ite ?_ ?_
      | refine LeO.bind ?_ (fun _ => ?_)
set_option maxHeartbeats 8000000 in
set_option maxRecDepth 100000 in
theorem impl_FirstPower.calls (k : Nat) (a0 : ByteArray) (a1 : Int) (r1 : Int) (r2 : Int) (w : World) (h : impl_FirstPower.f k a0 a1 = some (r1, r2)) :
    Calls Try.prog 12 #[.string a0, .int .i64 a1] w fun e w' => e = .returned (.tuple #[.int .i64 r1, .int .i64 r2]) ∧ Below w.heap.size w w' := by
  have HB := Aside0.mk (Below.refl w.heap.size w)
  have H : ((impl_LongOk.f k 4 a0).bind fun t112 => (if t112 = true then ((impl_within.f a1 2 8).bind fun t113 => (if t113 = true then ((impl_firstRepeat_at_impl_FirstPower_1.f k a0 a1).bind fun bt114 => (some (bt114.1, bt114.2))) else (some (0, 0)))) else (some (0, 0)))) = some (r1, r2) := h
  clear h
  replace H := Option.bind_eq_some_iff.mp H
  obtain ⟨t112, A30, H⟩ := H
  replace H : (if t112 = true then ((impl_within.f a1 2 8).bind fun t113 => (if t113 = true then ((impl_firstRepeat_at_impl_FirstPower_1.f k a0 a1).bind fun bt114 => (some (bt114.1, bt114.2))) else (some (0, 0)))) else (some (0, 0))) = some (r1, r2) := H
  have A3 := Aside0.mk A30
  clear A30
  by_cases c4 : t112 = true
  · subst c4
    have H1 : ((impl_within.f a1 2 8).bind fun t113 => (if t113 = true then ((impl_firstRepeat_at_impl_FirstPower_1.f k a0 a1).bind fun bt114 => (some (bt114.1, bt114.2))) else (some (0, 0)))) = some (r1, r2) := by rw [if_pos rfl] at H; exact H
    clear H
    have H := H1
    clear H1
    replace H := Option.bind_eq_some_iff.mp H
    obtain ⟨t113, A50, H⟩ := H
    replace H : (if t113 = true then ((impl_firstRepeat_at_impl_FirstPower_1.f k a0 a1).bind fun bt114 => (some (bt114.1, bt114.2))) else (some (0, 0))) = some (r1, r2) := H
    have A5 := Aside0.mk A50
    clear A50
    by_cases c6 : t113 = true
    · subst c6
      have H1 : ((impl_firstRepeat_at_impl_FirstPower_1.f k a0 a1).bind fun bt114 => (some (bt114.1, bt114.2))) = some (r1, r2) := by rw [if_pos rfl] at H; exact H
      clear H
      have H := H1
      clear H1
      replace H := Option.bind_eq_some_iff.mp H
      obtain ⟨⟨t114, t115⟩, A70, H⟩ := H
      replace H : (some (t114, t115)) = some (r1, r2) := H
      have A7 := Aside0.mk A70
      clear A70
      simp only [Option.some.injEq, Prod.mk.injEq] at H
      obtain ⟨rfl, rfl⟩ := H
      go_enter Try.func12, Try.ntmps12
      go_wp2_with (first | ((with_reducible refine gate_callee (f := 23) rfl ?_); refine goesL_ (some 7) rfl rfl Try.func23 (by kernel_rfl) rfl #[.int .i64 4, .string a0] rfl (by (try simp only [List.map_toArray, List.map_cons, List.map_nil]); first | done | rfl | (simp only [List.length_drop, List.length_take]; rfl) | (go_simp; (repeat' apply And.intro) <;> (simp only [IntKind.wrap_u8]; unfold wrap64; omega))) ?_; (with_reducible refine (impl_LongOk.calls k 4 a0 true _ A3.out).mono ?_); rintro e w' ⟨rfl, ⟨nd, rfl⟩⟩; refine ⟨_, rfl, ?_⟩) | (go_at_call 24; (with_reducible refine (impl_within.calls a1 2 8 true _ A5.out).mono ?_); rintro e w' ⟨rfl, ⟨nd, rfl⟩⟩) | (go_at_call 25; (with_reducible refine (impl_firstRepeat_at_impl_FirstPower_1.calls k a0 _ a1 t114 t115 _ (by first | exact hb_ | (simp; done) | (simpa using hb_) | (go_simp; done) | (go_simp; exact hb_)) A7.out).mono ?_); rintro e w' ⟨rfl, ⟨nd, rfl⟩⟩))
      go_ret2
      exact ⟨by first | rfl | (simp [errW_none, errW_some] <;> rfl) | (simp [*, errW_none, errW_some] <;> rfl), by repeat (first | (with_reducible first | exact HB.out | apply below_alloc | apply pw_below_drewN | apply below_drew1) | exact HB.out)⟩
    · replace c6 := Bool.eq_false_iff.mpr c6
      subst c6
      have H1 : (some (0, 0)) = some (r1, r2) := by rw [if_neg (show ¬ (false = true) by decide)] at H; exact H
      clear H
      have H := H1
      clear H1
      simp only [Option.some.injEq, Prod.mk.injEq] at H
      obtain ⟨rfl, rfl⟩ := H
      go_enter Try.func12, Try.ntmps12
      go_wp2_with (first | ((with_reducible refine gate_callee (f := 23) rfl ?_); refine goesL_ (some 7) rfl rfl Try.func23 (by kernel_rfl) rfl #[.int .i64 4, .string a0] rfl (by (try simp only [List.map_toArray, List.map_cons, List.map_nil]); first | done | rfl | (simp only [List.length_drop, List.length_take]; rfl) | (go_simp; (repeat' apply And.intro) <;> (simp only [IntKind.wrap_u8]; unfold wrap64; omega))) ?_; (with_reducible refine (impl_LongOk.calls k 4 a0 true _ A3.out).mono ?_); rintro e w' ⟨rfl, ⟨nd, rfl⟩⟩; refine ⟨_, rfl, ?_⟩) | (go_at_call 24; (with_reducible refine (impl_within.calls a1 2 8 false _ A5.out).mono ?_); rintro e w' ⟨rfl, ⟨nd, rfl⟩⟩))
      go_ret2
      exact ⟨by first | rfl | (simp [errW_none, errW_some] <;> rfl) | (simp [*, errW_none, errW_some] <;> rfl), by repeat (first | (with_reducible first | exact HB.out | apply below_alloc | apply pw_below_drewN | apply below_drew1) | exact HB.out)⟩
  · replace c4 := Bool.eq_false_iff.mpr c4
    subst c4
    have H1 : (some (0, 0)) = some (r1, r2) := by rw [if_neg (show ¬ (false = true) by decide)] at H; exact H
    clear H
    have H := H1
    clear H1
    simp only [Option.some.injEq, Prod.mk.injEq] at H
    obtain ⟨rfl, rfl⟩ := H
    go_enter Try.func12, Try.ntmps12
    go_wp2_with (first | ((with_reducible refine gate_callee (f := 23) rfl ?_); refine goesL_ (some 7) rfl rfl Try.func23 (by kernel_rfl) rfl #[.int .i64 4, .string a0] rfl (by (try simp only [List.map_toArray, List.map_cons, List.map_nil]); first | done | rfl | (simp only [List.length_drop, List.length_take]; rfl) | (go_simp; (repeat' apply And.intro) <;> (simp only [IntKind.wrap_u8]; unfold wrap64; omega))) ?_; (with_reducible refine (impl_LongOk.calls k 4 a0 false _ A3.out).mono ?_); rintro e w' ⟨rfl, ⟨nd, rfl⟩⟩; refine ⟨_, rfl, ?_⟩))
    go_ret2
    exact ⟨by first | rfl | (simp [errW_none, errW_some] <;> rfl) | (simp [*, errW_none, errW_some] <;> rfl), by repeat (first | (with_reducible first | exact HB.out | apply below_alloc | apply pw_below_drewN | apply below_drew1) | exact HB.out)⟩

/-! ### impl_FirstSquare: function 10 -/
def impl_FirstSquare.f (k : Nat) (a0 : ByteArray) : Option (Int × Int) := (impl_FirstPower.f k a0 2).bind fun bt116 => (some (bt116.1, bt116.2))
theorem impl_FirstSquare.mono : ∀ a0 k, LeO (impl_FirstSquare.f k a0) (impl_FirstSquare.f (k + 1) a0) := by
  intro a0 k
  unfold impl_FirstSquare.f
  repeat' first
      | (with_reducible exact impl_FirstPower.mono _ _ _)
      | (with_reducible exact LeO.refl _)
      | (with_reducible exact LeO.none _)
      | (with_reducible refine LeO.ite ?_ ?_)
      | (with_reducible refine LeO.bind ?_ (fun _ => ?_))
      | exact impl_FirstPower.mono _ _ _
      | exact LeO.none _
      | refine LeO.ite ?_ ?_
      | refine LeO.bind ?_ (fun _ => ?_)
set_option maxHeartbeats 8000000 in
set_option maxRecDepth 100000 in
theorem impl_FirstSquare.calls (k : Nat) (a0 : ByteArray) (r1 : Int) (r2 : Int) (w : World) (h : impl_FirstSquare.f k a0 = some (r1, r2)) :
    Calls Try.prog 10 #[.string a0] w fun e w' => e = .returned (.tuple #[.int .i64 r1, .int .i64 r2]) ∧ Below w.heap.size w w' := by
  have HB := Aside0.mk (Below.refl w.heap.size w)
  have H : ((impl_FirstPower.f k a0 2).bind fun bt116 => (some (bt116.1, bt116.2))) = some (r1, r2) := h
  clear h
  replace H := Option.bind_eq_some_iff.mp H
  obtain ⟨⟨t116, t117⟩, A20, H⟩ := H
  replace H : (some (t116, t117)) = some (r1, r2) := H
  have A2 := Aside0.mk A20
  clear A20
  simp only [Option.some.injEq, Prod.mk.injEq] at H
  obtain ⟨rfl, rfl⟩ := H
  go_enter Try.func10, Try.ntmps10
  go_wp2_with (first | ((with_reducible refine gate_callee (f := 12) rfl ?_); refine goesL_ (some 5) rfl rfl Try.func12 (by kernel_rfl) rfl #[.string a0, .int .i64 2] rfl (by (try simp only [List.map_toArray, List.map_cons, List.map_nil]); first | done | rfl | (simp only [List.length_drop, List.length_take]; rfl) | (go_simp; (repeat' apply And.intro) <;> (simp only [IntKind.wrap_u8]; unfold wrap64; omega))) ?_; (with_reducible refine (impl_FirstPower.calls k a0 2 t116 t117 _ A2.out).mono ?_); rintro e w3 ⟨rfl, hb⟩; refine ⟨_, rfl, ?_⟩; have n0_ := Aside0.mk (below_step (by repeat (first | (with_reducible first | exact HB.out | apply below_alloc | apply pw_below_drewN | apply below_drew1) | exact HB.out)) hb); clear HB; have HB := n0_; clear n0_; (try clear hb); (try clear hb2); (try clear hk); (try clear hi)))
  go_ret2
  exact ⟨by first | rfl | (simp [errW_none, errW_some] <;> rfl) | (simp [*, errW_none, errW_some] <;> rfl), by repeat (first | (with_reducible first | exact HB.out | apply below_alloc | apply pw_below_drewN | apply below_drew1) | exact HB.out)⟩

/-! ### impl_IsSquareFree: function 20 -/
def impl_IsSquareFree.f (k : Nat) (a0 : ByteArray) : Option (Bool) := (impl_FirstSquare.f k a0).bind fun bt118 => ((impl_LongOk.f k 4 a0).bind fun t120 => (if t120 = true then (some (bt118.1 == 0)) else (some false)))
theorem impl_IsSquareFree.mono : ∀ a0 k, LeO (impl_IsSquareFree.f k a0) (impl_IsSquareFree.f (k + 1) a0) := by
  intro a0 k
  unfold impl_IsSquareFree.f
  repeat' first
      | (with_reducible exact impl_FirstSquare.mono _ _)
      | (with_reducible exact impl_LongOk.mono _ _ _)
      | (with_reducible exact LeO.refl _)
      | (with_reducible exact LeO.none _)
      | (with_reducible refine LeO.ite ?_ ?_)
      | (with_reducible refine LeO.bind ?_ (fun _ => ?_))
      | exact impl_FirstSquare.mono _ _
      | exact impl_LongOk.mono _ _ _
      | exact LeO.none _
      | refine LeO.ite ?_ ?_
      | refine LeO.bind ?_ (fun _ => ?_)
set_option maxHeartbeats 8000000 in
set_option maxRecDepth 100000 in
theorem impl_IsSquareFree.calls (k : Nat) (a0 : ByteArray) (r : Bool) (w : World) (h : impl_IsSquareFree.f k a0 = some r) :
    Calls Try.prog 20 #[.string a0] w fun e w' => e = .returned (.bool r) ∧ Below w.heap.size w w' := by
  have HB := Aside0.mk (Below.refl w.heap.size w)
  have H : ((impl_FirstSquare.f k a0).bind fun bt118 => ((impl_LongOk.f k 4 a0).bind fun t120 => (if t120 = true then (some (bt118.1 == 0)) else (some false)))) = some r := h
  clear h
  replace H := Option.bind_eq_some_iff.mp H
  obtain ⟨⟨t118, t119⟩, A20, H⟩ := H
  replace H : ((impl_LongOk.f k 4 a0).bind fun t120 => (if t120 = true then (some (t118 == 0)) else (some false))) = some r := H
  have A2 := Aside0.mk A20
  clear A20
  replace H := Option.bind_eq_some_iff.mp H
  obtain ⟨t120, A30, H⟩ := H
  replace H : (if t120 = true then (some (t118 == 0)) else (some false)) = some r := H
  have A3 := Aside0.mk A30
  clear A30
  by_cases c4 : t120 = true
  · subst c4
    have H1 : (some (t118 == 0)) = some r := by rw [if_pos rfl] at H; exact H
    clear H
    have H := H1
    clear H1
    obtain rfl := Option.some.inj H
    go_enter Try.func20, Try.ntmps20
    go_wp2_with (first | ((with_reducible refine gate_callee (f := 10) rfl ?_); refine goesL_ (some 7) rfl rfl Try.func10 (by kernel_rfl) rfl #[.string a0] rfl (by (try simp only [List.map_toArray, List.map_cons, List.map_nil]); first | done | rfl | (simp only [List.length_drop, List.length_take]; rfl) | (go_simp; (repeat' apply And.intro) <;> (simp only [IntKind.wrap_u8]; unfold wrap64; omega))) ?_; (with_reducible refine (impl_FirstSquare.calls k a0 t118 t119 _ A2.out).mono ?_); rintro e w5 ⟨rfl, hb⟩; refine ⟨_, rfl, ?_⟩; have n0_ := Aside0.mk (below_step (by repeat (first | (with_reducible first | exact HB.out | apply below_alloc | apply pw_below_drewN | apply below_drew1) | exact HB.out)) hb); clear HB; have HB := n0_; clear n0_; (try clear hb); (try clear hb2); (try clear hk); (try clear hi)) | ((with_reducible refine gate_callee (f := 23) rfl ?_); refine goesL_ (some 11) rfl rfl Try.func23 (by kernel_rfl) rfl #[.int .i64 4, .string a0] rfl (by (try simp only [List.map_toArray, List.map_cons, List.map_nil]); first | done | rfl | (simp only [List.length_drop, List.length_take]; rfl) | (go_simp; (repeat' apply And.intro) <;> (simp only [IntKind.wrap_u8]; unfold wrap64; omega))) ?_; (with_reducible refine (impl_LongOk.calls k 4 a0 true _ A3.out).mono ?_); rintro e w' ⟨rfl, ⟨nd, rfl⟩⟩; refine ⟨_, rfl, ?_⟩))
    go_ret
    exact ⟨by first | rfl | (simp [errW_none, errW_some] <;> rfl) | (simp [*, errW_none, errW_some] <;> rfl), by repeat (first | (with_reducible first | exact HB.out | apply below_alloc | apply pw_below_drewN | apply below_drew1) | exact HB.out)⟩
  · replace c4 := Bool.eq_false_iff.mpr c4
    subst c4
    have H1 : (some false) = some r := by rw [if_neg (show ¬ (false = true) by decide)] at H; exact H
    clear H
    have H := H1
    clear H1
    obtain rfl := Option.some.inj H
    go_enter Try.func20, Try.ntmps20
    go_wp2_with (first | ((with_reducible refine gate_callee (f := 10) rfl ?_); refine goesL_ (some 7) rfl rfl Try.func10 (by kernel_rfl) rfl #[.string a0] rfl (by (try simp only [List.map_toArray, List.map_cons, List.map_nil]); first | done | rfl | (simp only [List.length_drop, List.length_take]; rfl) | (go_simp; (repeat' apply And.intro) <;> (simp only [IntKind.wrap_u8]; unfold wrap64; omega))) ?_; (with_reducible refine (impl_FirstSquare.calls k a0 t118 t119 _ A2.out).mono ?_); rintro e w6 ⟨rfl, hb⟩; refine ⟨_, rfl, ?_⟩; have n0_ := Aside0.mk (below_step (by repeat (first | (with_reducible first | exact HB.out | apply below_alloc | apply pw_below_drewN | apply below_drew1) | exact HB.out)) hb); clear HB; have HB := n0_; clear n0_; (try clear hb); (try clear hb2); (try clear hk); (try clear hi)) | ((with_reducible refine gate_callee (f := 23) rfl ?_); refine goesL_ (some 11) rfl rfl Try.func23 (by kernel_rfl) rfl #[.int .i64 4, .string a0] rfl (by (try simp only [List.map_toArray, List.map_cons, List.map_nil]); first | done | rfl | (simp only [List.length_drop, List.length_take]; rfl) | (go_simp; (repeat' apply And.intro) <;> (simp only [IntKind.wrap_u8]; unfold wrap64; omega))) ?_; (with_reducible refine (impl_LongOk.calls k 4 a0 false _ A3.out).mono ?_); rintro e w' ⟨rfl, ⟨nd, rfl⟩⟩; refine ⟨_, rfl, ?_⟩))
    go_ret
    exact ⟨by first | rfl | (simp [errW_none, errW_some] <;> rfl) | (simp [*, errW_none, errW_some] <;> rfl), by repeat (first | (with_reducible first | exact HB.out | apply below_alloc | apply pw_below_drewN | apply below_drew1) | exact HB.out)⟩

/-! ### laws_FnExactIsSquareFree: function 8 -/
def laws_FnExactIsSquareFree.f (k : Nat) (a0 : ByteArray) : Option (Bool) := if (a0.size : Int) > 1048576 then (some true) else ((spec_IsSquareFree.f k a0).bind fun t121 => ((impl_IsSquareFree.f k a0).bind fun t122 => (if (t122 != t121) = true then (some false) else (some true))))
theorem laws_FnExactIsSquareFree.mono : ∀ a0 k, LeO (laws_FnExactIsSquareFree.f k a0) (laws_FnExactIsSquareFree.f (k + 1) a0) := by
  intro a0 k
  unfold laws_FnExactIsSquareFree.f
  repeat' first
      | (with_reducible exact impl_IsSquareFree.mono _ _)
      | (with_reducible exact spec_IsSquareFree.mono _ _)
      | (with_reducible exact LeO.refl _)
      | (with_reducible exact LeO.none _)
      | (with_reducible refine LeO.ite ?_ ?_)
      | (with_reducible refine LeO.bind ?_ (fun _ => ?_))
      | exact impl_IsSquareFree.mono _ _
      | exact spec_IsSquareFree.mono _ _
      | exact LeO.none _
      | refine LeO.ite ?_ ?_
      | refine LeO.bind ?_ (fun _ => ?_)
set_option maxHeartbeats 8000000 in
set_option maxRecDepth 100000 in
theorem laws_FnExactIsSquareFree.calls (k : Nat) (a0 : ByteArray) (r : Bool) (w : World) (h : laws_FnExactIsSquareFree.f k a0 = some r) :
    Calls Try.prog 8 #[.string a0] w fun e w' => e = .returned (.bool r) ∧ Below w.heap.size w w' := by
  have HB := Aside0.mk (Below.refl w.heap.size w)
  have H : (if (a0.size : Int) > 1048576 then (some true) else ((spec_IsSquareFree.f k a0).bind fun t121 => ((impl_IsSquareFree.f k a0).bind fun t122 => (if (t122 != t121) = true then (some false) else (some true))))) = some r := h
  clear h
  by_cases c2 : (a0.size : Int) > 1048576
  · rw [if_pos c2] at H
    have c2b0 : decide (1048576 < (a0.size : Int)) = true := decide_eq_true c2
    have c2b1 : decide (1048576 < a0.size) = true := decide_eq_true (by omega)
    clear c2
    obtain rfl := Option.some.inj H
    go_enter Try.func8, Try.ntmps8
    go_wp2
    go_ret
    exact ⟨by first | rfl | (simp [errW_none, errW_some] <;> rfl) | (simp [*, errW_none, errW_some] <;> rfl), by repeat (first | (with_reducible first | exact HB.out | apply below_alloc | apply pw_below_drewN | apply below_drew1) | exact HB.out)⟩
  · rw [if_neg c2] at H
    have c2b0 : decide (1048576 < (a0.size : Int)) = false := decide_eq_false c2
    have c2b1 : decide (1048576 < a0.size) = false := decide_eq_false (by omega)
    clear c2
    replace H := Option.bind_eq_some_iff.mp H
    obtain ⟨t121, A30, H⟩ := H
    replace H : ((impl_IsSquareFree.f k a0).bind fun t122 => (if (t122 != t121) = true then (some false) else (some true))) = some r := H
    have A3 := Aside0.mk A30
    clear A30
    replace H := Option.bind_eq_some_iff.mp H
    obtain ⟨t122, A40, H⟩ := H
    replace H : (if (t122 != t121) = true then (some false) else (some true)) = some r := H
    have A4 := Aside0.mk A40
    clear A40
    by_cases c5 : (t122 != t121) = true
    · rw [if_pos c5] at H
      have c5b0 : (t122 != t121) = true := c5
      (try (have c5b1 : decide (t122 = t121) = false := by simpa using c5))
      (try (have c5b2 : (t122 == t121) = false := by simpa using c5))
      (try (have c5b3 : ¬ (t122 = t121) := by simpa using c5))
      clear c5
      obtain rfl := Option.some.inj H
      go_enter Try.func8, Try.ntmps8
      go_wp2_with (first | ((with_reducible refine gate_callee (f := 19) rfl ?_); refine goesL_ (some 9) rfl rfl Try.func19 (by kernel_rfl) rfl #[.string a0] rfl (by (try simp only [List.map_toArray, List.map_cons, List.map_nil]); first | done | rfl | (simp only [List.length_drop, List.length_take]; rfl) | (go_simp; (repeat' apply And.intro) <;> (simp only [IntKind.wrap_u8]; unfold wrap64; omega))) ?_; (with_reducible refine (spec_IsSquareFree.calls k a0 t121 _ A3.out).mono ?_); rintro e w' ⟨rfl, ⟨nd, rfl⟩⟩; refine ⟨_, rfl, ?_⟩) | ((with_reducible refine gate_callee (f := 20) rfl ?_); refine goesL_ (some 11) rfl rfl Try.func20 (by kernel_rfl) rfl #[.string a0] rfl (by (try simp only [List.map_toArray, List.map_cons, List.map_nil]); first | done | rfl | (simp only [List.length_drop, List.length_take]; rfl) | (go_simp; (repeat' apply And.intro) <;> (simp only [IntKind.wrap_u8]; unfold wrap64; omega))) ?_; (with_reducible refine (impl_IsSquareFree.calls k a0 t122 _ A4.out).mono ?_); rintro e w6 ⟨rfl, hb⟩; refine ⟨_, rfl, ?_⟩; have n0_ := Aside0.mk (below_step (by repeat (first | (with_reducible first | exact HB.out | apply below_alloc | apply pw_below_drewN | apply below_drew1) | exact HB.out)) hb); clear HB; have HB := n0_; clear n0_; (try clear hb); (try clear hb2); (try clear hk); (try clear hi)))
      go_ret
      exact ⟨by first | rfl | (simp [errW_none, errW_some] <;> rfl) | (simp [*, errW_none, errW_some] <;> rfl), by repeat (first | (with_reducible first | exact HB.out | apply below_alloc | apply pw_below_drewN | apply below_drew1) | exact HB.out)⟩
    · rw [if_neg c5] at H
      have c5b0 : (t122 != t121) = false := by simpa using c5
      (try (have c5b1 : decide (t122 = t121) = true := by simpa using c5))
      (try (have c5b2 : (t122 == t121) = true := by simpa using c5))
      clear c5
      obtain rfl := Option.some.inj H
      go_enter Try.func8, Try.ntmps8
      go_wp2_with (first | ((with_reducible refine gate_callee (f := 19) rfl ?_); refine goesL_ (some 9) rfl rfl Try.func19 (by kernel_rfl) rfl #[.string a0] rfl (by (try simp only [List.map_toArray, List.map_cons, List.map_nil]); first | done | rfl | (simp only [List.length_drop, List.length_take]; rfl) | (go_simp; (repeat' apply And.intro) <;> (simp only [IntKind.wrap_u8]; unfold wrap64; omega))) ?_; (with_reducible refine (spec_IsSquareFree.calls k a0 t121 _ A3.out).mono ?_); rintro e w' ⟨rfl, ⟨nd, rfl⟩⟩; refine ⟨_, rfl, ?_⟩) | ((with_reducible refine gate_callee (f := 20) rfl ?_); refine goesL_ (some 11) rfl rfl Try.func20 (by kernel_rfl) rfl #[.string a0] rfl (by (try simp only [List.map_toArray, List.map_cons, List.map_nil]); first | done | rfl | (simp only [List.length_drop, List.length_take]; rfl) | (go_simp; (repeat' apply And.intro) <;> (simp only [IntKind.wrap_u8]; unfold wrap64; omega))) ?_; (with_reducible refine (impl_IsSquareFree.calls k a0 t122 _ A4.out).mono ?_); rintro e w7 ⟨rfl, hb⟩; refine ⟨_, rfl, ?_⟩; have n0_ := Aside0.mk (below_step (by repeat (first | (with_reducible first | exact HB.out | apply below_alloc | apply pw_below_drewN | apply below_drew1) | exact HB.out)) hb); clear HB; have HB := n0_; clear n0_; (try clear hb); (try clear hb2); (try clear hk); (try clear hi)))
      go_ret
      exact ⟨by first | rfl | (simp [errW_none, errW_some] <;> rfl) | (simp [*, errW_none, errW_some] <;> rfl), by repeat (first | (with_reducible first | exact HB.out | apply below_alloc | apply pw_below_drewN | apply below_drew1) | exact HB.out)⟩

/-- THE ONE PURE STATEMENT of laws_FnExactIsSquareFree: yours. -/
def laws_FnExactIsSquareFree.Pure : Prop := ∀ (a0 : ByteArray), a0.size ≤ 140737488351232 → ∃ k, laws_FnExactIsSquareFree.f k a0 = some true
theorem laws_FnExactIsSquareFree.walk (P : laws_FnExactIsSquareFree.Pure) (a0 : ByteArray) (w : World) (w0 : a0.size ≤ 140737488351232) :
    Calls Try.prog 8 #[.string a0] w fun e w' => e = .returned (.bool true) ∧ Below w.heap.size w w' := by
  obtain ⟨k, h⟩ := P a0 w0
  refine (laws_FnExactIsSquareFree.calls k a0 true w h).mono ?_
  rintro e w' ⟨rfl, hd⟩
  exact ⟨rfl, hd⟩

end Go.Proofs.Ytonfncakpdoglab.QFnExactIsSquareFree
