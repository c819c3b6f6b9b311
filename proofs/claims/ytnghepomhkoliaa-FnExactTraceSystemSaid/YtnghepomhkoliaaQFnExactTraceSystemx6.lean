/- Written by a program of this session for this claim: functions of the program as Lean functions, and proofs that the calls come to what these say. -/
import Derived.Test.YtnghepomhkoliaaQFnExactTraceSystemx0
import Derived.Test.YtnghepomhkoliaaQFnExactTraceSystemx1
import Derived.Test.YtnghepomhkoliaaQFnExactTraceSystemx2
import Derived.Test.YtnghepomhkoliaaQFnExactTraceSystemx4
import Derived.Test.YtnghepomhkoliaaQFnExactTraceSystemx5
namespace Go.Proofs.Ytnghepomhkoliaa.QFnExactTraceSystem
open Go.RowKit Go.Proofs.YtnghepomhkoliaaW.PrintWords Go.Proofs.YtnghepomhkoliaaW.PrintLast Go.Proofs.YtnghepomhkoliaaW.PrintMore
attribute [local go_sem] max2_int min2_int max_two min_two max_three min_three max_four min_four   -- for this text's walks alone
set_option linter.unusedVariables false
set_option linter.unusedSimpArgs false

/-! ### laws_FnExactTraceSystem: function 6 -/
mutual
def laws_FnExactTraceSystem.j0 : Nat → Int → List ByteArray → Bool → List ByteArray → Bool → Bool → Int → List (S55) → Int → List (S55) → Option (Bool)
  | 0, _, _, _, _, _, _, _, _, _, _ => none
  | k + 1, x0, x1, x7, x8, x10, x44, x182000, x182001, x191000, x191001 => if x44 = true then (some false) else ((laws_toStringS.f k x1).bind fun t192 => ((laws_eqStringS.f k x8 t192).bind fun t195 => (if t195 = true then ((laws_markStringS.f k x8 1).bind fun bt196 => (if bt196.1 < 0 then (laws_FnExactTraceSystem.j1 k x0 x1 x7 true x182000 x182001 x191000 x191001) else ((laws_eqSystem.f k x191000 x191001 x182000 x182001).bind fun t198 => (if t198 = true then (laws_FnExactTraceSystem.j1 k x0 x1 x7 (x10 != x7) x182000 x182001 x191000 x191001) else (laws_FnExactTraceSystem.j1 k x0 x1 x7 true x182000 x182001 x191000 x191001))))) else (some false))))
def laws_FnExactTraceSystem.j1 : Nat → Int → List ByteArray → Bool → Bool → Int → List (S55) → Int → List (S55) → Option (Bool)
  | 0, _, _, _, _, _, _, _, _ => none
  | k + 1, x0, x1, x7, x65, x182000, x182001, x191000, x191001 => if x65 = true then (some false) else ((laws_markSystem.f k x191000 x191001 1).bind fun bt199 => ((laws_heldSystem.f k x191000 bt199.2 1).bind fun t201 => (if t201 < 0 then (some false) else (if t201 = bt199.1 then ((laws_toStringS.f k x1).bind fun t202 => ((impl_TraceSystem.f k x0 t202).bind fun bt205 => ((laws_eqSystem.f k bt205.1 bt205.2.1 x182000 x182001).bind fun t211 => (if t211 = true then (laws_FnExactTraceSystem.j2 k bt199.1 (bt205.2.2 != x7) x191000 bt199.2) else (laws_FnExactTraceSystem.j2 k bt199.1 true x191000 bt199.2))))) else (some false)))))
def laws_FnExactTraceSystem.j2 : Nat → Int → Bool → Int → List (S55) → Option (Bool)
  | 0, _, _, _, _ => none
  | k + 1, x12, x92, x191000, x191001 => if x92 = true then (some false) else ((laws_heldSystem.f k x191000 x191001 1).bind fun t212 => (if t212 < 0 then (some false) else (if t212 = x12 then (some true) else (some false))))
end
def laws_FnExactTraceSystem.f (k : Nat) (a0 : Int) (l1 : List ByteArray) : Option (Bool) := (laws_szStringS.f k l1 1048576).bind fun t172 => (if t172 < 0 then (some true) else ((laws_toStringS.f k l1).bind fun t173 => ((spec_TraceSystem.f k a0 t173).bind fun bt176 => ((laws_toStringS.f k l1).bind fun t182 => ((impl_TraceSystem.f k a0 t182).bind fun bt185 => ((laws_eqSystem.f k bt185.1 bt185.2.1 bt176.1 bt176.2.1).bind fun t191 => (if t191 = true then (laws_FnExactTraceSystem.j0 k a0 l1 bt176.2.2 t182 bt185.2.2 (bt185.2.2 != bt176.2.2) bt176.1 bt176.2.1 bt185.1 bt185.2.1) else (laws_FnExactTraceSystem.j0 k a0 l1 bt176.2.2 t182 bt185.2.2 true bt176.1 bt176.2.1 bt185.1 bt185.2.1))))))))
theorem laws_FnExactTraceSystem.mono_l : ∀ k, (∀ y0 y1 y2 y3 y4 y5 y6 y7 y8 y9, LeO (laws_FnExactTraceSystem.j0 k y0 y1 y2 y3 y4 y5 y6 y7 y8 y9) (laws_FnExactTraceSystem.j0 (k + 1) y0 y1 y2 y3 y4 y5 y6 y7 y8 y9)) ∧ (∀ y0 y1 y2 y3 y4 y5 y6 y7, LeO (laws_FnExactTraceSystem.j1 k y0 y1 y2 y3 y4 y5 y6 y7) (laws_FnExactTraceSystem.j1 (k + 1) y0 y1 y2 y3 y4 y5 y6 y7)) ∧ (∀ y0 y1 y2 y3, LeO (laws_FnExactTraceSystem.j2 k y0 y1 y2 y3) (laws_FnExactTraceSystem.j2 (k + 1) y0 y1 y2 y3))
  | 0 => ⟨fun _ _ _ _ _ _ _ _ _ _ r h => by simp [laws_FnExactTraceSystem.j0] at h, fun _ _ _ _ _ _ _ _ r h => by simp [laws_FnExactTraceSystem.j1] at h, fun _ _ _ _ r h => by simp [laws_FnExactTraceSystem.j2] at h⟩
  | k + 1 => by
    obtain ⟨ih0, ih1, ih2⟩ := laws_FnExactTraceSystem.mono_l k
    refine ⟨?_, ?_, ?_⟩
    · intro y0 y1 y2 y3 y4 y5 y6 y7 y8 y9
      unfold laws_FnExactTraceSystem.j0
      repeat' first
      | (with_reducible exact ih0 _ _ _ _ _ _ _ _ _ _)
      | (with_reducible exact ih1 _ _ _ _ _ _ _ _)
      | (with_reducible exact ih2 _ _ _ _)
      | (with_reducible exact impl_TraceSystem.mono _ _ _)
      | (with_reducible exact laws_eqStringS.mono _ _ _)
      | (with_reducible exact laws_eqSystem.mono _ _ _ _ _)
      | (with_reducible exact laws_heldSystem.mono _ _ _ _)
      | (with_reducible exact laws_markStringS.mono _ _ _)
      | (with_reducible exact laws_markSystem.mono _ _ _ _)
      | (with_reducible exact laws_szStringS.mono _ _ _)
      | (with_reducible exact laws_toStringS.mono _ _)
      | (with_reducible exact spec_TraceSystem.mono _ _ _)
      | (with_reducible exact LeO.refl _)
      | (with_reducible exact LeO.none _)
      | (with_reducible refine LeO.ite ?_ ?_)
      | (with_reducible refine LeO.bind ?_ (fun _ => ?_))
      | exact ih0 _ _ _ _ _ _ _ _ _ _
      | exact ih1 _ _ _ _ _ _ _ _
      | exact ih2 _ _ _ _
      | exact impl_TraceSystem.mono _ _ _
      | exact laws_eqStringS.mono _ _ _
      | exact laws_eqSystem.mono _ _ _ _ _
      | exact laws_heldSystem.mono _ _ _ _
      | exact laws_markStringS.mono _ _ _
      | exact laws_markSystem.mono _ _ _ _
      | exact laws_szStringS.mono _ _ _
      | exact laws_toStringS.mono _ _
      | exact spec_TraceSystem.mono _ _ _
      | exact LeO.none _
      | refine LeO.ite ?_ ?_
      | refine LeO.bind ?_ (fun _ => ?_)
    · intro y0 y1 y2 y3 y4 y5 y6 y7
      unfold laws_FnExactTraceSystem.j1
      repeat' first
      | (with_reducible exact ih0 _ _ _ _ _ _ _ _ _ _)
      | (with_reducible exact ih1 _ _ _ _ _ _ _ _)
      | (with_reducible exact ih2 _ _ _ _)
      | (with_reducible exact impl_TraceSystem.mono _ _ _)
      | (with_reducible exact laws_eqStringS.mono _ _ _)
      | (with_reducible exact laws_eqSystem.mono _ _ _ _ _)
      | (with_reducible exact laws_heldSystem.mono _ _ _ _)
      | (with_reducible exact laws_markStringS.mono _ _ _)
      | (with_reducible exact laws_markSystem.mono _ _ _ _)
      | (with_reducible exact laws_szStringS.mono _ _ _)
      | (with_reducible exact laws_toStringS.mono _ _)
      | (with_reducible exact spec_TraceSystem.mono _ _ _)
      | (with_reducible exact LeO.refl _)
      | (with_reducible exact LeO.none _)
      | (with_reducible refine LeO.ite ?_ ?_)
      | (with_reducible refine LeO.bind ?_ (fun _ => ?_))
      | exact ih0 _ _ _ _ _ _ _ _ _ _
      | exact ih1 _ _ _ _ _ _ _ _
      | exact ih2 _ _ _ _
      | exact impl_TraceSystem.mono _ _ _
      | exact laws_eqStringS.mono _ _ _
      | exact laws_eqSystem.mono _ _ _ _ _
      | exact laws_heldSystem.mono _ _ _ _
      | exact laws_markStringS.mono _ _ _
      | exact laws_markSystem.mono _ _ _ _
      | exact laws_szStringS.mono _ _ _
      | exact laws_toStringS.mono _ _
      | exact spec_TraceSystem.mono _ _ _
      | exact LeO.none _
      | refine LeO.ite ?_ ?_
      | refine LeO.bind ?_ (fun _ => ?_)
    · intro y0 y1 y2 y3
      unfold laws_FnExactTraceSystem.j2
      repeat' first
      | (with_reducible exact ih0 _ _ _ _ _ _ _ _ _ _)
      | (with_reducible exact ih1 _ _ _ _ _ _ _ _)
      | (with_reducible exact ih2 _ _ _ _)
      | (with_reducible exact impl_TraceSystem.mono _ _ _)
      | (with_reducible exact laws_eqStringS.mono _ _ _)
      | (with_reducible exact laws_eqSystem.mono _ _ _ _ _)
      | (with_reducible exact laws_heldSystem.mono _ _ _ _)
      | (with_reducible exact laws_markStringS.mono _ _ _)
      | (with_reducible exact laws_markSystem.mono _ _ _ _)
      | (with_reducible exact laws_szStringS.mono _ _ _)
      | (with_reducible exact laws_toStringS.mono _ _)
      | (with_reducible exact spec_TraceSystem.mono _ _ _)
      | (with_reducible exact LeO.refl _)
      | (with_reducible exact LeO.none _)
      | (with_reducible refine LeO.ite ?_ ?_)
      | (with_reducible refine LeO.bind ?_ (fun _ => ?_))
      | exact ih0 _ _ _ _ _ _ _ _ _ _
      | exact ih1 _ _ _ _ _ _ _ _
      | exact ih2 _ _ _ _
      | exact impl_TraceSystem.mono _ _ _
      | exact laws_eqStringS.mono _ _ _
      | exact laws_eqSystem.mono _ _ _ _ _
      | exact laws_heldSystem.mono _ _ _ _
      | exact laws_markStringS.mono _ _ _
      | exact laws_markSystem.mono _ _ _ _
      | exact laws_szStringS.mono _ _ _
      | exact laws_toStringS.mono _ _
      | exact spec_TraceSystem.mono _ _ _
      | exact LeO.none _
      | refine LeO.ite ?_ ?_
      | refine LeO.bind ?_ (fun _ => ?_)
theorem laws_FnExactTraceSystem.mono : ∀ a0 a1 k, LeO (laws_FnExactTraceSystem.f k a0 a1) (laws_FnExactTraceSystem.f (k + 1) a0 a1) := by
  intro a0 a1 k
  obtain ⟨ih0, ih1, ih2⟩ := laws_FnExactTraceSystem.mono_l k
  unfold laws_FnExactTraceSystem.f
  repeat' first
      | (with_reducible exact ih0 _ _ _ _ _ _ _ _ _ _)
      | (with_reducible exact ih1 _ _ _ _ _ _ _ _)
      | (with_reducible exact ih2 _ _ _ _)
      | (with_reducible exact impl_TraceSystem.mono _ _ _)
      | (with_reducible exact laws_eqStringS.mono _ _ _)
      | (with_reducible exact laws_eqSystem.mono _ _ _ _ _)
      | (with_reducible exact laws_heldSystem.mono _ _ _ _)
      | (with_reducible exact laws_markStringS.mono _ _ _)
      | (with_reducible exact laws_markSystem.mono _ _ _ _)
      | (with_reducible exact laws_szStringS.mono _ _ _)
      | (with_reducible exact laws_toStringS.mono _ _)
      | (with_reducible exact spec_TraceSystem.mono _ _ _)
      | (with_reducible exact LeO.refl _)
      | (with_reducible exact LeO.none _)
      | (with_reducible refine LeO.ite ?_ ?_)
      | (with_reducible refine LeO.bind ?_ (fun _ => ?_))
      | exact ih0 _ _ _ _ _ _ _ _ _ _
      | exact ih1 _ _ _ _ _ _ _ _
      | exact ih2 _ _ _ _
      | exact impl_TraceSystem.mono _ _ _
      | exact laws_eqStringS.mono _ _ _
      | exact laws_eqSystem.mono _ _ _ _ _
      | exact laws_heldSystem.mono _ _ _ _
      | exact laws_markStringS.mono _ _ _
      | exact laws_markSystem.mono _ _ _ _
      | exact laws_szStringS.mono _ _ _
      | exact laws_toStringS.mono _ _
      | exact spec_TraceSystem.mono _ _ _
      | exact LeO.none _
      | refine LeO.ite ?_ ?_
      | refine LeO.bind ?_ (fun _ => ?_)
set_option maxHeartbeats 8000000 in
set_option maxRecDepth 100000 in
theorem laws_FnExactTraceSystem.calls (k : Nat) (a0 : Int) (A1 : Option Addr) (c1 : Nat) (l1 : List ByteArray) (r : Bool) (w : World) (hr1 : Kd.C Kd.string w A1 l1.length l1) (hc1 : l1.length ≤ c1) (h : laws_FnExactTraceSystem.f k a0 l1 = some r) :
    Calls Try.prog 6 #[.int .i64 a0, .slice A1 l1.length c1] w fun e w' => e = .returned (.bool r) ∧ Below w.heap.size w w' := by
  have hu35 := Try.underlying35
  have HR1 := Aside0.mk hr1
  have HC1 := Aside0.mk hc1
  clear hr1 hc1
  have HB := Aside0.mk (Below.refl w.heap.size w)
  have H : ((laws_szStringS.f k l1 1048576).bind fun t172 => (if t172 < 0 then (some true) else ((laws_toStringS.f k l1).bind fun t173 => ((spec_TraceSystem.f k a0 t173).bind fun bt176 => ((laws_toStringS.f k l1).bind fun t182 => ((impl_TraceSystem.f k a0 t182).bind fun bt185 => ((laws_eqSystem.f k bt185.1 bt185.2.1 bt176.1 bt176.2.1).bind fun t191 => (if t191 = true then (laws_FnExactTraceSystem.j0 k a0 l1 bt176.2.2 t182 bt185.2.2 (bt185.2.2 != bt176.2.2) bt176.1 bt176.2.1 bt185.1 bt185.2.1) else (laws_FnExactTraceSystem.j0 k a0 l1 bt176.2.2 t182 bt185.2.2 true bt176.1 bt176.2.1 bt185.1 bt185.2.1))))))))) = some r := h
  clear h
  replace H := Option.bind_eq_some_iff.mp H
  obtain ⟨t172, A30, H⟩ := H
  replace H : (if t172 < 0 then (some true) else ((laws_toStringS.f k l1).bind fun t173 => ((spec_TraceSystem.f k a0 t173).bind fun bt176 => ((laws_toStringS.f k l1).bind fun t182 => ((impl_TraceSystem.f k a0 t182).bind fun bt185 => ((laws_eqSystem.f k bt185.1 bt185.2.1 bt176.1 bt176.2.1).bind fun t191 => (if t191 = true then (laws_FnExactTraceSystem.j0 k a0 l1 bt176.2.2 t182 bt185.2.2 (bt185.2.2 != bt176.2.2) bt176.1 bt176.2.1 bt185.1 bt185.2.1) else (laws_FnExactTraceSystem.j0 k a0 l1 bt176.2.2 t182 bt185.2.2 true bt176.1 bt176.2.1 bt185.1 bt185.2.1)))))))) = some r := H
  have A3 := Aside0.mk A30
  clear A30
  by_cases c4 : t172 < 0
  · rw [if_pos c4] at H
    have c4b0 : decide (t172 < 0) = true := decide_eq_true c4
    clear c4
    obtain rfl := Option.some.inj H
    go_enter Try.func6, Try.ntmps6
    go_wp2_with (first | ((with_reducible refine gate_callee (f := 9) rfl ?_); refine goesL_ (some 18) rfl rfl Try.func9 (by kernel_rfl) rfl #[.slice A1 l1.length c1, .int .i64 1048576] rfl (by (try simp only [List.map_toArray, List.map_cons, List.map_nil]); first | done | rfl | (simp only [List.length_drop, List.length_take]; rfl) | (go_simp; (repeat' apply And.intro) <;> (simp only [IntKind.wrap_u8]; unfold wrap64; omega))) ?_; (with_reducible refine (laws_szStringS.calls k _ _ l1 1048576 t172 _ ?side1 ?side2 A3.out).mono ?_); (case side1 => repeat (first | exact HR1.out | (with_reducible refine Kd.C_alloc ?_ _) | (with_reducible refine Kd.C_drewN ?_ _) | (with_reducible refine Kd.C_drew ?_))); (case side2 => exact HC1.out); rintro e w' ⟨rfl, ⟨nd, rfl⟩⟩; refine ⟨_, rfl, ?_⟩))
    go_ret
    exact ⟨by first | rfl | (simp [errW_none, errW_some] <;> rfl) | (simp [*, errW_none, errW_some] <;> rfl), by repeat (first | (with_reducible first | exact HB.out | apply below_alloc | apply pw_below_drewN | apply below_drew1) | exact HB.out)⟩
  · rw [if_neg c4] at H
    have c4b0 : decide (t172 < 0) = false := decide_eq_false c4
    clear c4
    replace H := Option.bind_eq_some_iff.mp H
    obtain ⟨t173, A50, H⟩ := H
    replace H : ((spec_TraceSystem.f k a0 t173).bind fun bt176 => ((laws_toStringS.f k l1).bind fun t182 => ((impl_TraceSystem.f k a0 t182).bind fun bt185 => ((laws_eqSystem.f k bt185.1 bt185.2.1 bt176.1 bt176.2.1).bind fun t191 => (if t191 = true then (laws_FnExactTraceSystem.j0 k a0 l1 bt176.2.2 t182 bt185.2.2 (bt185.2.2 != bt176.2.2) bt176.1 bt176.2.1 bt185.1 bt185.2.1) else (laws_FnExactTraceSystem.j0 k a0 l1 bt176.2.2 t182 bt185.2.2 true bt176.1 bt176.2.1 bt185.1 bt185.2.1)))))) = some r := H
    have A5 := Aside0.mk A50
    clear A50
    replace H := Option.bind_eq_some_iff.mp H
    obtain ⟨⟨t176, t177, t180⟩, A60, H⟩ := H
    replace H : ((laws_toStringS.f k l1).bind fun t182 => ((impl_TraceSystem.f k a0 t182).bind fun bt185 => ((laws_eqSystem.f k bt185.1 bt185.2.1 t176 t177).bind fun t191 => (if t191 = true then (laws_FnExactTraceSystem.j0 k a0 l1 t180 t182 bt185.2.2 (bt185.2.2 != t180) t176 t177 bt185.1 bt185.2.1) else (laws_FnExactTraceSystem.j0 k a0 l1 t180 t182 bt185.2.2 true t176 t177 bt185.1 bt185.2.1))))) = some r := H
    have A6 := Aside0.mk A60
    clear A60
    replace H := Option.bind_eq_some_iff.mp H
    obtain ⟨t182, A70, H⟩ := H
    replace H : ((impl_TraceSystem.f k a0 t182).bind fun bt185 => ((laws_eqSystem.f k bt185.1 bt185.2.1 t176 t177).bind fun t191 => (if t191 = true then (laws_FnExactTraceSystem.j0 k a0 l1 t180 t182 bt185.2.2 (bt185.2.2 != t180) t176 t177 bt185.1 bt185.2.1) else (laws_FnExactTraceSystem.j0 k a0 l1 t180 t182 bt185.2.2 true t176 t177 bt185.1 bt185.2.1)))) = some r := H
    have A7 := Aside0.mk A70
    clear A70
    replace H := Option.bind_eq_some_iff.mp H
    obtain ⟨⟨t185, t186, t189⟩, A80, H⟩ := H
    replace H : ((laws_eqSystem.f k t185 t186 t176 t177).bind fun t191 => (if t191 = true then (laws_FnExactTraceSystem.j0 k a0 l1 t180 t182 t189 (t189 != t180) t176 t177 t185 t186) else (laws_FnExactTraceSystem.j0 k a0 l1 t180 t182 t189 true t176 t177 t185 t186))) = some r := H
    have A8 := Aside0.mk A80
    clear A80
    have HC9 := Aside0.mk H
    clear H
    go_enter Try.func6, Try.ntmps6
    go_upto_region 8 with (first | ((with_reducible refine gate_callee (f := 9) rfl ?_); refine goesL_ (some 18) rfl rfl Try.func9 (by kernel_rfl) rfl #[.slice A1 l1.length c1, .int .i64 1048576] rfl (by (try simp only [List.map_toArray, List.map_cons, List.map_nil]); first | done | rfl | (simp only [List.length_drop, List.length_take]; rfl) | (go_simp; (repeat' apply And.intro) <;> (simp only [IntKind.wrap_u8]; unfold wrap64; omega))) ?_; (with_reducible refine (laws_szStringS.calls k _ _ l1 1048576 t172 _ ?side1 ?side2 A3.out).mono ?_); (case side1 => repeat (first | exact HR1.out | (with_reducible refine Kd.C_alloc ?_ _) | (with_reducible refine Kd.C_drewN ?_ _) | (with_reducible refine Kd.C_drew ?_))); (case side2 => exact HC1.out); rintro e w' ⟨rfl, ⟨nd, rfl⟩⟩; refine ⟨_, rfl, ?_⟩) | ((with_reducible refine gate_callee (f := 11) rfl ?_); refine goesL_ (some 24) rfl rfl Try.func11 (by kernel_rfl) rfl #[.slice A1 l1.length c1] rfl (by (try simp only [List.map_toArray, List.map_cons, List.map_nil]); first | done | rfl | (simp only [List.length_drop, List.length_take]; rfl) | (go_simp; (repeat' apply And.intro) <;> (simp only [IntKind.wrap_u8]; unfold wrap64; omega))) ?_; (with_reducible refine (laws_toStringS.calls k _ _ l1 t173 _ ?side1 ?side2 A5.out).mono ?_); (case side1 => repeat (first | exact HR1.out | (with_reducible refine Kd.C_alloc ?_ _) | (with_reducible refine Kd.C_drewN ?_ _) | (with_reducible refine Kd.C_drew ?_))); (case side2 => exact HC1.out); rintro e w10 ⟨v174, rfl, ho0, hb⟩; refine ⟨_, rfl, ?_⟩; have n0_ := Aside0.mk (Kd.R_lower ho0 (below_size (by repeat (first | (with_reducible first | exact HB.out | apply below_alloc | apply pw_below_drewN | apply below_drew1) | exact HB.out)))); have n1_ := Aside0.mk (below_step (by repeat (first | (with_reducible first | exact HB.out | apply below_alloc | apply pw_below_drewN | apply below_drew1) | exact HB.out)) hb); clear HB; have HO175 := n0_; have HB := n1_; clear n0_ n1_; (try clear hb); (try clear hb2); (try clear hk); (try clear hi); (try clear ho0); obtain ⟨Ao11, co11, eo11⟩ := Kd.R_slice HO175.out; subst eo11) | ((with_reducible refine gate_callee (f := 20) rfl ?_); refine goesL_ (some 25) rfl rfl Try.func20 (by kernel_rfl) rfl #[.int .i64 a0, .slice Ao11 t173.length co11] rfl (by (try simp only [List.map_toArray, List.map_cons, List.map_nil]); first | done | rfl | (simp only [List.length_drop, List.length_take]; rfl) | (go_simp; (repeat' apply And.intro) <;> (simp only [IntKind.wrap_u8]; unfold wrap64; omega))) ?_; (with_reducible refine (spec_TraceSystem.calls k a0 _ _ t173 t176 t177 t180 _ ?side1 ?side2 A6.out).mono ?_); (case side1 => repeat (first | exact (Kd.R_reads' HO175.out).2.2 | (with_reducible refine Kd.C_alloc ?_ _) | (with_reducible refine Kd.C_drewN ?_ _) | (with_reducible refine Kd.C_drew ?_))); (case side2 => exact (Kd.R_reads' HO175.out).2.1); rintro e w12 ⟨v178, rfl, ho0, hb⟩; refine ⟨_, rfl, ?_⟩; have n0_ := Aside0.mk (Kd.R_below (by (with_reducible repeat (first | apply Kd.R_alloc | apply Kd.R_drewN | apply Kd.R_drew)); exact HO175.out) hb); have n1_ := Aside0.mk (Kd.R_lower ho0 (below_size (by repeat (first | (with_reducible first | exact HB.out | apply below_alloc | apply pw_below_drewN | apply below_drew1) | exact HB.out)))); have n2_ := Aside0.mk (below_step (by repeat (first | (with_reducible first | exact HB.out | apply below_alloc | apply pw_below_drewN | apply below_drew1) | exact HB.out)) hb); clear HO175; clear HB; have HO175 := n0_; have HO179 := n1_; have HB := n2_; clear n0_ n1_ n2_; (try clear hb); (try clear hb2); (try clear hk); (try clear hi); (try clear ho0)) | ((with_reducible refine gate_dst (N := 6) rfl ?_); refine box_event ?hg (N := 6) ?hd (cs := #[.int .i64 0, .slice none 0 0]) (t := 35) ?hr ?_; (case hd => rfl); (case hg => rfl); (case hr => first | (go_simp; done) | (go_simp; rfl)); intro gb181 hg w13 hbox hb; have n0_ := Aside0.mk (Kd.R_below (by (with_reducible repeat (first | apply Kd.R_alloc | apply Kd.R_drewN | apply Kd.R_drew)); exact HO175.out) hb); have n1_ := Aside0.mk (Kd.R_below (by (with_reducible repeat (first | apply Kd.R_alloc | apply Kd.R_drewN | apply Kd.R_drew)); exact HO179.out) hb); have n2_ := Aside0.mk (below_step (by repeat (first | (with_reducible first | exact HB.out | apply below_alloc | apply pw_below_drewN | apply below_drew1) | exact HB.out)) hb); have n3_ := Aside0.mk (hbox); have n4_ := Aside0.mk ((by rw [hg]; exact (below_size (by repeat (first | (with_reducible first | exact HB.out | apply below_alloc | apply pw_below_drewN | apply below_drew1) | exact HB.out))) : w.heap.size ≤ gb181)); have n5_ := Aside0.mk ((by rw [hg]; exact (below_size (by repeat (first | (with_reducible first | exact HB.out | apply below_alloc | apply pw_below_drewN | apply below_drew1) | exact HB.out))) : w.heap.size ≤ gb181)); clear HO175; clear HO179; clear HB; have HO175 := n0_; have HO179 := n1_; have HB := n2_; have BK181 := n3_; have GW181 := n4_; have GE181 := n5_; clear n0_ n1_ n2_ n3_ n4_ n5_; clear hb hbox hg; have hcz14_0 : w13.cell? ⟨gb181, 0, none⟩ = some (.int .i64 0) := (blk_cell BK181.out 0).trans rfl; have hcz14_1 : w13.cell? ⟨gb181, 1, none⟩ = some (.slice none 0 0) := (blk_cell BK181.out 1).trans rfl; have hfz14_0 := blk_frozen BK181.out 0; have hfz14_1 := blk_frozen BK181.out 1; obtain ⟨Ao15, co15, eo15⟩ := Kd.R_slice HO179.out; subst eo15) | ((with_reducible refine gate_callee (f := 11) rfl ?_); refine goesL_ (some 29) rfl rfl Try.func11 (by kernel_rfl) rfl #[.slice A1 l1.length c1] rfl (by (try simp only [List.map_toArray, List.map_cons, List.map_nil]); first | done | rfl | (simp only [List.length_drop, List.length_take]; rfl) | (go_simp; (repeat' apply And.intro) <;> (simp only [IntKind.wrap_u8]; unfold wrap64; omega))) ?_; (with_reducible refine (laws_toStringS.calls k _ _ l1 t182 _ ?side1 ?side2 A7.out).mono ?_); (case side1 => exact Kd.C_below HR1.out (by repeat (first | (with_reducible first | exact HB.out | apply below_alloc | apply pw_below_drewN | apply below_drew1 | refine below_set ?_ GE181.out) | exact HB.out))); (case side2 => exact HC1.out); rintro e w16 ⟨v183, rfl, ho0, hb⟩; refine ⟨_, rfl, ?_⟩; have n0_ := Aside0.mk (Kd.R_elder' (by (with_reducible repeat (first | apply Kd.R_alloc | apply Kd.R_drewN | apply Kd.R_drew)); exact (Kd.R_mono (Kd.R_far (p := ⟨gb181, 1, none⟩) (Kd.R_far (p := ⟨gb181, 0, none⟩) (Kd.R_types HO175.out BK181.out (by decide)) (fun _ hk => hk.2) (.int .i64 t176)) (fun _ hk => hk.2) (.slice Ao15 t177.length co15)) (fun _ h_ => h_.1))) (Kd.R_base ho0) hb); have n1_ := Aside0.mk (Kd.R_below (by (with_reducible repeat (first | apply Kd.R_alloc | apply Kd.R_drewN | apply Kd.R_drew)); exact (Kd.R_mono (Kd.R_far (p := ⟨gb181, 1, none⟩) (Kd.R_far (p := ⟨gb181, 0, none⟩) (Kd.R_types HO179.out BK181.out (by decide)) (fun _ hk => hk.2) (.int .i64 t176)) (fun _ hk => hk.2) (.slice Ao15 t177.length co15)) (fun _ h_ => h_.1))) hb); have n2_ := Aside0.mk (Kd.R_lower (Kd.R_new' ho0 (Kd.R_lt (by (with_reducible repeat (first | apply Kd.R_alloc | apply Kd.R_drewN | apply Kd.R_drew)); exact (Kd.R_mono (Kd.R_far (p := ⟨gb181, 1, none⟩) (Kd.R_far (p := ⟨gb181, 0, none⟩) (Kd.R_types HO175.out BK181.out (by decide)) (fun _ hk => hk.2) (.int .i64 t176)) (fun _ hk => hk.2) (.slice Ao15 t177.length co15)) (fun _ h_ => h_.1))))) (below_size (by repeat (first | (with_reducible first | exact HB.out | apply below_alloc | apply pw_below_drewN | apply below_drew1 | refine below_set ?_ GE181.out) | exact HB.out)))); have n3_ := Aside0.mk (blk_below (g := gb181) (o := .cells #[.int .i64 t176, .slice Ao15 t177.length co15] 35 (0, 0)) (by (with_reducible repeat (first | refine blk_drewN ?_ _ | refine blk_drew ?_ | refine blk_alloc ?_ _)); refine blk_put (cs := #[.int .i64 t176, .slice none 0 0]) ?_ 1 _ rfl; (with_reducible repeat (first | refine blk_drewN ?_ _ | refine blk_drew ?_ | refine blk_alloc ?_ _)); refine blk_put (cs := #[.int .i64 0, .slice none 0 0]) ?_ 0 _ rfl; (with_reducible repeat (first | refine blk_drewN ?_ _ | refine blk_drew ?_ | refine blk_alloc ?_ _)); exact BK181.out) hb); have n4_ := Aside0.mk (below_step (by repeat (first | (with_reducible first | exact HB.out | apply below_alloc | apply pw_below_drewN | apply below_drew1 | refine below_set ?_ GE181.out) | exact HB.out)) hb); clear HO175; clear HO179; clear BK181; clear HB; have HO175 := n0_; have HO179 := n1_; have HO184 := n2_; have BK181 := n3_; have HB := n4_; clear n0_ n1_ n2_ n3_ n4_; (try clear hb); (try clear hb2); (try clear hk); (try clear hi); (try clear ho0); obtain ⟨Ao17, co17, eo17⟩ := Kd.R_slice HO184.out; subst eo17) | ((with_reducible refine gate_callee (f := 21) rfl ?_); refine goesL_ (some 33) rfl rfl Try.func21 (by kernel_rfl) rfl #[.int .i64 a0, .slice Ao17 t182.length co17] rfl (by (try simp only [List.map_toArray, List.map_cons, List.map_nil]); first | done | rfl | (simp only [List.length_drop, List.length_take]; rfl) | (go_simp; (repeat' apply And.intro) <;> (simp only [IntKind.wrap_u8]; unfold wrap64; omega))) ?_; (with_reducible refine (impl_TraceSystem.calls k a0 _ _ t182 t185 t186 t189 _ ?side1 ?side2 A8.out).mono ?_); (case side1 => repeat (first | exact (Kd.R_reads' HO184.out).2.2 | (with_reducible refine Kd.C_alloc ?_ _) | (with_reducible refine Kd.C_drewN ?_ _) | (with_reducible refine Kd.C_drew ?_))); (case side2 => exact (Kd.R_reads' HO184.out).2.1); rintro e w18 ⟨v187, rfl, ho0, hb⟩; refine ⟨_, rfl, ?_⟩; have n0_ := Aside0.mk (Kd.R_below (by (with_reducible repeat (first | apply Kd.R_alloc | apply Kd.R_drewN | apply Kd.R_drew)); exact HO175.out) hb); have n1_ := Aside0.mk (Kd.R_elder' (by (with_reducible repeat (first | apply Kd.R_alloc | apply Kd.R_drewN | apply Kd.R_drew)); exact HO179.out) (Kd.R_base ho0) hb); have n2_ := Aside0.mk (Kd.R_below (by (with_reducible repeat (first | apply Kd.R_alloc | apply Kd.R_drewN | apply Kd.R_drew)); exact HO184.out) hb); have n3_ := Aside0.mk (Kd.R_lower (Kd.R_new' ho0 (Kd.R_lt (by (with_reducible repeat (first | apply Kd.R_alloc | apply Kd.R_drewN | apply Kd.R_drew)); exact HO179.out))) (below_size (by repeat (first | (with_reducible first | exact HB.out | apply below_alloc | apply pw_below_drewN | apply below_drew1 | refine below_set ?_ GE181.out) | exact HB.out)))); have n4_ := Aside0.mk (blk_below (g := gb181) (o := .cells #[.int .i64 t176, .slice Ao15 t177.length co15] 35 (0, 0)) (by (with_reducible repeat (first | refine blk_drewN ?_ _ | refine blk_drew ?_ | refine blk_alloc ?_ _)); exact BK181.out) hb); have n5_ := Aside0.mk (below_step (by repeat (first | (with_reducible first | exact HB.out | apply below_alloc | apply pw_below_drewN | apply below_drew1 | refine below_set ?_ GE181.out) | exact HB.out)) hb); clear HO175; clear HO179; clear HO184; clear BK181; clear HB; have HO175 := n0_; have HO179 := n1_; have HO184 := n2_; have HO188 := n3_; have BK181 := n4_; have HB := n5_; clear n0_ n1_ n2_ n3_ n4_ n5_; (try clear hb); (try clear hb2); (try clear hk); (try clear hi); (try clear ho0)) | ((with_reducible refine gate_dst (N := 9) rfl ?_); refine box_event ?hg (N := 9) ?hd (cs := #[.int .i64 0, .slice none 0 0]) (t := 35) ?hr ?_; (case hd => rfl); (case hg => rfl); (case hr => first | (go_simp; done) | (go_simp; rfl)); intro gb190 hg w19 hbox hb; have n0_ := Aside0.mk (Kd.R_below (by (with_reducible repeat (first | apply Kd.R_alloc | apply Kd.R_drewN | apply Kd.R_drew)); exact HO175.out) hb); have n1_ := Aside0.mk (Kd.R_below (by (with_reducible repeat (first | apply Kd.R_alloc | apply Kd.R_drewN | apply Kd.R_drew)); exact HO179.out) hb); have n2_ := Aside0.mk (Kd.R_below (by (with_reducible repeat (first | apply Kd.R_alloc | apply Kd.R_drewN | apply Kd.R_drew)); exact HO184.out) hb); have n3_ := Aside0.mk (Kd.R_below (by (with_reducible repeat (first | apply Kd.R_alloc | apply Kd.R_drewN | apply Kd.R_drew)); exact HO188.out) hb); have n4_ := Aside0.mk (blk_below (g := gb181) (o := .cells #[.int .i64 t176, .slice Ao15 t177.length co15] 35 (0, 0)) (by (with_reducible repeat (first | refine blk_drewN ?_ _ | refine blk_drew ?_ | refine blk_alloc ?_ _)); exact BK181.out) hb); have n5_ := Aside0.mk (below_step (by repeat (first | (with_reducible first | exact HB.out | apply below_alloc | apply pw_below_drewN | apply below_drew1 | refine below_set ?_ GE181.out) | exact HB.out)) hb); have n6_ := Aside0.mk (hbox); have n7_ := Aside0.mk ((by rw [hg]; exact (below_size (by repeat (first | (with_reducible first | exact HB.out | apply below_alloc | apply pw_below_drewN | apply below_drew1 | refine below_set ?_ GE181.out) | exact HB.out))) : w.heap.size ≤ gb190)); have n8_ := Aside0.mk ((by rw [hg]; exact (below_size (by repeat (first | (with_reducible first | exact HB.out | apply below_alloc | apply pw_below_drewN | apply below_drew1 | refine below_set ?_ GE181.out) | exact HB.out))) : w.heap.size ≤ gb190)); have n9_ := Aside0.mk ((by rw [hg]; exact Nat.ne_of_lt (blk_lt (g := gb181) (o := .cells #[.int .i64 t176, .slice Ao15 t177.length co15] 35 (0, 0)) (by (with_reducible repeat (first | refine blk_drewN ?_ _ | refine blk_drew ?_ | refine blk_alloc ?_ _)); exact BK181.out)) : gb181 ≠ gb190)); have n10_ := Aside0.mk ((by rw [hg]; exact Nat.ne_of_gt (blk_lt (g := gb181) (o := .cells #[.int .i64 t176, .slice Ao15 t177.length co15] 35 (0, 0)) (by (with_reducible repeat (first | refine blk_drewN ?_ _ | refine blk_drew ?_ | refine blk_alloc ?_ _)); exact BK181.out)) : gb190 ≠ gb181)); clear HO175; clear HO179; clear HO184; clear HO188; clear BK181; clear HB; have HO175 := n0_; have HO179 := n1_; have HO184 := n2_; have HO188 := n3_; have BK181 := n4_; have HB := n5_; have BK190 := n6_; have GW190 := n7_; have GE190 := n8_; have NB181_190 := n9_; have NB190_181 := n10_; clear n0_ n1_ n2_ n3_ n4_ n5_ n6_ n7_ n8_ n9_ n10_; clear hb hbox hg; have hnb20 := NB190_181.out; have hnc20 := NB181_190.out; have hcz21_0 : w19.cell? ⟨gb190, 0, none⟩ = some (.int .i64 0) := (blk_cell BK190.out 0).trans rfl; have hcz21_1 : w19.cell? ⟨gb190, 1, none⟩ = some (.slice none 0 0) := (blk_cell BK190.out 1).trans rfl; have hfz21_0 := blk_frozen BK190.out 0; have hfz21_1 := blk_frozen BK190.out 1; obtain ⟨Ao22, co22, eo22⟩ := Kd.R_slice HO188.out; subst eo22))
    (try simp only [Act.put, List.setIfInBounds_toArray, List.set_cons_zero, List.set_cons_succ])
    go_cut [44] (fun v44 wc => ∃ (kq : Nat) (x44_8 : Bool), v44 = .bool x44_8 ∧ Aside0 (laws_FnExactTraceSystem.j0 kq a0 l1 t180 t182 t189 x44_8 t176 t177 t185 t186 = some r) ∧ Aside0 (kq ≤ k) ∧ Aside0 (Kd.R Kd.string 9 wc w.heap.size (fun _ => True) (.slice Ao17 t182.length co17) t182) ∧ Aside0 (Kd.R k55 55 wc w.heap.size (fun k_ => some k_ ≠ ((.slice Ao22 t186.length co22) : Value).ownBlock) (.slice Ao15 t177.length co15) t177) ∧ Aside0 (Kd.R k55 55 wc w.heap.size (fun k_ => some k_ ≠ ((.slice Ao15 t177.length co15) : Value).ownBlock) (.slice Ao22 t186.length co22) t186) ∧ Aside0 (wc.heap[gb181]? = some (.cells #[.int .i64 t176, (.slice Ao15 t177.length co15)] 35 (0, 0))) ∧ Aside0 (wc.heap[gb190]? = some (.cells #[.int .i64 t185, (.slice Ao22 t186.length co22)] 35 (0, 0))) ∧ Aside0 (Below w.heap.size w wc))
    case first =>
      have H := HC9.out
      clear HC9
      replace H := Option.bind_eq_some_iff.mp H
      obtain ⟨t191, A230, H⟩ := H
      replace H : (if t191 = true then (laws_FnExactTraceSystem.j0 k a0 l1 t180 t182 t189 (t189 != t180) t176 t177 t185 t186) else (laws_FnExactTraceSystem.j0 k a0 l1 t180 t182 t189 true t176 t177 t185 t186)) = some r := H
      have A23 := Aside0.mk A230
      clear A230
      by_cases c24 : t191 = true
      · subst c24
        have H1 : (laws_FnExactTraceSystem.j0 k a0 l1 t180 t182 t189 (t189 != t180) t176 t177 t185 t186) = some r := by rw [if_pos rfl] at H; exact H
        clear H
        have H := H1
        clear H1
        have H' := Aside0.mk H
        clear H
        have hnb25 := NB190_181.out
        have hnc25 := NB181_190.out
        have hcz26_0 : w19.cell? ⟨gb190, 0, none⟩ = some (.int .i64 0) := (blk_cell BK190.out 0).trans rfl
        have hcz26_1 : w19.cell? ⟨gb190, 1, none⟩ = some (.slice none 0 0) := (blk_cell BK190.out 1).trans rfl
        have hfz26_0 := blk_frozen BK190.out 0
        have hfz26_1 := blk_frozen BK190.out 1
        have hcz27_0 : w19.cell? ⟨gb181, 0, none⟩ = some (.int .i64 t176) := (blk_cell BK181.out 0).trans rfl
        have hcz27_1 : w19.cell? ⟨gb181, 1, none⟩ = some (.slice Ao15 t177.length co15) := (blk_cell BK181.out 1).trans rfl
        have hfz27_0 := blk_frozen BK181.out 0
        have hfz27_1 := blk_frozen BK181.out 1
        go_wp2_with (first | ((with_reducible refine gate_callee (f := 22) rfl ?_); refine goesL_ (some 38) rfl rfl Try.func22 (by kernel_rfl) rfl #[.agg #[.int .i64 t185, .slice Ao22 t186.length co22], .agg #[.int .i64 t176, .slice Ao15 t177.length co15]] rfl (by (try simp only [List.map_toArray, List.map_cons, List.map_nil]); first | done | rfl | (simp only [List.length_drop, List.length_take]; rfl) | (go_simp; (repeat' apply And.intro) <;> (simp only [IntKind.wrap_u8]; unfold wrap64; omega))) ?_; (with_reducible refine (laws_eqSystem.calls k t185 _ _ t186 t176 _ _ t177 true _ ?side1 ?side2 ?side3 ?side4 A23.out).mono ?_); (case side1 => refine (Kd.R_reads' (e := 55) (base := w.heap.size) (ok := fun k_ => (True ∧ some k_ ≠ (.slice Ao15 t177.length co15 : Value).ownBlock)) (n := t186.length) (c := co22) ?_).2.2; exact (by (with_reducible repeat (first | apply Kd.R_alloc | apply Kd.R_drewN | apply Kd.R_drew)); exact (Kd.R_mono (Kd.R_far (p := ⟨gb190, 1, none⟩) (Kd.R_far (p := ⟨gb190, 0, none⟩) (Kd.R_types HO188.out BK190.out (by decide)) (fun _ hk => hk.2) (.int .i64 t185)) (fun _ hk => hk.2) (.slice Ao22 t186.length co22)) (fun _ h_ => h_.1)))); (case side2 => exact (Kd.R_reads' HO188.out).2.1); (case side3 => refine (Kd.R_reads' (e := 55) (base := w.heap.size) (ok := fun k_ => (True ∧ some k_ ≠ (.slice Ao22 t186.length co22 : Value).ownBlock)) (n := t177.length) (c := co15) ?_).2.2; exact (by (with_reducible repeat (first | apply Kd.R_alloc | apply Kd.R_drewN | apply Kd.R_drew)); exact (Kd.R_mono (Kd.R_far (p := ⟨gb190, 1, none⟩) (Kd.R_far (p := ⟨gb190, 0, none⟩) (Kd.R_types HO179.out BK190.out (by decide)) (fun _ hk => hk.2) (.int .i64 t185)) (fun _ hk => hk.2) (.slice Ao22 t186.length co22)) (fun _ h_ => h_.1)))); (case side4 => exact (Kd.R_reads' HO179.out).2.1); rintro e w28 ⟨rfl, hb⟩; refine ⟨_, rfl, ?_⟩; have n0_ := Aside0.mk (Kd.R_below (by (with_reducible repeat (first | apply Kd.R_alloc | apply Kd.R_drewN | apply Kd.R_drew)); exact (Kd.R_mono (Kd.R_far (p := ⟨gb190, 1, none⟩) (Kd.R_far (p := ⟨gb190, 0, none⟩) (Kd.R_types HO175.out BK190.out (by decide)) (fun _ hk => hk.2) (.int .i64 t185)) (fun _ hk => hk.2) (.slice Ao22 t186.length co22)) (fun _ h_ => h_.1))) hb); have n1_ := Aside0.mk (Kd.R_below (by (with_reducible repeat (first | apply Kd.R_alloc | apply Kd.R_drewN | apply Kd.R_drew)); exact (Kd.R_mono (Kd.R_far (p := ⟨gb190, 1, none⟩) (Kd.R_far (p := ⟨gb190, 0, none⟩) (Kd.R_types HO179.out BK190.out (by decide)) (fun _ hk => hk.2) (.int .i64 t185)) (fun _ hk => hk.2) (.slice Ao22 t186.length co22)) (fun _ h_ => h_.1))) hb); have n2_ := Aside0.mk (Kd.R_below (by (with_reducible repeat (first | apply Kd.R_alloc | apply Kd.R_drewN | apply Kd.R_drew)); exact (Kd.R_mono (Kd.R_far (p := ⟨gb190, 1, none⟩) (Kd.R_far (p := ⟨gb190, 0, none⟩) (Kd.R_types HO184.out BK190.out (by decide)) (fun _ hk => hk.2) (.int .i64 t185)) (fun _ hk => hk.2) (.slice Ao22 t186.length co22)) (fun _ h_ => h_.1))) hb); have n3_ := Aside0.mk (Kd.R_below (by (with_reducible repeat (first | apply Kd.R_alloc | apply Kd.R_drewN | apply Kd.R_drew)); exact (Kd.R_mono (Kd.R_far (p := ⟨gb190, 1, none⟩) (Kd.R_far (p := ⟨gb190, 0, none⟩) (Kd.R_types HO188.out BK190.out (by decide)) (fun _ hk => hk.2) (.int .i64 t185)) (fun _ hk => hk.2) (.slice Ao22 t186.length co22)) (fun _ h_ => h_.1))) hb); have n4_ := Aside0.mk (blk_below (g := gb181) (o := .cells #[.int .i64 t176, .slice Ao15 t177.length co15] 35 (0, 0)) (by (with_reducible repeat (first | refine blk_drewN ?_ _ | refine blk_drew ?_ | refine blk_alloc ?_ _)); refine blk_far ?_ NB181_190.out _; (with_reducible repeat (first | refine blk_drewN ?_ _ | refine blk_drew ?_ | refine blk_alloc ?_ _)); refine blk_far ?_ NB181_190.out _; (with_reducible repeat (first | refine blk_drewN ?_ _ | refine blk_drew ?_ | refine blk_alloc ?_ _)); exact BK181.out) hb); have n5_ := Aside0.mk (blk_below (g := gb190) (o := .cells #[.int .i64 t185, .slice Ao22 t186.length co22] 35 (0, 0)) (by (with_reducible repeat (first | refine blk_drewN ?_ _ | refine blk_drew ?_ | refine blk_alloc ?_ _)); refine blk_put (cs := #[.int .i64 t185, .slice none 0 0]) ?_ 1 _ rfl; (with_reducible repeat (first | refine blk_drewN ?_ _ | refine blk_drew ?_ | refine blk_alloc ?_ _)); refine blk_put (cs := #[.int .i64 0, .slice none 0 0]) ?_ 0 _ rfl; (with_reducible repeat (first | refine blk_drewN ?_ _ | refine blk_drew ?_ | refine blk_alloc ?_ _)); exact BK190.out) hb); have n6_ := Aside0.mk (below_step (by repeat (first | (with_reducible first | exact HB.out | apply below_alloc | apply pw_below_drewN | apply below_drew1 | refine below_set ?_ GE181.out | refine below_set ?_ GE190.out) | exact HB.out)) hb); clear HO175; clear HO179; clear HO184; clear HO188; clear BK181; clear BK190; clear HB; have HO175 := n0_; have HO179 := n1_; have HO184 := n2_; have HO188 := n3_; have BK181 := n4_; have BK190 := n5_; have HB := n6_; clear n0_ n1_ n2_ n3_ n4_ n5_ n6_; (try clear hb); (try clear hb2); (try clear hk); (try clear hi)))
        go_meet
        case rel => exact ⟨_, ((t189 != t180)), (by first | rfl | (simp; done) | (simp [*]; done)), H', ⟨by first | omega | exact Nat.le_refl _⟩, ⟨by (with_reducible repeat (first | apply Kd.R_alloc | apply Kd.R_drewN | apply Kd.R_drew)); exact Kd.R_mono HO184.out (fun _ hk => trivial)⟩, ⟨by (with_reducible repeat (first | apply Kd.R_alloc | apply Kd.R_drewN | apply Kd.R_drew)); exact Kd.R_mono HO179.out (fun _ hk => hk.2)⟩, ⟨by (with_reducible repeat (first | apply Kd.R_alloc | apply Kd.R_drewN | apply Kd.R_drew)); exact Kd.R_mono HO188.out (fun _ hk => hk.2)⟩, ⟨by (with_reducible repeat (first | refine blk_drewN ?_ _ | refine blk_drew ?_ | refine blk_alloc ?_ _)); exact BK181.out⟩, ⟨by (with_reducible repeat (first | refine blk_drewN ?_ _ | refine blk_drew ?_ | refine blk_alloc ?_ _)); exact BK190.out⟩, ⟨by repeat (first | (with_reducible first | exact HB.out | apply below_alloc | apply pw_below_drewN | apply below_drew1 | refine below_set ?_ GE181.out | refine below_set ?_ GE190.out) | exact HB.out)⟩⟩
      · replace c24 := Bool.eq_false_iff.mpr c24
        subst c24
        have H1 : (laws_FnExactTraceSystem.j0 k a0 l1 t180 t182 t189 true t176 t177 t185 t186) = some r := by rw [if_neg (show ¬ (false = true) by decide)] at H; exact H
        clear H
        have H := H1
        clear H1
        have H' := Aside0.mk H
        clear H
        have hnb29 := NB190_181.out
        have hnc29 := NB181_190.out
        have hcz30_0 : w19.cell? ⟨gb190, 0, none⟩ = some (.int .i64 0) := (blk_cell BK190.out 0).trans rfl
        have hcz30_1 : w19.cell? ⟨gb190, 1, none⟩ = some (.slice none 0 0) := (blk_cell BK190.out 1).trans rfl
        have hfz30_0 := blk_frozen BK190.out 0
        have hfz30_1 := blk_frozen BK190.out 1
        have hcz31_0 : w19.cell? ⟨gb181, 0, none⟩ = some (.int .i64 t176) := (blk_cell BK181.out 0).trans rfl
        have hcz31_1 : w19.cell? ⟨gb181, 1, none⟩ = some (.slice Ao15 t177.length co15) := (blk_cell BK181.out 1).trans rfl
        have hfz31_0 := blk_frozen BK181.out 0
        have hfz31_1 := blk_frozen BK181.out 1
        go_wp2_with (first | ((with_reducible refine gate_callee (f := 22) rfl ?_); refine goesL_ (some 38) rfl rfl Try.func22 (by kernel_rfl) rfl #[.agg #[.int .i64 t185, .slice Ao22 t186.length co22], .agg #[.int .i64 t176, .slice Ao15 t177.length co15]] rfl (by (try simp only [List.map_toArray, List.map_cons, List.map_nil]); first | done | rfl | (simp only [List.length_drop, List.length_take]; rfl) | (go_simp; (repeat' apply And.intro) <;> (simp only [IntKind.wrap_u8]; unfold wrap64; omega))) ?_; (with_reducible refine (laws_eqSystem.calls k t185 _ _ t186 t176 _ _ t177 false _ ?side1 ?side2 ?side3 ?side4 A23.out).mono ?_); (case side1 => refine (Kd.R_reads' (e := 55) (base := w.heap.size) (ok := fun k_ => (True ∧ some k_ ≠ (.slice Ao15 t177.length co15 : Value).ownBlock)) (n := t186.length) (c := co22) ?_).2.2; exact (by (with_reducible repeat (first | apply Kd.R_alloc | apply Kd.R_drewN | apply Kd.R_drew)); exact (Kd.R_mono (Kd.R_far (p := ⟨gb190, 1, none⟩) (Kd.R_far (p := ⟨gb190, 0, none⟩) (Kd.R_types HO188.out BK190.out (by decide)) (fun _ hk => hk.2) (.int .i64 t185)) (fun _ hk => hk.2) (.slice Ao22 t186.length co22)) (fun _ h_ => h_.1)))); (case side2 => exact (Kd.R_reads' HO188.out).2.1); (case side3 => refine (Kd.R_reads' (e := 55) (base := w.heap.size) (ok := fun k_ => (True ∧ some k_ ≠ (.slice Ao22 t186.length co22 : Value).ownBlock)) (n := t177.length) (c := co15) ?_).2.2; exact (by (with_reducible repeat (first | apply Kd.R_alloc | apply Kd.R_drewN | apply Kd.R_drew)); exact (Kd.R_mono (Kd.R_far (p := ⟨gb190, 1, none⟩) (Kd.R_far (p := ⟨gb190, 0, none⟩) (Kd.R_types HO179.out BK190.out (by decide)) (fun _ hk => hk.2) (.int .i64 t185)) (fun _ hk => hk.2) (.slice Ao22 t186.length co22)) (fun _ h_ => h_.1)))); (case side4 => exact (Kd.R_reads' HO179.out).2.1); rintro e w32 ⟨rfl, hb⟩; refine ⟨_, rfl, ?_⟩; have n0_ := Aside0.mk (Kd.R_below (by (with_reducible repeat (first | apply Kd.R_alloc | apply Kd.R_drewN | apply Kd.R_drew)); exact (Kd.R_mono (Kd.R_far (p := ⟨gb190, 1, none⟩) (Kd.R_far (p := ⟨gb190, 0, none⟩) (Kd.R_types HO175.out BK190.out (by decide)) (fun _ hk => hk.2) (.int .i64 t185)) (fun _ hk => hk.2) (.slice Ao22 t186.length co22)) (fun _ h_ => h_.1))) hb); have n1_ := Aside0.mk (Kd.R_below (by (with_reducible repeat (first | apply Kd.R_alloc | apply Kd.R_drewN | apply Kd.R_drew)); exact (Kd.R_mono (Kd.R_far (p := ⟨gb190, 1, none⟩) (Kd.R_far (p := ⟨gb190, 0, none⟩) (Kd.R_types HO179.out BK190.out (by decide)) (fun _ hk => hk.2) (.int .i64 t185)) (fun _ hk => hk.2) (.slice Ao22 t186.length co22)) (fun _ h_ => h_.1))) hb); have n2_ := Aside0.mk (Kd.R_below (by (with_reducible repeat (first | apply Kd.R_alloc | apply Kd.R_drewN | apply Kd.R_drew)); exact (Kd.R_mono (Kd.R_far (p := ⟨gb190, 1, none⟩) (Kd.R_far (p := ⟨gb190, 0, none⟩) (Kd.R_types HO184.out BK190.out (by decide)) (fun _ hk => hk.2) (.int .i64 t185)) (fun _ hk => hk.2) (.slice Ao22 t186.length co22)) (fun _ h_ => h_.1))) hb); have n3_ := Aside0.mk (Kd.R_below (by (with_reducible repeat (first | apply Kd.R_alloc | apply Kd.R_drewN | apply Kd.R_drew)); exact (Kd.R_mono (Kd.R_far (p := ⟨gb190, 1, none⟩) (Kd.R_far (p := ⟨gb190, 0, none⟩) (Kd.R_types HO188.out BK190.out (by decide)) (fun _ hk => hk.2) (.int .i64 t185)) (fun _ hk => hk.2) (.slice Ao22 t186.length co22)) (fun _ h_ => h_.1))) hb); have n4_ := Aside0.mk (blk_below (g := gb181) (o := .cells #[.int .i64 t176, .slice Ao15 t177.length co15] 35 (0, 0)) (by (with_reducible repeat (first | refine blk_drewN ?_ _ | refine blk_drew ?_ | refine blk_alloc ?_ _)); refine blk_far ?_ NB181_190.out _; (with_reducible repeat (first | refine blk_drewN ?_ _ | refine blk_drew ?_ | refine blk_alloc ?_ _)); refine blk_far ?_ NB181_190.out _; (with_reducible repeat (first | refine blk_drewN ?_ _ | refine blk_drew ?_ | refine blk_alloc ?_ _)); exact BK181.out) hb); have n5_ := Aside0.mk (blk_below (g := gb190) (o := .cells #[.int .i64 t185, .slice Ao22 t186.length co22] 35 (0, 0)) (by (with_reducible repeat (first | refine blk_drewN ?_ _ | refine blk_drew ?_ | refine blk_alloc ?_ _)); refine blk_put (cs := #[.int .i64 t185, .slice none 0 0]) ?_ 1 _ rfl; (with_reducible repeat (first | refine blk_drewN ?_ _ | refine blk_drew ?_ | refine blk_alloc ?_ _)); refine blk_put (cs := #[.int .i64 0, .slice none 0 0]) ?_ 0 _ rfl; (with_reducible repeat (first | refine blk_drewN ?_ _ | refine blk_drew ?_ | refine blk_alloc ?_ _)); exact BK190.out) hb); have n6_ := Aside0.mk (below_step (by repeat (first | (with_reducible first | exact HB.out | apply below_alloc | apply pw_below_drewN | apply below_drew1 | refine below_set ?_ GE181.out | refine below_set ?_ GE190.out) | exact HB.out)) hb); clear HO175; clear HO179; clear HO184; clear HO188; clear BK181; clear BK190; clear HB; have HO175 := n0_; have HO179 := n1_; have HO184 := n2_; have HO188 := n3_; have BK181 := n4_; have BK190 := n5_; have HB := n6_; clear n0_ n1_ n2_ n3_ n4_ n5_ n6_; (try clear hb); (try clear hb2); (try clear hk); (try clear hi)))
        go_meet
        case rel => exact ⟨_, (true), (by first | rfl | (simp; done) | (simp [*]; done)), H', ⟨by first | omega | exact Nat.le_refl _⟩, ⟨by (with_reducible repeat (first | apply Kd.R_alloc | apply Kd.R_drewN | apply Kd.R_drew)); exact Kd.R_mono HO184.out (fun _ hk => trivial)⟩, ⟨by (with_reducible repeat (first | apply Kd.R_alloc | apply Kd.R_drewN | apply Kd.R_drew)); exact Kd.R_mono HO179.out (fun _ hk => hk.2)⟩, ⟨by (with_reducible repeat (first | apply Kd.R_alloc | apply Kd.R_drewN | apply Kd.R_drew)); exact Kd.R_mono HO188.out (fun _ hk => hk.2)⟩, ⟨by (with_reducible repeat (first | refine blk_drewN ?_ _ | refine blk_drew ?_ | refine blk_alloc ?_ _)); exact BK181.out⟩, ⟨by (with_reducible repeat (first | refine blk_drewN ?_ _ | refine blk_drew ?_ | refine blk_alloc ?_ _)); exact BK190.out⟩, ⟨by repeat (first | (with_reducible first | exact HB.out | apply below_alloc | apply pw_below_drewN | apply below_drew1 | refine below_set ?_ GE181.out | refine below_set ?_ GE190.out) | exact HB.out)⟩⟩
    case rest =>
      clear HC9
      try clear c1
      try clear c2
      try clear p2
      try clear c4
      try clear c4b0
      try clear c6
      try clear p6
      try clear c9
      try clear c11
      try clear c20
      try clear c21
      try clear c22
      try clear c24
      try clear c25
      try clear c29
      try clear hcz14_0
      try clear hcz14_1
      try clear hcz21_0
      try clear hcz21_1
      try clear hcz26_0
      try clear hcz26_1
      try clear hcz27_0
      try clear hcz27_1
      try clear hcz30_0
      try clear hcz30_1
      try clear hcz31_0
      try clear hcz31_1
      try clear hfz14_0
      try clear hfz14_1
      try clear hfz21_0
      try clear hfz21_1
      try clear hfz26_0
      try clear hfz26_1
      try clear hfz27_0
      try clear hfz27_1
      try clear hfz30_0
      try clear hfz30_1
      try clear hfz31_0
      try clear hfz31_1
      obtain ⟨kq, x44_8, rfl, HA, HJ8, HO_8, HO_182001, HO_191001, BK181, BK190, HB⟩ := hcut
      cases kq with
      | zero => exact absurd HA.out (by simp [laws_FnExactTraceSystem.j0])
      | succ kj8 =>
        have H := HA.out
        clear HA
        simp only [laws_FnExactTraceSystem.j0] at H
        by_cases c33 : x44_8 = true
        · subst c33
          have H1 : (some false) = some r := by rw [if_pos rfl] at H; exact H
          clear H
          have H := H1
          clear H1
          obtain rfl := Option.some.inj H
          go_wp2
          go_ret
          exact ⟨by first | rfl | (simp [errW_none, errW_some] <;> rfl) | (simp [*, errW_none, errW_some] <;> rfl), by repeat (first | (with_reducible first | exact HB.out | apply below_alloc | apply pw_below_drewN | apply below_drew1 | refine below_set ?_ GE181.out | refine below_set ?_ GE190.out) | exact HB.out)⟩
        · replace c33 := Bool.eq_false_iff.mpr c33
          subst c33
          have H1 : ((laws_toStringS.f kj8 l1).bind fun t192 => ((laws_eqStringS.f kj8 t182 t192).bind fun t195 => (if t195 = true then ((laws_markStringS.f kj8 t182 1).bind fun bt196 => (if bt196.1 < 0 then (laws_FnExactTraceSystem.j1 kj8 a0 l1 t180 true t176 t177 t185 t186) else ((laws_eqSystem.f kj8 t185 t186 t176 t177).bind fun t198 => (if t198 = true then (laws_FnExactTraceSystem.j1 kj8 a0 l1 t180 (t189 != t180) t176 t177 t185 t186) else (laws_FnExactTraceSystem.j1 kj8 a0 l1 t180 true t176 t177 t185 t186))))) else (some false)))) = some r := by rw [if_neg (show ¬ (false = true) by decide)] at H; exact H
          clear H
          have H := H1
          clear H1
          replace H := Option.bind_eq_some_iff.mp H
          obtain ⟨t192, A340, H⟩ := H
          replace H : ((laws_eqStringS.f kj8 t182 t192).bind fun t195 => (if t195 = true then ((laws_markStringS.f kj8 t182 1).bind fun bt196 => (if bt196.1 < 0 then (laws_FnExactTraceSystem.j1 kj8 a0 l1 t180 true t176 t177 t185 t186) else ((laws_eqSystem.f kj8 t185 t186 t176 t177).bind fun t198 => (if t198 = true then (laws_FnExactTraceSystem.j1 kj8 a0 l1 t180 (t189 != t180) t176 t177 t185 t186) else (laws_FnExactTraceSystem.j1 kj8 a0 l1 t180 true t176 t177 t185 t186))))) else (some false))) = some r := H
          have A34 := Aside0.mk A340
          clear A340
          replace H := Option.bind_eq_some_iff.mp H
          obtain ⟨t195, A350, H⟩ := H
          replace H : (if t195 = true then ((laws_markStringS.f kj8 t182 1).bind fun bt196 => (if bt196.1 < 0 then (laws_FnExactTraceSystem.j1 kj8 a0 l1 t180 true t176 t177 t185 t186) else ((laws_eqSystem.f kj8 t185 t186 t176 t177).bind fun t198 => (if t198 = true then (laws_FnExactTraceSystem.j1 kj8 a0 l1 t180 (t189 != t180) t176 t177 t185 t186) else (laws_FnExactTraceSystem.j1 kj8 a0 l1 t180 true t176 t177 t185 t186))))) else (some false)) = some r := H
          have A35 := Aside0.mk A350
          clear A350
          by_cases c36 : t195 = true
          · subst c36
            have H1 : ((laws_markStringS.f kj8 t182 1).bind fun bt196 => (if bt196.1 < 0 then (laws_FnExactTraceSystem.j1 kj8 a0 l1 t180 true t176 t177 t185 t186) else ((laws_eqSystem.f kj8 t185 t186 t176 t177).bind fun t198 => (if t198 = true then (laws_FnExactTraceSystem.j1 kj8 a0 l1 t180 (t189 != t180) t176 t177 t185 t186) else (laws_FnExactTraceSystem.j1 kj8 a0 l1 t180 true t176 t177 t185 t186))))) = some r := by rw [if_pos rfl] at H; exact H
            clear H
            have H := H1
            clear H1
            replace H := Option.bind_eq_some_iff.mp H
            obtain ⟨⟨t196, t197⟩, A370, H⟩ := H
            replace H : (if t196 < 0 then (laws_FnExactTraceSystem.j1 kj8 a0 l1 t180 true t176 t177 t185 t186) else ((laws_eqSystem.f kj8 t185 t186 t176 t177).bind fun t198 => (if t198 = true then (laws_FnExactTraceSystem.j1 kj8 a0 l1 t180 (t189 != t180) t176 t177 t185 t186) else (laws_FnExactTraceSystem.j1 kj8 a0 l1 t180 true t176 t177 t185 t186)))) = some r := H
            have A37 := Aside0.mk A370
            clear A370
            have HC38 := Aside0.mk H
            clear H
            go_upto_region 14 with (first | ((with_reducible refine gate_callee (f := 11) rfl ?_); refine goesL_ (some 47) rfl rfl Try.func11 (by kernel_rfl) rfl #[.slice A1 l1.length c1] rfl (by (try simp only [List.map_toArray, List.map_cons, List.map_nil]); first | done | rfl | (simp only [List.length_drop, List.length_take]; rfl) | (go_simp; (repeat' apply And.intro) <;> (simp only [IntKind.wrap_u8]; unfold wrap64; omega))) ?_; (with_reducible refine (laws_toStringS.calls kj8 _ _ l1 t192 _ ?side1 ?side2 A34.out).mono ?_); (case side1 => repeat (first | exact (Kd.C_below HR1.out HB.out) | (with_reducible refine Kd.C_alloc ?_ _) | (with_reducible refine Kd.C_drewN ?_ _) | (with_reducible refine Kd.C_drew ?_))); (case side2 => exact HC1.out); rintro e w39 ⟨v193, rfl, ho0, hb⟩; refine ⟨_, rfl, ?_⟩; have n0_ := Aside0.mk (Kd.R_elder' (by (with_reducible repeat (first | apply Kd.R_alloc | apply Kd.R_drewN | apply Kd.R_drew)); exact HO_8.out) (Kd.R_base ho0) hb); have n1_ := Aside0.mk (Kd.R_below (by (with_reducible repeat (first | apply Kd.R_alloc | apply Kd.R_drewN | apply Kd.R_drew)); exact HO_182001.out) hb); have n2_ := Aside0.mk (Kd.R_below (by (with_reducible repeat (first | apply Kd.R_alloc | apply Kd.R_drewN | apply Kd.R_drew)); exact HO_191001.out) hb); have n3_ := Aside0.mk (Kd.R_lower (Kd.R_new' ho0 (Kd.R_lt (by (with_reducible repeat (first | apply Kd.R_alloc | apply Kd.R_drewN | apply Kd.R_drew)); exact HO_8.out))) (below_size (by repeat (first | (with_reducible first | exact HB.out | apply below_alloc | apply pw_below_drewN | apply below_drew1 | refine below_set ?_ GE181.out | refine below_set ?_ GE190.out) | exact HB.out)))); have n4_ := Aside0.mk (blk_below (g := gb181) (o := .cells #[.int .i64 t176, .slice Ao15 t177.length co15] 35 (0, 0)) (by (with_reducible repeat (first | refine blk_drewN ?_ _ | refine blk_drew ?_ | refine blk_alloc ?_ _)); exact BK181.out) hb); have n5_ := Aside0.mk (blk_below (g := gb190) (o := .cells #[.int .i64 t185, .slice Ao22 t186.length co22] 35 (0, 0)) (by (with_reducible repeat (first | refine blk_drewN ?_ _ | refine blk_drew ?_ | refine blk_alloc ?_ _)); exact BK190.out) hb); have n6_ := Aside0.mk (below_step (by repeat (first | (with_reducible first | exact HB.out | apply below_alloc | apply pw_below_drewN | apply below_drew1 | refine below_set ?_ GE181.out | refine below_set ?_ GE190.out) | exact HB.out)) hb); clear HO_8; clear HO_182001; clear HO_191001; clear BK181; clear BK190; clear HB; have HO_8 := n0_; have HO_182001 := n1_; have HO_191001 := n2_; have HO194 := n3_; have BK181 := n4_; have BK190 := n5_; have HB := n6_; clear n0_ n1_ n2_ n3_ n4_ n5_ n6_; (try clear hb); (try clear hb2); (try clear hk); (try clear hi); (try clear ho0); obtain ⟨Ao40, co40, eo40⟩ := Kd.R_slice HO194.out; subst eo40) | ((with_reducible refine gate_callee (f := 13) rfl ?_); refine goesL_ (some 48) rfl rfl Try.func13 (by kernel_rfl) rfl #[.slice Ao17 t182.length co17, .slice Ao40 t192.length co40] rfl (by (try simp only [List.map_toArray, List.map_cons, List.map_nil]); first | done | rfl | (simp only [List.length_drop, List.length_take]; rfl) | (go_simp; (repeat' apply And.intro) <;> (simp only [IntKind.wrap_u8]; unfold wrap64; omega))) ?_; (with_reducible refine (laws_eqStringS.calls kj8 _ _ t182 _ _ t192 true _ ?side1 ?side2 ?side3 ?side4 A35.out).mono ?_); (case side1 => repeat (first | exact (Kd.R_reads' HO_8.out).2.2 | (with_reducible refine Kd.C_alloc ?_ _) | (with_reducible refine Kd.C_drewN ?_ _) | (with_reducible refine Kd.C_drew ?_))); (case side2 => exact (Kd.R_reads' HO_8.out).2.1); (case side3 => repeat (first | exact (Kd.R_reads' HO194.out).2.2 | (with_reducible refine Kd.C_alloc ?_ _) | (with_reducible refine Kd.C_drewN ?_ _) | (with_reducible refine Kd.C_drew ?_))); (case side4 => exact (Kd.R_reads' HO194.out).2.1); rintro e w' ⟨rfl, ⟨nd, rfl⟩⟩; refine ⟨_, rfl, ?_⟩) | ((with_reducible refine gate_callee (f := 14) rfl ?_); refine goesL_ (some 52) rfl rfl Try.func14 (by kernel_rfl) rfl #[.slice Ao17 t182.length co17, .int .i64 1] rfl (by (try simp only [List.map_toArray, List.map_cons, List.map_nil]); first | done | rfl | (simp only [List.length_drop, List.length_take]; rfl) | (go_simp; (repeat' apply And.intro) <;> (simp only [IntKind.wrap_u8]; unfold wrap64; omega))) ?_; (with_reducible refine (laws_markStringS.calls kj8 (fun k_ => some k_ = (.slice Ao17 t182.length co17 : Value).ownBlock) (.slice Ao17 t182.length co17) t182 1 t196 t197 w _ ?side1 ?side2 A37.out).mono ?_); (case side1 => repeat (first | (with_reducible first | exact HB.out | apply below_alloc | apply pw_below_drewN | apply below_drew1 | refine below_set ?_ GE181.out | refine below_set ?_ GE190.out) | exact HB.out)); (case side2 => exact Kd.R_tight rfl HO_8.out); rintro e w41 ⟨rfl, hy0, hb, hkp⟩; refine ⟨_, rfl, ?_⟩; have n0_ := Aside0.mk (Kd.R_reok rfl hy0 (fun k_ e_ => HO_8.out.1 k_ e_)); have n1_ := Aside0.mk (Kd.R_mono (ok' := fun k_ => some k_ ≠ (.slice Ao22 t186.length co22 : Value).ownBlock) (Kd.R_keptB ((Kd.R_apart' HO_182001.out (Kd.R_typed HO_8.out) (by decide))) hkp (fun k_ hk_ hs_ => (hk_.2) hs_)) (fun k_ hk_ => hk_.1.1)); have n2_ := Aside0.mk (Kd.R_mono (ok' := fun k_ => some k_ ≠ (.slice Ao15 t177.length co15 : Value).ownBlock) (Kd.R_keptB ((Kd.R_apart' HO_191001.out (Kd.R_typed HO_8.out) (by decide))) hkp (fun k_ hk_ hs_ => (hk_.2) hs_)) (fun k_ hk_ => hk_.1.1)); have n3_ := Aside0.mk (blk_kept (by (with_reducible repeat (first | refine blk_drewN ?_ _ | refine blk_drew ?_ | refine blk_alloc ?_ _)); exact BK181.out) hkp (fun hs_ => (fun e_ => (Kd.R_ne HO_8.out BK181.out (by decide)) e_) hs_)); have n4_ := Aside0.mk (blk_kept (by (with_reducible repeat (first | refine blk_drewN ?_ _ | refine blk_drew ?_ | refine blk_alloc ?_ _)); exact BK190.out) hkp (fun hs_ => (fun e_ => (Kd.R_ne HO_8.out BK190.out (by decide)) e_) hs_)); have n5_ := Aside0.mk (Kd.R_mono (ok' := fun k_ => some k_ ≠ (.slice Ao17 t182.length co17 : Value).ownBlock) (Kd.R_keptB (HO194.out) hkp (fun k_ hk_ hs_ => (hk_.2) hs_)) (fun k_ hk_ => hk_.1.2)); have n6_ := Aside0.mk (hb); clear HO_8; clear HO_182001; clear HO_191001; clear BK181; clear BK190; clear HO194; clear HB; have HO_8 := n0_; have HO_182001 := n1_; have HO_191001 := n2_; have BK181 := n3_; have BK190 := n4_; have HO194 := n5_; have HB := n6_; clear n0_ n1_ n2_ n3_ n4_ n5_ n6_; (try clear hb); (try clear hkp); (try clear hy0)))
            (try simp only [Act.put, List.setIfInBounds_toArray, List.set_cons_zero, List.set_cons_succ])
            go_cut [65] (fun v65 wc => ∃ (kq : Nat) (x65_37 : Bool), v65 = .bool x65_37 ∧ Aside0 (laws_FnExactTraceSystem.j1 kq a0 l1 t180 x65_37 t176 t177 t185 t186 = some r) ∧ Aside0 (kq ≤ kj8) ∧ Aside0 (Kd.R k55 55 wc w.heap.size (fun k_ => some k_ ≠ ((.slice Ao22 t186.length co22) : Value).ownBlock) (.slice Ao15 t177.length co15) t177) ∧ Aside0 (Kd.R k55 55 wc w.heap.size (fun k_ => some k_ ≠ ((.slice Ao15 t177.length co15) : Value).ownBlock) (.slice Ao22 t186.length co22) t186) ∧ Aside0 (wc.heap[gb181]? = some (.cells #[.int .i64 t176, (.slice Ao15 t177.length co15)] 35 (0, 0))) ∧ Aside0 (wc.heap[gb190]? = some (.cells #[.int .i64 t185, (.slice Ao22 t186.length co22)] 35 (0, 0))) ∧ Aside0 (Below w.heap.size w wc))
            case first =>
              have H := HC38.out
              clear HC38
              by_cases c42 : t196 < 0
              · rw [if_pos c42] at H
                have c42b0 : decide (t196 < 0) = true := decide_eq_true c42
                clear c42
                (first | rw [c42b0] | (simp only [i64_w, i32_w]; rw [c42b0]) | skip)
                have H' := Aside0.mk H
                clear H
                go_wp2
                go_meet
                case rel => exact ⟨_, (true), (by first | rfl | (simp; done) | (simp [*]; done)), H', ⟨by have := HJ8.out; first | omega | exact Nat.le_refl _⟩, ⟨by (with_reducible repeat (first | apply Kd.R_alloc | apply Kd.R_drewN | apply Kd.R_drew)); exact HO_182001.out⟩, ⟨by (with_reducible repeat (first | apply Kd.R_alloc | apply Kd.R_drewN | apply Kd.R_drew)); exact HO_191001.out⟩, ⟨by (with_reducible repeat (first | refine blk_drewN ?_ _ | refine blk_drew ?_ | refine blk_alloc ?_ _)); exact BK181.out⟩, ⟨by (with_reducible repeat (first | refine blk_drewN ?_ _ | refine blk_drew ?_ | refine blk_alloc ?_ _)); exact BK190.out⟩, ⟨by repeat (first | (with_reducible first | exact HB.out | apply below_alloc | apply pw_below_drewN | apply below_drew1 | refine below_set ?_ GE181.out | refine below_set ?_ GE190.out) | exact HB.out)⟩⟩
              · rw [if_neg c42] at H
                have c42b0 : decide (t196 < 0) = false := decide_eq_false c42
                clear c42
                (first | rw [c42b0] | (simp only [i64_w, i32_w]; rw [c42b0]) | skip)
                replace H := Option.bind_eq_some_iff.mp H
                obtain ⟨t198, A430, H⟩ := H
                replace H : (if t198 = true then (laws_FnExactTraceSystem.j1 kj8 a0 l1 t180 (t189 != t180) t176 t177 t185 t186) else (laws_FnExactTraceSystem.j1 kj8 a0 l1 t180 true t176 t177 t185 t186)) = some r := H
                have A43 := Aside0.mk A430
                clear A430
                by_cases c44 : t198 = true
                · subst c44
                  have H1 : (laws_FnExactTraceSystem.j1 kj8 a0 l1 t180 (t189 != t180) t176 t177 t185 t186) = some r := by rw [if_pos rfl] at H; exact H
                  clear H
                  have H := H1
                  clear H1
                  have H' := Aside0.mk H
                  clear H
                  have hnb45 := NB190_181.out
                  have hnc45 := NB181_190.out
                  have hcz46_0 : w41.cell? ⟨gb190, 0, none⟩ = some (.int .i64 t185) := (blk_cell BK190.out 0).trans rfl
                  have hcz46_1 : w41.cell? ⟨gb190, 1, none⟩ = some (.slice Ao22 t186.length co22) := (blk_cell BK190.out 1).trans rfl
                  have hfz46_0 := blk_frozen BK190.out 0
                  have hfz46_1 := blk_frozen BK190.out 1
                  have hcz47_0 : w41.cell? ⟨gb181, 0, none⟩ = some (.int .i64 t176) := (blk_cell BK181.out 0).trans rfl
                  have hcz47_1 : w41.cell? ⟨gb181, 1, none⟩ = some (.slice Ao15 t177.length co15) := (blk_cell BK181.out 1).trans rfl
                  have hfz47_0 := blk_frozen BK181.out 0
                  have hfz47_1 := blk_frozen BK181.out 1
                  go_wp2_with (first | (go_at_call 22; (with_reducible refine (laws_eqSystem.calls kj8 t185 _ _ t186 t176 _ _ t177 true _ ?side1 ?side2 ?side3 ?side4 A43.out).mono ?_); (case side1 => repeat (first | exact (Kd.R_reads' HO_191001.out).2.2 | (with_reducible refine Kd.C_alloc ?_ _) | (with_reducible refine Kd.C_drewN ?_ _) | (with_reducible refine Kd.C_drew ?_))); (case side2 => exact (Kd.R_reads' HO_191001.out).2.1); (case side3 => repeat (first | exact (Kd.R_reads' HO_182001.out).2.2 | (with_reducible refine Kd.C_alloc ?_ _) | (with_reducible refine Kd.C_drewN ?_ _) | (with_reducible refine Kd.C_drew ?_))); (case side4 => exact (Kd.R_reads' HO_182001.out).2.1); rintro e w48 ⟨rfl, hb⟩; have n0_ := Aside0.mk (Kd.R_below (by (with_reducible repeat (first | apply Kd.R_alloc | apply Kd.R_drewN | apply Kd.R_drew)); exact HO_8.out) hb); have n1_ := Aside0.mk (Kd.R_below (by (with_reducible repeat (first | apply Kd.R_alloc | apply Kd.R_drewN | apply Kd.R_drew)); exact HO_182001.out) hb); have n2_ := Aside0.mk (Kd.R_below (by (with_reducible repeat (first | apply Kd.R_alloc | apply Kd.R_drewN | apply Kd.R_drew)); exact HO_191001.out) hb); have n3_ := Aside0.mk (Kd.R_below (by (with_reducible repeat (first | apply Kd.R_alloc | apply Kd.R_drewN | apply Kd.R_drew)); exact HO194.out) hb); have n4_ := Aside0.mk (blk_below (g := gb181) (o := .cells #[.int .i64 t176, .slice Ao15 t177.length co15] 35 (0, 0)) (by (with_reducible repeat (first | refine blk_drewN ?_ _ | refine blk_drew ?_ | refine blk_alloc ?_ _)); exact BK181.out) hb); have n5_ := Aside0.mk (blk_below (g := gb190) (o := .cells #[.int .i64 t185, .slice Ao22 t186.length co22] 35 (0, 0)) (by (with_reducible repeat (first | refine blk_drewN ?_ _ | refine blk_drew ?_ | refine blk_alloc ?_ _)); exact BK190.out) hb); have n6_ := Aside0.mk (below_step (by repeat (first | (with_reducible first | exact HB.out | apply below_alloc | apply pw_below_drewN | apply below_drew1 | refine below_set ?_ GE181.out | refine below_set ?_ GE190.out) | exact HB.out)) hb); clear HO_8; clear HO_182001; clear HO_191001; clear HO194; clear BK181; clear BK190; clear HB; have HO_8 := n0_; have HO_182001 := n1_; have HO_191001 := n2_; have HO194 := n3_; have BK181 := n4_; have BK190 := n5_; have HB := n6_; clear n0_ n1_ n2_ n3_ n4_ n5_ n6_; (try clear hb); (try clear hb2); (try clear hk); (try clear hi)))
                  go_meet
                  case rel => exact ⟨_, ((t189 != t180)), (by first | rfl | (simp; done) | (simp [*]; done)), H', ⟨by have := HJ8.out; first | omega | exact Nat.le_refl _⟩, ⟨by (with_reducible repeat (first | apply Kd.R_alloc | apply Kd.R_drewN | apply Kd.R_drew)); exact HO_182001.out⟩, ⟨by (with_reducible repeat (first | apply Kd.R_alloc | apply Kd.R_drewN | apply Kd.R_drew)); exact HO_191001.out⟩, ⟨by (with_reducible repeat (first | refine blk_drewN ?_ _ | refine blk_drew ?_ | refine blk_alloc ?_ _)); exact BK181.out⟩, ⟨by (with_reducible repeat (first | refine blk_drewN ?_ _ | refine blk_drew ?_ | refine blk_alloc ?_ _)); exact BK190.out⟩, ⟨by repeat (first | (with_reducible first | exact HB.out | apply below_alloc | apply pw_below_drewN | apply below_drew1 | refine below_set ?_ GE181.out | refine below_set ?_ GE190.out) | exact HB.out)⟩⟩
                · replace c44 := Bool.eq_false_iff.mpr c44
                  subst c44
                  have H1 : (laws_FnExactTraceSystem.j1 kj8 a0 l1 t180 true t176 t177 t185 t186) = some r := by rw [if_neg (show ¬ (false = true) by decide)] at H; exact H
                  clear H
                  have H := H1
                  clear H1
                  have H' := Aside0.mk H
                  clear H
                  have hnb49 := NB190_181.out
                  have hnc49 := NB181_190.out
                  have hcz50_0 : w41.cell? ⟨gb190, 0, none⟩ = some (.int .i64 t185) := (blk_cell BK190.out 0).trans rfl
                  have hcz50_1 : w41.cell? ⟨gb190, 1, none⟩ = some (.slice Ao22 t186.length co22) := (blk_cell BK190.out 1).trans rfl
                  have hfz50_0 := blk_frozen BK190.out 0
                  have hfz50_1 := blk_frozen BK190.out 1
                  have hcz51_0 : w41.cell? ⟨gb181, 0, none⟩ = some (.int .i64 t176) := (blk_cell BK181.out 0).trans rfl
                  have hcz51_1 : w41.cell? ⟨gb181, 1, none⟩ = some (.slice Ao15 t177.length co15) := (blk_cell BK181.out 1).trans rfl
                  have hfz51_0 := blk_frozen BK181.out 0
                  have hfz51_1 := blk_frozen BK181.out 1
                  go_wp2_with (first | (go_at_call 22; (with_reducible refine (laws_eqSystem.calls kj8 t185 _ _ t186 t176 _ _ t177 false _ ?side1 ?side2 ?side3 ?side4 A43.out).mono ?_); (case side1 => repeat (first | exact (Kd.R_reads' HO_191001.out).2.2 | (with_reducible refine Kd.C_alloc ?_ _) | (with_reducible refine Kd.C_drewN ?_ _) | (with_reducible refine Kd.C_drew ?_))); (case side2 => exact (Kd.R_reads' HO_191001.out).2.1); (case side3 => repeat (first | exact (Kd.R_reads' HO_182001.out).2.2 | (with_reducible refine Kd.C_alloc ?_ _) | (with_reducible refine Kd.C_drewN ?_ _) | (with_reducible refine Kd.C_drew ?_))); (case side4 => exact (Kd.R_reads' HO_182001.out).2.1); rintro e w52 ⟨rfl, hb⟩; have n0_ := Aside0.mk (Kd.R_below (by (with_reducible repeat (first | apply Kd.R_alloc | apply Kd.R_drewN | apply Kd.R_drew)); exact HO_8.out) hb); have n1_ := Aside0.mk (Kd.R_below (by (with_reducible repeat (first | apply Kd.R_alloc | apply Kd.R_drewN | apply Kd.R_drew)); exact HO_182001.out) hb); have n2_ := Aside0.mk (Kd.R_below (by (with_reducible repeat (first | apply Kd.R_alloc | apply Kd.R_drewN | apply Kd.R_drew)); exact HO_191001.out) hb); have n3_ := Aside0.mk (Kd.R_below (by (with_reducible repeat (first | apply Kd.R_alloc | apply Kd.R_drewN | apply Kd.R_drew)); exact HO194.out) hb); have n4_ := Aside0.mk (blk_below (g := gb181) (o := .cells #[.int .i64 t176, .slice Ao15 t177.length co15] 35 (0, 0)) (by (with_reducible repeat (first | refine blk_drewN ?_ _ | refine blk_drew ?_ | refine blk_alloc ?_ _)); exact BK181.out) hb); have n5_ := Aside0.mk (blk_below (g := gb190) (o := .cells #[.int .i64 t185, .slice Ao22 t186.length co22] 35 (0, 0)) (by (with_reducible repeat (first | refine blk_drewN ?_ _ | refine blk_drew ?_ | refine blk_alloc ?_ _)); exact BK190.out) hb); have n6_ := Aside0.mk (below_step (by repeat (first | (with_reducible first | exact HB.out | apply below_alloc | apply pw_below_drewN | apply below_drew1 | refine below_set ?_ GE181.out | refine below_set ?_ GE190.out) | exact HB.out)) hb); clear HO_8; clear HO_182001; clear HO_191001; clear HO194; clear BK181; clear BK190; clear HB; have HO_8 := n0_; have HO_182001 := n1_; have HO_191001 := n2_; have HO194 := n3_; have BK181 := n4_; have BK190 := n5_; have HB := n6_; clear n0_ n1_ n2_ n3_ n4_ n5_ n6_; (try clear hb); (try clear hb2); (try clear hk); (try clear hi)))
                  go_meet
                  case rel => exact ⟨_, (true), (by first | rfl | (simp; done) | (simp [*]; done)), H', ⟨by have := HJ8.out; first | omega | exact Nat.le_refl _⟩, ⟨by (with_reducible repeat (first | apply Kd.R_alloc | apply Kd.R_drewN | apply Kd.R_drew)); exact HO_182001.out⟩, ⟨by (with_reducible repeat (first | apply Kd.R_alloc | apply Kd.R_drewN | apply Kd.R_drew)); exact HO_191001.out⟩, ⟨by (with_reducible repeat (first | refine blk_drewN ?_ _ | refine blk_drew ?_ | refine blk_alloc ?_ _)); exact BK181.out⟩, ⟨by (with_reducible repeat (first | refine blk_drewN ?_ _ | refine blk_drew ?_ | refine blk_alloc ?_ _)); exact BK190.out⟩, ⟨by repeat (first | (with_reducible first | exact HB.out | apply below_alloc | apply pw_below_drewN | apply below_drew1 | refine below_set ?_ GE181.out | refine below_set ?_ GE190.out) | exact HB.out)⟩⟩
            case rest =>
              clear HC38
              try clear c1
              try clear c2
              try clear p2
              try clear c3
              try clear c4
              try clear c4b0
              try clear c6
              try clear p6
              try clear c9
              try clear c11
              try clear c13
              try clear c14
              try clear c20
              try clear c21
              try clear c22
              try clear c24
              try clear c25
              try clear c29
              try clear c33
              try clear c36
              try clear c42
              try clear c42b0
              try clear c44
              try clear c45
              try clear c49
              try clear hcz14_0
              try clear hcz14_1
              try clear hcz21_0
              try clear hcz21_1
              try clear hcz26_0
              try clear hcz26_1
              try clear hcz27_0
              try clear hcz27_1
              try clear hcz30_0
              try clear hcz30_1
              try clear hcz31_0
              try clear hcz31_1
              try clear hcz46_0
              try clear hcz46_1
              try clear hcz47_0
              try clear hcz47_1
              try clear hcz50_0
              try clear hcz50_1
              try clear hcz51_0
              try clear hcz51_1
              try clear hfz14_0
              try clear hfz14_1
              try clear hfz21_0
              try clear hfz21_1
              try clear hfz26_0
              try clear hfz26_1
              try clear hfz27_0
              try clear hfz27_1
              try clear hfz30_0
              try clear hfz30_1
              try clear hfz31_0
              try clear hfz31_1
              try clear hfz46_0
              try clear hfz46_1
              try clear hfz47_0
              try clear hfz47_1
              try clear hfz50_0
              try clear hfz50_1
              try clear hfz51_0
              try clear hfz51_1
              try clear p2
              try clear p6
              obtain ⟨kq, x65_37, rfl, HA, HJ37, HO_182001, HO_191001, BK181, BK190, HB⟩ := hcut
              cases kq with
              | zero => exact absurd HA.out (by simp [laws_FnExactTraceSystem.j1])
              | succ kj37 =>
                have H := HA.out
                clear HA
                simp only [laws_FnExactTraceSystem.j1] at H
                by_cases c53 : x65_37 = true
                · subst c53
                  have H1 : (some false) = some r := by rw [if_pos rfl] at H; exact H
                  clear H
                  have H := H1
                  clear H1
                  obtain rfl := Option.some.inj H
                  go_wp2
                  go_ret
                  exact ⟨by first | rfl | (simp [errW_none, errW_some] <;> rfl) | (simp [*, errW_none, errW_some] <;> rfl), by repeat (first | (with_reducible first | exact HB.out | apply below_alloc | apply pw_below_drewN | apply below_drew1 | refine below_set ?_ GE181.out | refine below_set ?_ GE190.out) | exact HB.out)⟩
                · replace c53 := Bool.eq_false_iff.mpr c53
                  subst c53
                  have H1 : ((laws_markSystem.f kj37 t185 t186 1).bind fun bt199 => ((laws_heldSystem.f kj37 t185 bt199.2 1).bind fun t201 => (if t201 < 0 then (some false) else (if t201 = bt199.1 then ((laws_toStringS.f kj37 l1).bind fun t202 => ((impl_TraceSystem.f kj37 a0 t202).bind fun bt205 => ((laws_eqSystem.f kj37 bt205.1 bt205.2.1 t176 t177).bind fun t211 => (if t211 = true then (laws_FnExactTraceSystem.j2 kj37 bt199.1 (bt205.2.2 != t180) t185 bt199.2) else (laws_FnExactTraceSystem.j2 kj37 bt199.1 true t185 bt199.2))))) else (some false))))) = some r := by rw [if_neg (show ¬ (false = true) by decide)] at H; exact H
                  clear H
                  have H := H1
                  clear H1
                  replace H := Option.bind_eq_some_iff.mp H
                  obtain ⟨⟨t199, t200⟩, A540, H⟩ := H
                  replace H : ((laws_heldSystem.f kj37 t185 t200 1).bind fun t201 => (if t201 < 0 then (some false) else (if t201 = t199 then ((laws_toStringS.f kj37 l1).bind fun t202 => ((impl_TraceSystem.f kj37 a0 t202).bind fun bt205 => ((laws_eqSystem.f kj37 bt205.1 bt205.2.1 t176 t177).bind fun t211 => (if t211 = true then (laws_FnExactTraceSystem.j2 kj37 t199 (bt205.2.2 != t180) t185 t200) else (laws_FnExactTraceSystem.j2 kj37 t199 true t185 t200))))) else (some false)))) = some r := H
                  have A54 := Aside0.mk A540
                  clear A540
                  replace H := Option.bind_eq_some_iff.mp H
                  obtain ⟨t201, A550, H⟩ := H
                  replace H : (if t201 < 0 then (some false) else (if t201 = t199 then ((laws_toStringS.f kj37 l1).bind fun t202 => ((impl_TraceSystem.f kj37 a0 t202).bind fun bt205 => ((laws_eqSystem.f kj37 bt205.1 bt205.2.1 t176 t177).bind fun t211 => (if t211 = true then (laws_FnExactTraceSystem.j2 kj37 t199 (bt205.2.2 != t180) t185 t200) else (laws_FnExactTraceSystem.j2 kj37 t199 true t185 t200))))) else (some false))) = some r := H
                  have A55 := Aside0.mk A550
                  clear A550
                  by_cases c56 : t201 < 0
                  · rw [if_pos c56] at H
                    have c56b0 : decide (t201 < 0) = true := decide_eq_true c56
                    clear c56
                    obtain rfl := Option.some.inj H
                    have hnb57 := NB190_181.out
                    have hnc57 := NB181_190.out
                    have hcz58_0 : wc.cell? ⟨gb190, 0, none⟩ = some (.int .i64 t185) := (blk_cell BK190.out 0).trans rfl
                    have hcz58_1 : wc.cell? ⟨gb190, 1, none⟩ = some (.slice Ao22 t186.length co22) := (blk_cell BK190.out 1).trans rfl
                    have hfz58_0 := blk_frozen BK190.out 0
                    have hfz58_1 := blk_frozen BK190.out 1
                    go_wp2_with (first | ((with_reducible refine gate_callee (f := 23) rfl ?_); refine goesL_ (some 68) rfl rfl Try.func23 (by kernel_rfl) rfl #[.agg #[.int .i64 t185, .slice Ao22 t186.length co22], .int .i64 1] rfl (by (try simp only [List.map_toArray, List.map_cons, List.map_nil]); first | done | rfl | (simp only [List.length_drop, List.length_take]; rfl) | (go_simp; (repeat' apply And.intro) <;> (simp only [IntKind.wrap_u8]; unfold wrap64; omega))) ?_; (with_reducible refine (laws_markSystem.calls kj37 t185 (fun k_ => some k_ = (.slice Ao22 t186.length co22 : Value).ownBlock) (.slice Ao22 t186.length co22) t186 1 t199 t200 w _ ?side1 ?side2 A54.out).mono ?_); (case side1 => repeat (first | (with_reducible first | exact HB.out | apply below_alloc | apply pw_below_drewN | apply below_drew1 | refine below_set ?_ GE181.out | refine below_set ?_ GE190.out) | exact HB.out)); (case side2 => exact Kd.R_tight rfl HO_191001.out); rintro e w59 ⟨rfl, hy0, hb, hkp⟩; refine ⟨_, rfl, ?_⟩; have n0_ := Aside0.mk (Kd.R_mono (ok' := fun k_ => some k_ ≠ (.slice Ao22 t186.length co22 : Value).ownBlock) (Kd.R_keptB (HO_182001.out) hkp (fun k_ hk_ hs_ => (hk_) hs_)) (fun k_ hk_ => hk_.1)); have n1_ := Aside0.mk (Kd.R_reok rfl hy0 (fun k_ e_ => HO_191001.out.1 k_ e_)); have n2_ := Aside0.mk (blk_kept (by (with_reducible repeat (first | refine blk_drewN ?_ _ | refine blk_drew ?_ | refine blk_alloc ?_ _)); exact BK181.out) hkp (fun hs_ => (fun e_ => (Kd.R_ne HO_191001.out BK181.out (by decide)) e_) hs_)); have n3_ := Aside0.mk (blk_kept (by (with_reducible repeat (first | refine blk_drewN ?_ _ | refine blk_drew ?_ | refine blk_alloc ?_ _)); exact BK190.out) hkp (fun hs_ => (fun e_ => (Kd.R_ne HO_191001.out BK190.out (by decide)) e_) hs_)); have n4_ := Aside0.mk (hb); clear HO_182001; clear HO_191001; clear BK181; clear BK190; clear HB; have HO_182001 := n0_; have HO_191001 := n1_; have BK181 := n2_; have BK190 := n3_; have HB := n4_; clear n0_ n1_ n2_ n3_ n4_; (try clear hb); (try clear hkp); (try clear hy0); have hcz60_0 : w59.cell? ⟨gb190, 0, none⟩ = some (.int .i64 t185) := (blk_cell BK190.out 0).trans rfl; have hcz60_1 : w59.cell? ⟨gb190, 1, none⟩ = some (.slice Ao22 t186.length co22) := (blk_cell BK190.out 1).trans rfl; have hfz60_0 := blk_frozen BK190.out 0; have hfz60_1 := blk_frozen BK190.out 1) | ((with_reducible refine gate_callee (f := 24) rfl ?_); refine goesL_ (some 71) rfl rfl Try.func24 (by kernel_rfl) rfl #[.agg #[.int .i64 t185, .slice Ao22 t200.length co22], .int .i64 1] rfl (by (try simp only [List.map_toArray, List.map_cons, List.map_nil]); first | done | (rw [show t200.length = t186.length from (Kd.R_reads' HO_191001.out).1.symm] <;> rfl) | rfl | (simp only [List.length_drop, List.length_take]; rfl) | (go_simp; (repeat' apply And.intro) <;> (simp only [IntKind.wrap_u8]; unfold wrap64; omega))) ?_; (with_reducible refine (laws_heldSystem.calls kj37 t185 _ _ t200 1 t201 _ ?side1 ?side2 A55.out).mono ?_); (case side1 => repeat (first | exact (Kd.R_reads' HO_191001.out).2.2 | (with_reducible refine Kd.C_alloc ?_ _) | (with_reducible refine Kd.C_drewN ?_ _) | (with_reducible refine Kd.C_drew ?_))); (case side2 => rw [show t200.length = t186.length from (Kd.R_reads' HO_191001.out).1.symm]; exact (Kd.R_reads' HO_191001.out).2.1); rintro e w61 ⟨rfl, hb⟩; refine ⟨_, rfl, ?_⟩; have n0_ := Aside0.mk (Kd.R_below (by (with_reducible repeat (first | apply Kd.R_alloc | apply Kd.R_drewN | apply Kd.R_drew)); exact HO_182001.out) hb); have n1_ := Aside0.mk (Kd.R_below (by (with_reducible repeat (first | apply Kd.R_alloc | apply Kd.R_drewN | apply Kd.R_drew)); exact HO_191001.out) hb); have n2_ := Aside0.mk (blk_below (g := gb181) (o := .cells #[.int .i64 t176, .slice Ao15 t177.length co15] 35 (0, 0)) (by (with_reducible repeat (first | refine blk_drewN ?_ _ | refine blk_drew ?_ | refine blk_alloc ?_ _)); exact BK181.out) hb); have n3_ := Aside0.mk (blk_below (g := gb190) (o := .cells #[.int .i64 t185, .slice Ao22 t186.length co22] 35 (0, 0)) (by (with_reducible repeat (first | refine blk_drewN ?_ _ | refine blk_drew ?_ | refine blk_alloc ?_ _)); exact BK190.out) hb); have n4_ := Aside0.mk (below_step (by repeat (first | (with_reducible first | exact HB.out | apply below_alloc | apply pw_below_drewN | apply below_drew1 | refine below_set ?_ GE181.out | refine below_set ?_ GE190.out) | exact HB.out)) hb); clear HO_182001; clear HO_191001; clear BK181; clear BK190; clear HB; have HO_182001 := n0_; have HO_191001 := n1_; have BK181 := n2_; have BK190 := n3_; have HB := n4_; clear n0_ n1_ n2_ n3_ n4_; (try clear hb); (try clear hb2); (try clear hk); (try clear hi)))
                    go_ret
                    exact ⟨by first | rfl | (simp [errW_none, errW_some] <;> rfl) | (simp [*, errW_none, errW_some] <;> rfl), by repeat (first | (with_reducible first | exact HB.out | apply below_alloc | apply pw_below_drewN | apply below_drew1 | refine below_set ?_ GE181.out | refine below_set ?_ GE190.out) | exact HB.out)⟩
                  · rw [if_neg c56] at H
                    have c56b0 : decide (t201 < 0) = false := decide_eq_false c56
                    clear c56
                    by_cases c62 : t201 = t199
                    · rw [if_pos c62] at H
                      have c62b0 : (t201 == t199) = true := beq_iff_eq.mpr c62
                      have c62b1 : (t201 != t199) = false := bne_eq_false_iff_eq.mpr c62
                      clear c62
                      replace H := Option.bind_eq_some_iff.mp H
                      obtain ⟨t202, A630, H⟩ := H
                      replace H : ((impl_TraceSystem.f kj37 a0 t202).bind fun bt205 => ((laws_eqSystem.f kj37 bt205.1 bt205.2.1 t176 t177).bind fun t211 => (if t211 = true then (laws_FnExactTraceSystem.j2 kj37 t199 (bt205.2.2 != t180) t185 t200) else (laws_FnExactTraceSystem.j2 kj37 t199 true t185 t200)))) = some r := H
                      have A63 := Aside0.mk A630
                      clear A630
                      replace H := Option.bind_eq_some_iff.mp H
                      obtain ⟨⟨t205, t206, t209⟩, A640, H⟩ := H
                      replace H : ((laws_eqSystem.f kj37 t205 t206 t176 t177).bind fun t211 => (if t211 = true then (laws_FnExactTraceSystem.j2 kj37 t199 (t209 != t180) t185 t200) else (laws_FnExactTraceSystem.j2 kj37 t199 true t185 t200))) = some r := H
                      have A64 := Aside0.mk A640
                      clear A640
                      have HC65 := Aside0.mk H
                      clear H
                      have hnb66 := NB190_181.out
                      have hnc66 := NB181_190.out
                      have hcz67_0 : wc.cell? ⟨gb190, 0, none⟩ = some (.int .i64 t185) := (blk_cell BK190.out 0).trans rfl
                      have hcz67_1 : wc.cell? ⟨gb190, 1, none⟩ = some (.slice Ao22 t186.length co22) := (blk_cell BK190.out 1).trans rfl
                      have hfz67_0 := blk_frozen BK190.out 0
                      have hfz67_1 := blk_frozen BK190.out 1
                      go_upto_region 25 with (first | ((with_reducible refine gate_callee (f := 23) rfl ?_); refine goesL_ (some 68) rfl rfl Try.func23 (by kernel_rfl) rfl #[.agg #[.int .i64 t185, .slice Ao22 t186.length co22], .int .i64 1] rfl (by (try simp only [List.map_toArray, List.map_cons, List.map_nil]); first | done | rfl | (simp only [List.length_drop, List.length_take]; rfl) | (go_simp; (repeat' apply And.intro) <;> (simp only [IntKind.wrap_u8]; unfold wrap64; omega))) ?_; (with_reducible refine (laws_markSystem.calls kj37 t185 (fun k_ => some k_ = (.slice Ao22 t186.length co22 : Value).ownBlock) (.slice Ao22 t186.length co22) t186 1 t199 t200 w _ ?side1 ?side2 A54.out).mono ?_); (case side1 => repeat (first | (with_reducible first | exact HB.out | apply below_alloc | apply pw_below_drewN | apply below_drew1 | refine below_set ?_ GE181.out | refine below_set ?_ GE190.out) | exact HB.out)); (case side2 => exact Kd.R_tight rfl HO_191001.out); rintro e w68 ⟨rfl, hy0, hb, hkp⟩; refine ⟨_, rfl, ?_⟩; have n0_ := Aside0.mk (Kd.R_mono (ok' := fun k_ => some k_ ≠ (.slice Ao22 t186.length co22 : Value).ownBlock) (Kd.R_keptB (HO_182001.out) hkp (fun k_ hk_ hs_ => (hk_) hs_)) (fun k_ hk_ => hk_.1)); have n1_ := Aside0.mk (Kd.R_reok rfl hy0 (fun k_ e_ => HO_191001.out.1 k_ e_)); have n2_ := Aside0.mk (blk_kept (by (with_reducible repeat (first | refine blk_drewN ?_ _ | refine blk_drew ?_ | refine blk_alloc ?_ _)); exact BK181.out) hkp (fun hs_ => (fun e_ => (Kd.R_ne HO_191001.out BK181.out (by decide)) e_) hs_)); have n3_ := Aside0.mk (blk_kept (by (with_reducible repeat (first | refine blk_drewN ?_ _ | refine blk_drew ?_ | refine blk_alloc ?_ _)); exact BK190.out) hkp (fun hs_ => (fun e_ => (Kd.R_ne HO_191001.out BK190.out (by decide)) e_) hs_)); have n4_ := Aside0.mk (hb); clear HO_182001; clear HO_191001; clear BK181; clear BK190; clear HB; have HO_182001 := n0_; have HO_191001 := n1_; have BK181 := n2_; have BK190 := n3_; have HB := n4_; clear n0_ n1_ n2_ n3_ n4_; (try clear hb); (try clear hkp); (try clear hy0); have hcz69_0 : w68.cell? ⟨gb190, 0, none⟩ = some (.int .i64 t185) := (blk_cell BK190.out 0).trans rfl; have hcz69_1 : w68.cell? ⟨gb190, 1, none⟩ = some (.slice Ao22 t186.length co22) := (blk_cell BK190.out 1).trans rfl; have hfz69_0 := blk_frozen BK190.out 0; have hfz69_1 := blk_frozen BK190.out 1) | ((with_reducible refine gate_callee (f := 24) rfl ?_); refine goesL_ (some 71) rfl rfl Try.func24 (by kernel_rfl) rfl #[.agg #[.int .i64 t185, .slice Ao22 t200.length co22], .int .i64 1] rfl (by (try simp only [List.map_toArray, List.map_cons, List.map_nil]); first | done | (rw [show t200.length = t186.length from (Kd.R_reads' HO_191001.out).1.symm] <;> rfl) | rfl | (simp only [List.length_drop, List.length_take]; rfl) | (go_simp; (repeat' apply And.intro) <;> (simp only [IntKind.wrap_u8]; unfold wrap64; omega))) ?_; (with_reducible refine (laws_heldSystem.calls kj37 t185 _ _ t200 1 t201 _ ?side1 ?side2 A55.out).mono ?_); (case side1 => repeat (first | exact (Kd.R_reads' HO_191001.out).2.2 | (with_reducible refine Kd.C_alloc ?_ _) | (with_reducible refine Kd.C_drewN ?_ _) | (with_reducible refine Kd.C_drew ?_))); (case side2 => rw [show t200.length = t186.length from (Kd.R_reads' HO_191001.out).1.symm]; exact (Kd.R_reads' HO_191001.out).2.1); rintro e w70 ⟨rfl, hb⟩; refine ⟨_, rfl, ?_⟩; have n0_ := Aside0.mk (Kd.R_below (by (with_reducible repeat (first | apply Kd.R_alloc | apply Kd.R_drewN | apply Kd.R_drew)); exact HO_182001.out) hb); have n1_ := Aside0.mk (Kd.R_below (by (with_reducible repeat (first | apply Kd.R_alloc | apply Kd.R_drewN | apply Kd.R_drew)); exact HO_191001.out) hb); have n2_ := Aside0.mk (blk_below (g := gb181) (o := .cells #[.int .i64 t176, .slice Ao15 t177.length co15] 35 (0, 0)) (by (with_reducible repeat (first | refine blk_drewN ?_ _ | refine blk_drew ?_ | refine blk_alloc ?_ _)); exact BK181.out) hb); have n3_ := Aside0.mk (blk_below (g := gb190) (o := .cells #[.int .i64 t185, .slice Ao22 t186.length co22] 35 (0, 0)) (by (with_reducible repeat (first | refine blk_drewN ?_ _ | refine blk_drew ?_ | refine blk_alloc ?_ _)); exact BK190.out) hb); have n4_ := Aside0.mk (below_step (by repeat (first | (with_reducible first | exact HB.out | apply below_alloc | apply pw_below_drewN | apply below_drew1 | refine below_set ?_ GE181.out | refine below_set ?_ GE190.out) | exact HB.out)) hb); clear HO_182001; clear HO_191001; clear BK181; clear BK190; clear HB; have HO_182001 := n0_; have HO_191001 := n1_; have BK181 := n2_; have BK190 := n3_; have HB := n4_; clear n0_ n1_ n2_ n3_ n4_; (try clear hb); (try clear hb2); (try clear hk); (try clear hi)) | ((with_reducible refine gate_callee (f := 11) rfl ?_); refine goesL_ (some 80) rfl rfl Try.func11 (by kernel_rfl) rfl #[.slice A1 l1.length c1] rfl (by (try simp only [List.map_toArray, List.map_cons, List.map_nil]); first | done | rfl | (simp only [List.length_drop, List.length_take]; rfl) | (go_simp; (repeat' apply And.intro) <;> (simp only [IntKind.wrap_u8]; unfold wrap64; omega))) ?_; (with_reducible refine (laws_toStringS.calls kj37 _ _ l1 t202 _ ?side1 ?side2 A63.out).mono ?_); (case side1 => repeat (first | exact (Kd.C_below HR1.out HB.out) | (with_reducible refine Kd.C_alloc ?_ _) | (with_reducible refine Kd.C_drewN ?_ _) | (with_reducible refine Kd.C_drew ?_))); (case side2 => exact HC1.out); rintro e w71 ⟨v203, rfl, ho0, hb⟩; refine ⟨_, rfl, ?_⟩; have n0_ := Aside0.mk (Kd.R_below (by (with_reducible repeat (first | apply Kd.R_alloc | apply Kd.R_drewN | apply Kd.R_drew)); exact HO_182001.out) hb); have n1_ := Aside0.mk (Kd.R_below (by (with_reducible repeat (first | apply Kd.R_alloc | apply Kd.R_drewN | apply Kd.R_drew)); exact HO_191001.out) hb); have n2_ := Aside0.mk (Kd.R_lower ho0 (below_size (by repeat (first | (with_reducible first | exact HB.out | apply below_alloc | apply pw_below_drewN | apply below_drew1 | refine below_set ?_ GE181.out | refine below_set ?_ GE190.out) | exact HB.out)))); have n3_ := Aside0.mk (blk_below (g := gb181) (o := .cells #[.int .i64 t176, .slice Ao15 t177.length co15] 35 (0, 0)) (by (with_reducible repeat (first | refine blk_drewN ?_ _ | refine blk_drew ?_ | refine blk_alloc ?_ _)); exact BK181.out) hb); have n4_ := Aside0.mk (blk_below (g := gb190) (o := .cells #[.int .i64 t185, .slice Ao22 t186.length co22] 35 (0, 0)) (by (with_reducible repeat (first | refine blk_drewN ?_ _ | refine blk_drew ?_ | refine blk_alloc ?_ _)); exact BK190.out) hb); have n5_ := Aside0.mk (below_step (by repeat (first | (with_reducible first | exact HB.out | apply below_alloc | apply pw_below_drewN | apply below_drew1 | refine below_set ?_ GE181.out | refine below_set ?_ GE190.out) | exact HB.out)) hb); clear HO_182001; clear HO_191001; clear BK181; clear BK190; clear HB; have HO_182001 := n0_; have HO_191001 := n1_; have HO204 := n2_; have BK181 := n3_; have BK190 := n4_; have HB := n5_; clear n0_ n1_ n2_ n3_ n4_ n5_; (try clear hb); (try clear hb2); (try clear hk); (try clear hi); (try clear ho0); obtain ⟨Ao72, co72, eo72⟩ := Kd.R_slice HO204.out; subst eo72) | ((with_reducible refine gate_callee (f := 21) rfl ?_); refine goesL_ (some 81) rfl rfl Try.func21 (by kernel_rfl) rfl #[.int .i64 a0, .slice Ao72 t202.length co72] rfl (by (try simp only [List.map_toArray, List.map_cons, List.map_nil]); first | done | rfl | (simp only [List.length_drop, List.length_take]; rfl) | (go_simp; (repeat' apply And.intro) <;> (simp only [IntKind.wrap_u8]; unfold wrap64; omega))) ?_; (with_reducible refine (impl_TraceSystem.calls kj37 a0 _ _ t202 t205 t206 t209 _ ?side1 ?side2 A64.out).mono ?_); (case side1 => repeat (first | exact (Kd.R_reads' HO204.out).2.2 | (with_reducible refine Kd.C_alloc ?_ _) | (with_reducible refine Kd.C_drewN ?_ _) | (with_reducible refine Kd.C_drew ?_))); (case side2 => exact (Kd.R_reads' HO204.out).2.1); rintro e w73 ⟨v207, rfl, ho0, hb⟩; refine ⟨_, rfl, ?_⟩; have n0_ := Aside0.mk (Kd.R_elder' (by (with_reducible repeat (first | apply Kd.R_alloc | apply Kd.R_drewN | apply Kd.R_drew)); exact HO_182001.out) (Kd.R_base ho0) hb); have n1_ := Aside0.mk (Kd.R_elder' (by (with_reducible repeat (first | apply Kd.R_alloc | apply Kd.R_drewN | apply Kd.R_drew)); exact HO_191001.out) (Kd.R_base ho0) hb); have n2_ := Aside0.mk (Kd.R_below (by (with_reducible repeat (first | apply Kd.R_alloc | apply Kd.R_drewN | apply Kd.R_drew)); exact HO204.out) hb); have n3_ := Aside0.mk (Kd.R_lower (Kd.R_new' (Kd.R_new' ho0 (Kd.R_lt (by (with_reducible repeat (first | apply Kd.R_alloc | apply Kd.R_drewN | apply Kd.R_drew)); exact HO_182001.out))) (Kd.R_lt (by (with_reducible repeat (first | apply Kd.R_alloc | apply Kd.R_drewN | apply Kd.R_drew)); exact HO_191001.out))) (below_size (by repeat (first | (with_reducible first | exact HB.out | apply below_alloc | apply pw_below_drewN | apply below_drew1 | refine below_set ?_ GE181.out | refine below_set ?_ GE190.out) | exact HB.out)))); have n4_ := Aside0.mk (blk_below (g := gb181) (o := .cells #[.int .i64 t176, .slice Ao15 t177.length co15] 35 (0, 0)) (by (with_reducible repeat (first | refine blk_drewN ?_ _ | refine blk_drew ?_ | refine blk_alloc ?_ _)); exact BK181.out) hb); have n5_ := Aside0.mk (blk_below (g := gb190) (o := .cells #[.int .i64 t185, .slice Ao22 t186.length co22] 35 (0, 0)) (by (with_reducible repeat (first | refine blk_drewN ?_ _ | refine blk_drew ?_ | refine blk_alloc ?_ _)); exact BK190.out) hb); have n6_ := Aside0.mk (below_step (by repeat (first | (with_reducible first | exact HB.out | apply below_alloc | apply pw_below_drewN | apply below_drew1 | refine below_set ?_ GE181.out | refine below_set ?_ GE190.out) | exact HB.out)) hb); clear HO_182001; clear HO_191001; clear HO204; clear BK181; clear BK190; clear HB; have HO_182001 := n0_; have HO_191001 := n1_; have HO204 := n2_; have HO208 := n3_; have BK181 := n4_; have BK190 := n5_; have HB := n6_; clear n0_ n1_ n2_ n3_ n4_ n5_ n6_; (try clear hb); (try clear hb2); (try clear hk); (try clear hi); (try clear ho0)) | ((with_reducible refine gate_dst (N := 14) rfl ?_); refine box_event ?hg (N := 14) ?hd (cs := #[.int .i64 0, .slice none 0 0]) (t := 35) ?hr ?_; (case hd => rfl); (case hg => rfl); (case hr => first | (go_simp; done) | (go_simp; rfl)); intro gb210 hg w74 hbox hb; have n0_ := Aside0.mk (Kd.R_below (by (with_reducible repeat (first | apply Kd.R_alloc | apply Kd.R_drewN | apply Kd.R_drew)); exact HO_182001.out) hb); have n1_ := Aside0.mk (Kd.R_below (by (with_reducible repeat (first | apply Kd.R_alloc | apply Kd.R_drewN | apply Kd.R_drew)); exact HO_191001.out) hb); have n2_ := Aside0.mk (Kd.R_below (by (with_reducible repeat (first | apply Kd.R_alloc | apply Kd.R_drewN | apply Kd.R_drew)); exact HO204.out) hb); have n3_ := Aside0.mk (Kd.R_below (by (with_reducible repeat (first | apply Kd.R_alloc | apply Kd.R_drewN | apply Kd.R_drew)); exact HO208.out) hb); have n4_ := Aside0.mk (blk_below (g := gb181) (o := .cells #[.int .i64 t176, .slice Ao15 t177.length co15] 35 (0, 0)) (by (with_reducible repeat (first | refine blk_drewN ?_ _ | refine blk_drew ?_ | refine blk_alloc ?_ _)); exact BK181.out) hb); have n5_ := Aside0.mk (blk_below (g := gb190) (o := .cells #[.int .i64 t185, .slice Ao22 t186.length co22] 35 (0, 0)) (by (with_reducible repeat (first | refine blk_drewN ?_ _ | refine blk_drew ?_ | refine blk_alloc ?_ _)); exact BK190.out) hb); have n6_ := Aside0.mk (below_step (by repeat (first | (with_reducible first | exact HB.out | apply below_alloc | apply pw_below_drewN | apply below_drew1 | refine below_set ?_ GE181.out | refine below_set ?_ GE190.out) | exact HB.out)) hb); have n7_ := Aside0.mk (hbox); have n8_ := Aside0.mk ((by rw [hg]; exact (below_size (by repeat (first | (with_reducible first | exact HB.out | apply below_alloc | apply pw_below_drewN | apply below_drew1 | refine below_set ?_ GE181.out | refine below_set ?_ GE190.out) | exact HB.out))) : w.heap.size ≤ gb210)); have n9_ := Aside0.mk ((by rw [hg]; exact (below_size (by repeat (first | (with_reducible first | exact HB.out | apply below_alloc | apply pw_below_drewN | apply below_drew1 | refine below_set ?_ GE181.out | refine below_set ?_ GE190.out) | exact HB.out))) : w.heap.size ≤ gb210)); have n10_ := Aside0.mk ((by rw [hg]; exact Nat.ne_of_lt (blk_lt (g := gb181) (o := .cells #[.int .i64 t176, .slice Ao15 t177.length co15] 35 (0, 0)) (by (with_reducible repeat (first | refine blk_drewN ?_ _ | refine blk_drew ?_ | refine blk_alloc ?_ _)); exact BK181.out)) : gb181 ≠ gb210)); have n11_ := Aside0.mk ((by rw [hg]; exact Nat.ne_of_gt (blk_lt (g := gb181) (o := .cells #[.int .i64 t176, .slice Ao15 t177.length co15] 35 (0, 0)) (by (with_reducible repeat (first | refine blk_drewN ?_ _ | refine blk_drew ?_ | refine blk_alloc ?_ _)); exact BK181.out)) : gb210 ≠ gb181)); have n12_ := Aside0.mk ((by rw [hg]; exact Nat.ne_of_lt (blk_lt (g := gb190) (o := .cells #[.int .i64 t185, .slice Ao22 t186.length co22] 35 (0, 0)) (by (with_reducible repeat (first | refine blk_drewN ?_ _ | refine blk_drew ?_ | refine blk_alloc ?_ _)); exact BK190.out)) : gb190 ≠ gb210)); have n13_ := Aside0.mk ((by rw [hg]; exact Nat.ne_of_gt (blk_lt (g := gb190) (o := .cells #[.int .i64 t185, .slice Ao22 t186.length co22] 35 (0, 0)) (by (with_reducible repeat (first | refine blk_drewN ?_ _ | refine blk_drew ?_ | refine blk_alloc ?_ _)); exact BK190.out)) : gb210 ≠ gb190)); clear HO_182001; clear HO_191001; clear HO204; clear HO208; clear BK181; clear BK190; clear HB; have HO_182001 := n0_; have HO_191001 := n1_; have HO204 := n2_; have HO208 := n3_; have BK181 := n4_; have BK190 := n5_; have HB := n6_; have BK210 := n7_; have GW210 := n8_; have GE210 := n9_; have NB181_210 := n10_; have NB210_181 := n11_; have NB190_210 := n12_; have NB210_190 := n13_; clear n0_ n1_ n2_ n3_ n4_ n5_ n6_ n7_ n8_ n9_ n10_ n11_ n12_ n13_; clear hb hbox hg; have hnb75 := NB210_181.out; have hnc75 := NB181_210.out; have hnb76 := NB210_190.out; have hnc76 := NB190_210.out; have hcz77_0 : w74.cell? ⟨gb210, 0, none⟩ = some (.int .i64 0) := (blk_cell BK210.out 0).trans rfl; have hcz77_1 : w74.cell? ⟨gb210, 1, none⟩ = some (.slice none 0 0) := (blk_cell BK210.out 1).trans rfl; have hfz77_0 := blk_frozen BK210.out 0; have hfz77_1 := blk_frozen BK210.out 1; obtain ⟨Ao78, co78, eo78⟩ := Kd.R_slice HO208.out; subst eo78))
                      (try simp only [Act.put, List.setIfInBounds_toArray, List.set_cons_zero, List.set_cons_succ])
                      go_cut [92] (fun v92 wc => ∃ (kq : Nat) (x92_64 : Bool), v92 = .bool x92_64 ∧ Aside0 (laws_FnExactTraceSystem.j2 kq t199 x92_64 t185 t200 = some r) ∧ Aside0 (kq ≤ kj37) ∧ Aside0 (Kd.R k55 55 wc w.heap.size (fun k_ => some k_ ≠ ((.slice Ao22 t186.length co22) : Value).ownBlock ∧ some k_ ≠ ((.slice Ao78 t206.length co78) : Value).ownBlock) (.slice Ao15 t177.length co15) t177) ∧ Aside0 (Kd.R k55 55 wc w.heap.size (fun k_ => some k_ ≠ ((.slice Ao15 t177.length co15) : Value).ownBlock ∧ some k_ ≠ ((.slice Ao78 t206.length co78) : Value).ownBlock) (.slice Ao22 t186.length co22) t200) ∧ Aside0 (Kd.R k55 55 wc w.heap.size (fun k_ => some k_ ≠ ((.slice Ao15 t177.length co15) : Value).ownBlock ∧ some k_ ≠ ((.slice Ao22 t186.length co22) : Value).ownBlock) (.slice Ao78 t206.length co78) t206) ∧ Aside0 (wc.heap[gb181]? = some (.cells #[.int .i64 t176, (.slice Ao15 t177.length co15)] 35 (0, 0))) ∧ Aside0 (wc.heap[gb190]? = some (.cells #[.int .i64 t185, (.slice Ao22 t186.length co22)] 35 (0, 0))) ∧ Aside0 (wc.heap[gb210]? = some (.cells #[.int .i64 t205, (.slice Ao78 t206.length co78)] 35 (0, 0))) ∧ Aside0 (Below w.heap.size w wc))
                      case first =>
                        have H := HC65.out
                        clear HC65
                        replace H := Option.bind_eq_some_iff.mp H
                        obtain ⟨t211, A790, H⟩ := H
                        replace H : (if t211 = true then (laws_FnExactTraceSystem.j2 kj37 t199 (t209 != t180) t185 t200) else (laws_FnExactTraceSystem.j2 kj37 t199 true t185 t200)) = some r := H
                        have A79 := Aside0.mk A790
                        clear A790
                        by_cases c80 : t211 = true
                        · subst c80
                          have H1 : (laws_FnExactTraceSystem.j2 kj37 t199 (t209 != t180) t185 t200) = some r := by rw [if_pos rfl] at H; exact H
                          clear H
                          have H := H1
                          clear H1
                          have H' := Aside0.mk H
                          clear H
                          have hnb81 := NB210_181.out
                          have hnc81 := NB181_210.out
                          have hnb82 := NB210_190.out
                          have hnc82 := NB190_210.out
                          have hcz83_0 : w74.cell? ⟨gb210, 0, none⟩ = some (.int .i64 0) := (blk_cell BK210.out 0).trans rfl
                          have hcz83_1 : w74.cell? ⟨gb210, 1, none⟩ = some (.slice none 0 0) := (blk_cell BK210.out 1).trans rfl
                          have hfz83_0 := blk_frozen BK210.out 0
                          have hfz83_1 := blk_frozen BK210.out 1
                          have hnb84 := NB181_190.out
                          have hnc84 := NB190_181.out
                          have hcz85_0 : w74.cell? ⟨gb181, 0, none⟩ = some (.int .i64 t176) := (blk_cell BK181.out 0).trans rfl
                          have hcz85_1 : w74.cell? ⟨gb181, 1, none⟩ = some (.slice Ao15 t177.length co15) := (blk_cell BK181.out 1).trans rfl
                          have hfz85_0 := blk_frozen BK181.out 0
                          have hfz85_1 := blk_frozen BK181.out 1
                          go_wp2_with (first | ((with_reducible refine gate_callee (f := 22) rfl ?_); refine goesL_ (some 86) rfl rfl Try.func22 (by kernel_rfl) rfl #[.agg #[.int .i64 t205, .slice Ao78 t206.length co78], .agg #[.int .i64 t176, .slice Ao15 t177.length co15]] rfl (by (try simp only [List.map_toArray, List.map_cons, List.map_nil]); first | done | rfl | (simp only [List.length_drop, List.length_take]; rfl) | (go_simp; (repeat' apply And.intro) <;> (simp only [IntKind.wrap_u8]; unfold wrap64; omega))) ?_; (with_reducible refine (laws_eqSystem.calls kj37 t205 _ _ t206 t176 _ _ t177 true _ ?side1 ?side2 ?side3 ?side4 A79.out).mono ?_); (case side1 => refine (Kd.R_reads' (e := 55) (base := w.heap.size) (ok := fun k_ => ((True ∧ some k_ ≠ (.slice Ao15 t177.length co15 : Value).ownBlock) ∧ some k_ ≠ (.slice Ao22 t186.length co22 : Value).ownBlock)) (n := t206.length) (c := co78) ?_).2.2; exact (by (with_reducible repeat (first | apply Kd.R_alloc | apply Kd.R_drewN | apply Kd.R_drew)); exact (Kd.R_mono (Kd.R_far (p := ⟨gb210, 1, none⟩) (Kd.R_far (p := ⟨gb210, 0, none⟩) (Kd.R_types HO208.out BK210.out (by decide)) (fun _ hk => hk.2) (.int .i64 t205)) (fun _ hk => hk.2) (.slice Ao78 t206.length co78)) (fun _ h_ => h_.1)))); (case side2 => exact (Kd.R_reads' HO208.out).2.1); (case side3 => refine (Kd.R_reads' (e := 55) (base := w.heap.size) (ok := fun k_ => (some k_ ≠ (.slice Ao22 t186.length co22 : Value).ownBlock ∧ some k_ ≠ (.slice Ao78 t206.length co78 : Value).ownBlock)) (n := t177.length) (c := co15) ?_).2.2; exact (by (with_reducible repeat (first | apply Kd.R_alloc | apply Kd.R_drewN | apply Kd.R_drew)); exact (Kd.R_mono (Kd.R_far (p := ⟨gb210, 1, none⟩) (Kd.R_far (p := ⟨gb210, 0, none⟩) (Kd.R_types HO_182001.out BK210.out (by decide)) (fun _ hk => hk.2) (.int .i64 t205)) (fun _ hk => hk.2) (.slice Ao78 t206.length co78)) (fun _ h_ => h_.1)))); (case side4 => exact (Kd.R_reads' HO_182001.out).2.1); rintro e w86 ⟨rfl, hb⟩; refine ⟨_, rfl, ?_⟩; have n0_ := Aside0.mk (Kd.R_below (by (with_reducible repeat (first | apply Kd.R_alloc | apply Kd.R_drewN | apply Kd.R_drew)); exact (Kd.R_mono (Kd.R_far (p := ⟨gb210, 1, none⟩) (Kd.R_far (p := ⟨gb210, 0, none⟩) (Kd.R_types HO_182001.out BK210.out (by decide)) (fun _ hk => hk.2) (.int .i64 t205)) (fun _ hk => hk.2) (.slice Ao78 t206.length co78)) (fun _ h_ => h_.1))) hb); have n1_ := Aside0.mk (Kd.R_below (by (with_reducible repeat (first | apply Kd.R_alloc | apply Kd.R_drewN | apply Kd.R_drew)); exact (Kd.R_mono (Kd.R_far (p := ⟨gb210, 1, none⟩) (Kd.R_far (p := ⟨gb210, 0, none⟩) (Kd.R_types HO_191001.out BK210.out (by decide)) (fun _ hk => hk.2) (.int .i64 t205)) (fun _ hk => hk.2) (.slice Ao78 t206.length co78)) (fun _ h_ => h_.1))) hb); have n2_ := Aside0.mk (Kd.R_below (by (with_reducible repeat (first | apply Kd.R_alloc | apply Kd.R_drewN | apply Kd.R_drew)); exact (Kd.R_mono (Kd.R_far (p := ⟨gb210, 1, none⟩) (Kd.R_far (p := ⟨gb210, 0, none⟩) (Kd.R_types HO204.out BK210.out (by decide)) (fun _ hk => hk.2) (.int .i64 t205)) (fun _ hk => hk.2) (.slice Ao78 t206.length co78)) (fun _ h_ => h_.1))) hb); have n3_ := Aside0.mk (Kd.R_below (by (with_reducible repeat (first | apply Kd.R_alloc | apply Kd.R_drewN | apply Kd.R_drew)); exact (Kd.R_mono (Kd.R_far (p := ⟨gb210, 1, none⟩) (Kd.R_far (p := ⟨gb210, 0, none⟩) (Kd.R_types HO208.out BK210.out (by decide)) (fun _ hk => hk.2) (.int .i64 t205)) (fun _ hk => hk.2) (.slice Ao78 t206.length co78)) (fun _ h_ => h_.1))) hb); have n4_ := Aside0.mk (blk_below (g := gb181) (o := .cells #[.int .i64 t176, .slice Ao15 t177.length co15] 35 (0, 0)) (by (with_reducible repeat (first | refine blk_drewN ?_ _ | refine blk_drew ?_ | refine blk_alloc ?_ _)); refine blk_far ?_ NB181_210.out _; (with_reducible repeat (first | refine blk_drewN ?_ _ | refine blk_drew ?_ | refine blk_alloc ?_ _)); refine blk_far ?_ NB181_210.out _; (with_reducible repeat (first | refine blk_drewN ?_ _ | refine blk_drew ?_ | refine blk_alloc ?_ _)); exact BK181.out) hb); have n5_ := Aside0.mk (blk_below (g := gb190) (o := .cells #[.int .i64 t185, .slice Ao22 t186.length co22] 35 (0, 0)) (by (with_reducible repeat (first | refine blk_drewN ?_ _ | refine blk_drew ?_ | refine blk_alloc ?_ _)); refine blk_far ?_ NB190_210.out _; (with_reducible repeat (first | refine blk_drewN ?_ _ | refine blk_drew ?_ | refine blk_alloc ?_ _)); refine blk_far ?_ NB190_210.out _; (with_reducible repeat (first | refine blk_drewN ?_ _ | refine blk_drew ?_ | refine blk_alloc ?_ _)); exact BK190.out) hb); have n6_ := Aside0.mk (blk_below (g := gb210) (o := .cells #[.int .i64 t205, .slice Ao78 t206.length co78] 35 (0, 0)) (by (with_reducible repeat (first | refine blk_drewN ?_ _ | refine blk_drew ?_ | refine blk_alloc ?_ _)); refine blk_put (cs := #[.int .i64 t205, .slice none 0 0]) ?_ 1 _ rfl; (with_reducible repeat (first | refine blk_drewN ?_ _ | refine blk_drew ?_ | refine blk_alloc ?_ _)); refine blk_put (cs := #[.int .i64 0, .slice none 0 0]) ?_ 0 _ rfl; (with_reducible repeat (first | refine blk_drewN ?_ _ | refine blk_drew ?_ | refine blk_alloc ?_ _)); exact BK210.out) hb); have n7_ := Aside0.mk (below_step (by repeat (first | (with_reducible first | exact HB.out | apply below_alloc | apply pw_below_drewN | apply below_drew1 | refine below_set ?_ GE181.out | refine below_set ?_ GE190.out | refine below_set ?_ GE210.out) | exact HB.out)) hb); clear HO_182001; clear HO_191001; clear HO204; clear HO208; clear BK181; clear BK190; clear BK210; clear HB; have HO_182001 := n0_; have HO_191001 := n1_; have HO204 := n2_; have HO208 := n3_; have BK181 := n4_; have BK190 := n5_; have BK210 := n6_; have HB := n7_; clear n0_ n1_ n2_ n3_ n4_ n5_ n6_ n7_; (try clear hb); (try clear hb2); (try clear hk); (try clear hi)))
                          go_meet
                          case rel => exact ⟨_, ((t209 != t180)), (by first | rfl | (simp; done) | (simp [*]; done)), H', ⟨by have := HJ8.out; have := HJ37.out; first | omega | exact Nat.le_refl _⟩, ⟨by (with_reducible repeat (first | apply Kd.R_alloc | apply Kd.R_drewN | apply Kd.R_drew)); exact HO_182001.out⟩, ⟨by (with_reducible repeat (first | apply Kd.R_alloc | apply Kd.R_drewN | apply Kd.R_drew)); exact HO_191001.out⟩, ⟨by (with_reducible repeat (first | apply Kd.R_alloc | apply Kd.R_drewN | apply Kd.R_drew)); exact Kd.R_mono HO208.out (fun _ hk => ⟨hk.1.2, hk.2⟩)⟩, ⟨by (with_reducible repeat (first | refine blk_drewN ?_ _ | refine blk_drew ?_ | refine blk_alloc ?_ _)); exact BK181.out⟩, ⟨by (with_reducible repeat (first | refine blk_drewN ?_ _ | refine blk_drew ?_ | refine blk_alloc ?_ _)); exact BK190.out⟩, ⟨by (with_reducible repeat (first | refine blk_drewN ?_ _ | refine blk_drew ?_ | refine blk_alloc ?_ _)); exact BK210.out⟩, ⟨by repeat (first | (with_reducible first | exact HB.out | apply below_alloc | apply pw_below_drewN | apply below_drew1 | refine below_set ?_ GE181.out | refine below_set ?_ GE190.out | refine below_set ?_ GE210.out) | exact HB.out)⟩⟩
                        · replace c80 := Bool.eq_false_iff.mpr c80
                          subst c80
                          have H1 : (laws_FnExactTraceSystem.j2 kj37 t199 true t185 t200) = some r := by rw [if_neg (show ¬ (false = true) by decide)] at H; exact H
                          clear H
                          have H := H1
                          clear H1
                          have H' := Aside0.mk H
                          clear H
                          have hnb87 := NB210_181.out
                          have hnc87 := NB181_210.out
                          have hnb88 := NB210_190.out
                          have hnc88 := NB190_210.out
                          have hcz89_0 : w74.cell? ⟨gb210, 0, none⟩ = some (.int .i64 0) := (blk_cell BK210.out 0).trans rfl
                          have hcz89_1 : w74.cell? ⟨gb210, 1, none⟩ = some (.slice none 0 0) := (blk_cell BK210.out 1).trans rfl
                          have hfz89_0 := blk_frozen BK210.out 0
                          have hfz89_1 := blk_frozen BK210.out 1
                          have hnb90 := NB181_190.out
                          have hnc90 := NB190_181.out
                          have hcz91_0 : w74.cell? ⟨gb181, 0, none⟩ = some (.int .i64 t176) := (blk_cell BK181.out 0).trans rfl
                          have hcz91_1 : w74.cell? ⟨gb181, 1, none⟩ = some (.slice Ao15 t177.length co15) := (blk_cell BK181.out 1).trans rfl
                          have hfz91_0 := blk_frozen BK181.out 0
                          have hfz91_1 := blk_frozen BK181.out 1
                          go_wp2_with (first | ((with_reducible refine gate_callee (f := 22) rfl ?_); refine goesL_ (some 86) rfl rfl Try.func22 (by kernel_rfl) rfl #[.agg #[.int .i64 t205, .slice Ao78 t206.length co78], .agg #[.int .i64 t176, .slice Ao15 t177.length co15]] rfl (by (try simp only [List.map_toArray, List.map_cons, List.map_nil]); first | done | rfl | (simp only [List.length_drop, List.length_take]; rfl) | (go_simp; (repeat' apply And.intro) <;> (simp only [IntKind.wrap_u8]; unfold wrap64; omega))) ?_; (with_reducible refine (laws_eqSystem.calls kj37 t205 _ _ t206 t176 _ _ t177 false _ ?side1 ?side2 ?side3 ?side4 A79.out).mono ?_); (case side1 => refine (Kd.R_reads' (e := 55) (base := w.heap.size) (ok := fun k_ => ((True ∧ some k_ ≠ (.slice Ao15 t177.length co15 : Value).ownBlock) ∧ some k_ ≠ (.slice Ao22 t186.length co22 : Value).ownBlock)) (n := t206.length) (c := co78) ?_).2.2; exact (by (with_reducible repeat (first | apply Kd.R_alloc | apply Kd.R_drewN | apply Kd.R_drew)); exact (Kd.R_mono (Kd.R_far (p := ⟨gb210, 1, none⟩) (Kd.R_far (p := ⟨gb210, 0, none⟩) (Kd.R_types HO208.out BK210.out (by decide)) (fun _ hk => hk.2) (.int .i64 t205)) (fun _ hk => hk.2) (.slice Ao78 t206.length co78)) (fun _ h_ => h_.1)))); (case side2 => exact (Kd.R_reads' HO208.out).2.1); (case side3 => refine (Kd.R_reads' (e := 55) (base := w.heap.size) (ok := fun k_ => (some k_ ≠ (.slice Ao22 t186.length co22 : Value).ownBlock ∧ some k_ ≠ (.slice Ao78 t206.length co78 : Value).ownBlock)) (n := t177.length) (c := co15) ?_).2.2; exact (by (with_reducible repeat (first | apply Kd.R_alloc | apply Kd.R_drewN | apply Kd.R_drew)); exact (Kd.R_mono (Kd.R_far (p := ⟨gb210, 1, none⟩) (Kd.R_far (p := ⟨gb210, 0, none⟩) (Kd.R_types HO_182001.out BK210.out (by decide)) (fun _ hk => hk.2) (.int .i64 t205)) (fun _ hk => hk.2) (.slice Ao78 t206.length co78)) (fun _ h_ => h_.1)))); (case side4 => exact (Kd.R_reads' HO_182001.out).2.1); rintro e w92 ⟨rfl, hb⟩; refine ⟨_, rfl, ?_⟩; have n0_ := Aside0.mk (Kd.R_below (by (with_reducible repeat (first | apply Kd.R_alloc | apply Kd.R_drewN | apply Kd.R_drew)); exact (Kd.R_mono (Kd.R_far (p := ⟨gb210, 1, none⟩) (Kd.R_far (p := ⟨gb210, 0, none⟩) (Kd.R_types HO_182001.out BK210.out (by decide)) (fun _ hk => hk.2) (.int .i64 t205)) (fun _ hk => hk.2) (.slice Ao78 t206.length co78)) (fun _ h_ => h_.1))) hb); have n1_ := Aside0.mk (Kd.R_below (by (with_reducible repeat (first | apply Kd.R_alloc | apply Kd.R_drewN | apply Kd.R_drew)); exact (Kd.R_mono (Kd.R_far (p := ⟨gb210, 1, none⟩) (Kd.R_far (p := ⟨gb210, 0, none⟩) (Kd.R_types HO_191001.out BK210.out (by decide)) (fun _ hk => hk.2) (.int .i64 t205)) (fun _ hk => hk.2) (.slice Ao78 t206.length co78)) (fun _ h_ => h_.1))) hb); have n2_ := Aside0.mk (Kd.R_below (by (with_reducible repeat (first | apply Kd.R_alloc | apply Kd.R_drewN | apply Kd.R_drew)); exact (Kd.R_mono (Kd.R_far (p := ⟨gb210, 1, none⟩) (Kd.R_far (p := ⟨gb210, 0, none⟩) (Kd.R_types HO204.out BK210.out (by decide)) (fun _ hk => hk.2) (.int .i64 t205)) (fun _ hk => hk.2) (.slice Ao78 t206.length co78)) (fun _ h_ => h_.1))) hb); have n3_ := Aside0.mk (Kd.R_below (by (with_reducible repeat (first | apply Kd.R_alloc | apply Kd.R_drewN | apply Kd.R_drew)); exact (Kd.R_mono (Kd.R_far (p := ⟨gb210, 1, none⟩) (Kd.R_far (p := ⟨gb210, 0, none⟩) (Kd.R_types HO208.out BK210.out (by decide)) (fun _ hk => hk.2) (.int .i64 t205)) (fun _ hk => hk.2) (.slice Ao78 t206.length co78)) (fun _ h_ => h_.1))) hb); have n4_ := Aside0.mk (blk_below (g := gb181) (o := .cells #[.int .i64 t176, .slice Ao15 t177.length co15] 35 (0, 0)) (by (with_reducible repeat (first | refine blk_drewN ?_ _ | refine blk_drew ?_ | refine blk_alloc ?_ _)); refine blk_far ?_ NB181_210.out _; (with_reducible repeat (first | refine blk_drewN ?_ _ | refine blk_drew ?_ | refine blk_alloc ?_ _)); refine blk_far ?_ NB181_210.out _; (with_reducible repeat (first | refine blk_drewN ?_ _ | refine blk_drew ?_ | refine blk_alloc ?_ _)); exact BK181.out) hb); have n5_ := Aside0.mk (blk_below (g := gb190) (o := .cells #[.int .i64 t185, .slice Ao22 t186.length co22] 35 (0, 0)) (by (with_reducible repeat (first | refine blk_drewN ?_ _ | refine blk_drew ?_ | refine blk_alloc ?_ _)); refine blk_far ?_ NB190_210.out _; (with_reducible repeat (first | refine blk_drewN ?_ _ | refine blk_drew ?_ | refine blk_alloc ?_ _)); refine blk_far ?_ NB190_210.out _; (with_reducible repeat (first | refine blk_drewN ?_ _ | refine blk_drew ?_ | refine blk_alloc ?_ _)); exact BK190.out) hb); have n6_ := Aside0.mk (blk_below (g := gb210) (o := .cells #[.int .i64 t205, .slice Ao78 t206.length co78] 35 (0, 0)) (by (with_reducible repeat (first | refine blk_drewN ?_ _ | refine blk_drew ?_ | refine blk_alloc ?_ _)); refine blk_put (cs := #[.int .i64 t205, .slice none 0 0]) ?_ 1 _ rfl; (with_reducible repeat (first | refine blk_drewN ?_ _ | refine blk_drew ?_ | refine blk_alloc ?_ _)); refine blk_put (cs := #[.int .i64 0, .slice none 0 0]) ?_ 0 _ rfl; (with_reducible repeat (first | refine blk_drewN ?_ _ | refine blk_drew ?_ | refine blk_alloc ?_ _)); exact BK210.out) hb); have n7_ := Aside0.mk (below_step (by repeat (first | (with_reducible first | exact HB.out | apply below_alloc | apply pw_below_drewN | apply below_drew1 | refine below_set ?_ GE181.out | refine below_set ?_ GE190.out | refine below_set ?_ GE210.out) | exact HB.out)) hb); clear HO_182001; clear HO_191001; clear HO204; clear HO208; clear BK181; clear BK190; clear BK210; clear HB; have HO_182001 := n0_; have HO_191001 := n1_; have HO204 := n2_; have HO208 := n3_; have BK181 := n4_; have BK190 := n5_; have BK210 := n6_; have HB := n7_; clear n0_ n1_ n2_ n3_ n4_ n5_ n6_ n7_; (try clear hb); (try clear hb2); (try clear hk); (try clear hi)))
                          go_meet
                          case rel => exact ⟨_, (true), (by first | rfl | (simp; done) | (simp [*]; done)), H', ⟨by have := HJ8.out; have := HJ37.out; first | omega | exact Nat.le_refl _⟩, ⟨by (with_reducible repeat (first | apply Kd.R_alloc | apply Kd.R_drewN | apply Kd.R_drew)); exact HO_182001.out⟩, ⟨by (with_reducible repeat (first | apply Kd.R_alloc | apply Kd.R_drewN | apply Kd.R_drew)); exact HO_191001.out⟩, ⟨by (with_reducible repeat (first | apply Kd.R_alloc | apply Kd.R_drewN | apply Kd.R_drew)); exact Kd.R_mono HO208.out (fun _ hk => ⟨hk.1.2, hk.2⟩)⟩, ⟨by (with_reducible repeat (first | refine blk_drewN ?_ _ | refine blk_drew ?_ | refine blk_alloc ?_ _)); exact BK181.out⟩, ⟨by (with_reducible repeat (first | refine blk_drewN ?_ _ | refine blk_drew ?_ | refine blk_alloc ?_ _)); exact BK190.out⟩, ⟨by (with_reducible repeat (first | refine blk_drewN ?_ _ | refine blk_drew ?_ | refine blk_alloc ?_ _)); exact BK210.out⟩, ⟨by repeat (first | (with_reducible first | exact HB.out | apply below_alloc | apply pw_below_drewN | apply below_drew1 | refine below_set ?_ GE181.out | refine below_set ?_ GE190.out | refine below_set ?_ GE210.out) | exact HB.out)⟩⟩
                      case rest =>
                        clear HC65
                        try clear c1
                        try clear c2
                        try clear p2
                        try clear c3
                        try clear c4
                        try clear c4b0
                        try clear c5
                        try clear c6
                        try clear p6
                        try clear c7
                        try clear c8
                        try clear c9
                        try clear c11
                        try clear c13
                        try clear c14
                        try clear c20
                        try clear c21
                        try clear c22
                        try clear c23
                        try clear c24
                        try clear c25
                        try clear c29
                        try clear c33
                        try clear c36
                        try clear c42
                        try clear c42b0
                        try clear c44
                        try clear c45
                        try clear c49
                        try clear c53
                        try clear c56
                        try clear c56b0
                        try clear c57
                        try clear c62
                        try clear c62b0
                        try clear c62b1
                        try clear p64
                        try clear c66
                        try clear c75
                        try clear c76
                        try clear c80
                        try clear c81
                        try clear c82
                        try clear c84
                        try clear c87
                        try clear c88
                        try clear c90
                        try clear hcz14_0
                        try clear hcz14_1
                        try clear hcz21_0
                        try clear hcz21_1
                        try clear hcz26_0
                        try clear hcz26_1
                        try clear hcz27_0
                        try clear hcz27_1
                        try clear hcz30_0
                        try clear hcz30_1
                        try clear hcz31_0
                        try clear hcz31_1
                        try clear hcz46_0
                        try clear hcz46_1
                        try clear hcz47_0
                        try clear hcz47_1
                        try clear hcz50_0
                        try clear hcz50_1
                        try clear hcz51_0
                        try clear hcz51_1
                        try clear hcz58_0
                        try clear hcz58_1
                        try clear hcz60_0
                        try clear hcz60_1
                        try clear hcz67_0
                        try clear hcz67_1
                        try clear hcz69_0
                        try clear hcz69_1
                        try clear hcz77_0
                        try clear hcz77_1
                        try clear hcz83_0
                        try clear hcz83_1
                        try clear hcz85_0
                        try clear hcz85_1
                        try clear hcz89_0
                        try clear hcz89_1
                        try clear hcz91_0
                        try clear hcz91_1
                        try clear hfz14_0
                        try clear hfz14_1
                        try clear hfz21_0
                        try clear hfz21_1
                        try clear hfz26_0
                        try clear hfz26_1
                        try clear hfz27_0
                        try clear hfz27_1
                        try clear hfz30_0
                        try clear hfz30_1
                        try clear hfz31_0
                        try clear hfz31_1
                        try clear hfz46_0
                        try clear hfz46_1
                        try clear hfz47_0
                        try clear hfz47_1
                        try clear hfz50_0
                        try clear hfz50_1
                        try clear hfz51_0
                        try clear hfz51_1
                        try clear hfz58_0
                        try clear hfz58_1
                        try clear hfz60_0
                        try clear hfz60_1
                        try clear hfz67_0
                        try clear hfz67_1
                        try clear hfz69_0
                        try clear hfz69_1
                        try clear hfz77_0
                        try clear hfz77_1
                        try clear hfz83_0
                        try clear hfz83_1
                        try clear hfz85_0
                        try clear hfz85_1
                        try clear hfz89_0
                        try clear hfz89_1
                        try clear hfz91_0
                        try clear hfz91_1
                        try clear p2
                        try clear p6
                        obtain ⟨kq, x92_64, rfl, HA, HJ64, HO_182001, HO_191001, HO_211001, BK181, BK190, BK210, HB⟩ := hcut
                        have hl191001_64 := (Kd.R_reads' HO_191001.out).1
                        rw [hl191001_64] at HO_191001
                        (try simp only [hl191001_64])
                        (try simp only [hl191001_64] at BK181)
                        (try simp only [hl191001_64] at BK190)
                        (try simp only [hl191001_64] at BK210)
                        (try simp only [hl191001_64] at HO_182001)
                        (try simp only [hl191001_64] at HO_211001)
                        cases kq with
                        | zero => exact absurd HA.out (by simp [laws_FnExactTraceSystem.j2])
                        | succ kj64 =>
                          have H := HA.out
                          clear HA
                          simp only [laws_FnExactTraceSystem.j2] at H
                          by_cases c93 : x92_64 = true
                          · subst c93
                            have H1 : (some false) = some r := by rw [if_pos rfl] at H; exact H
                            clear H
                            have H := H1
                            clear H1
                            obtain rfl := Option.some.inj H
                            go_wp2
                            go_ret
                            exact ⟨by first | rfl | (simp [errW_none, errW_some] <;> rfl) | (simp [*, errW_none, errW_some] <;> rfl), by repeat (first | (with_reducible first | exact HB.out | apply below_alloc | apply pw_below_drewN | apply below_drew1 | refine below_set ?_ GE181.out | refine below_set ?_ GE190.out | refine below_set ?_ GE210.out) | exact HB.out)⟩
                          · replace c93 := Bool.eq_false_iff.mpr c93
                            subst c93
                            have H1 : ((laws_heldSystem.f kj64 t185 t200 1).bind fun t212 => (if t212 < 0 then (some false) else (if t212 = t199 then (some true) else (some false)))) = some r := by rw [if_neg (show ¬ (false = true) by decide)] at H; exact H
                            clear H
                            have H := H1
                            clear H1
                            replace H := Option.bind_eq_some_iff.mp H
                            obtain ⟨t212, A940, H⟩ := H
                            replace H : (if t212 < 0 then (some false) else (if t212 = t199 then (some true) else (some false))) = some r := H
                            have A94 := Aside0.mk A940
                            clear A940
                            by_cases c95 : t212 < 0
                            · rw [if_pos c95] at H
                              have c95b0 : decide (t212 < 0) = true := decide_eq_true c95
                              clear c95
                              obtain rfl := Option.some.inj H
                              have hnb96 := NB190_181.out
                              have hnc96 := NB181_190.out
                              have hnb97 := NB190_210.out
                              have hnc97 := NB210_190.out
                              have hcz98_0 : wc.cell? ⟨gb190, 0, none⟩ = some (.int .i64 t185) := (blk_cell BK190.out 0).trans rfl
                              have hcz98_1 : wc.cell? ⟨gb190, 1, none⟩ = some (.slice Ao22 t200.length co22) := (blk_cell BK190.out 1).trans rfl
                              have hfz98_0 := blk_frozen BK190.out 0
                              have hfz98_1 := blk_frozen BK190.out 1
                              go_wp2_with (first | ((with_reducible refine gate_callee (f := 24) rfl ?_); refine goesL_ (some 95) rfl rfl Try.func24 (by kernel_rfl) rfl #[.agg #[.int .i64 t185, .slice Ao22 t200.length co22], .int .i64 1] rfl (by (try simp only [List.map_toArray, List.map_cons, List.map_nil]); first | done | rfl | (simp only [List.length_drop, List.length_take]; rfl) | (go_simp; (repeat' apply And.intro) <;> (simp only [IntKind.wrap_u8]; unfold wrap64; omega))) ?_; (with_reducible refine (laws_heldSystem.calls kj64 t185 _ _ t200 1 t212 _ ?side1 ?side2 A94.out).mono ?_); (case side1 => repeat (first | exact (Kd.R_reads' HO_191001.out).2.2 | (with_reducible refine Kd.C_alloc ?_ _) | (with_reducible refine Kd.C_drewN ?_ _) | (with_reducible refine Kd.C_drew ?_))); (case side2 => exact (Kd.R_reads' HO_191001.out).2.1); rintro e w99 ⟨rfl, hb⟩; refine ⟨_, rfl, ?_⟩; have n0_ := Aside0.mk (Kd.R_below (by (with_reducible repeat (first | apply Kd.R_alloc | apply Kd.R_drewN | apply Kd.R_drew)); exact HO_182001.out) hb); have n1_ := Aside0.mk (Kd.R_below (by (with_reducible repeat (first | apply Kd.R_alloc | apply Kd.R_drewN | apply Kd.R_drew)); exact HO_191001.out) hb); have n2_ := Aside0.mk (Kd.R_below (by (with_reducible repeat (first | apply Kd.R_alloc | apply Kd.R_drewN | apply Kd.R_drew)); exact HO_211001.out) hb); have n3_ := Aside0.mk (blk_below (g := gb181) (o := .cells #[.int .i64 t176, .slice Ao15 t177.length co15] 35 (0, 0)) (by (with_reducible repeat (first | refine blk_drewN ?_ _ | refine blk_drew ?_ | refine blk_alloc ?_ _)); exact BK181.out) hb); have n4_ := Aside0.mk (blk_below (g := gb190) (o := .cells #[.int .i64 t185, .slice Ao22 t200.length co22] 35 (0, 0)) (by (with_reducible repeat (first | refine blk_drewN ?_ _ | refine blk_drew ?_ | refine blk_alloc ?_ _)); exact BK190.out) hb); have n5_ := Aside0.mk (blk_below (g := gb210) (o := .cells #[.int .i64 t205, .slice Ao78 t206.length co78] 35 (0, 0)) (by (with_reducible repeat (first | refine blk_drewN ?_ _ | refine blk_drew ?_ | refine blk_alloc ?_ _)); exact BK210.out) hb); have n6_ := Aside0.mk (below_step (by repeat (first | (with_reducible first | exact HB.out | apply below_alloc | apply pw_below_drewN | apply below_drew1 | refine below_set ?_ GE181.out | refine below_set ?_ GE190.out | refine below_set ?_ GE210.out) | exact HB.out)) hb); clear HO_182001; clear HO_191001; clear HO_211001; clear BK181; clear BK190; clear BK210; clear HB; have HO_182001 := n0_; have HO_191001 := n1_; have HO_211001 := n2_; have BK181 := n3_; have BK190 := n4_; have BK210 := n5_; have HB := n6_; clear n0_ n1_ n2_ n3_ n4_ n5_ n6_; (try clear hb); (try clear hb2); (try clear hk); (try clear hi)))
                              go_ret
                              exact ⟨by first | rfl | (simp [errW_none, errW_some] <;> rfl) | (simp [*, errW_none, errW_some] <;> rfl), by repeat (first | (with_reducible first | exact HB.out | apply below_alloc | apply pw_below_drewN | apply below_drew1 | refine below_set ?_ GE181.out | refine below_set ?_ GE190.out | refine below_set ?_ GE210.out) | exact HB.out)⟩
                            · rw [if_neg c95] at H
                              have c95b0 : decide (t212 < 0) = false := decide_eq_false c95
                              clear c95
                              by_cases c100 : t212 = t199
                              · rw [if_pos c100] at H
                                have c100b0 : (t212 == t199) = true := beq_iff_eq.mpr c100
                                have c100b1 : (t212 != t199) = false := bne_eq_false_iff_eq.mpr c100
                                clear c100
                                obtain rfl := Option.some.inj H
                                have hnb101 := NB190_181.out
                                have hnc101 := NB181_190.out
                                have hnb102 := NB190_210.out
                                have hnc102 := NB210_190.out
                                have hcz103_0 : wc.cell? ⟨gb190, 0, none⟩ = some (.int .i64 t185) := (blk_cell BK190.out 0).trans rfl
                                have hcz103_1 : wc.cell? ⟨gb190, 1, none⟩ = some (.slice Ao22 t200.length co22) := (blk_cell BK190.out 1).trans rfl
                                have hfz103_0 := blk_frozen BK190.out 0
                                have hfz103_1 := blk_frozen BK190.out 1
                                go_wp2_with (first | ((with_reducible refine gate_callee (f := 24) rfl ?_); refine goesL_ (some 95) rfl rfl Try.func24 (by kernel_rfl) rfl #[.agg #[.int .i64 t185, .slice Ao22 t200.length co22], .int .i64 1] rfl (by (try simp only [List.map_toArray, List.map_cons, List.map_nil]); first | done | rfl | (simp only [List.length_drop, List.length_take]; rfl) | (go_simp; (repeat' apply And.intro) <;> (simp only [IntKind.wrap_u8]; unfold wrap64; omega))) ?_; (with_reducible refine (laws_heldSystem.calls kj64 t185 _ _ t200 1 t212 _ ?side1 ?side2 A94.out).mono ?_); (case side1 => repeat (first | exact (Kd.R_reads' HO_191001.out).2.2 | (with_reducible refine Kd.C_alloc ?_ _) | (with_reducible refine Kd.C_drewN ?_ _) | (with_reducible refine Kd.C_drew ?_))); (case side2 => exact (Kd.R_reads' HO_191001.out).2.1); rintro e w104 ⟨rfl, hb⟩; refine ⟨_, rfl, ?_⟩; have n0_ := Aside0.mk (Kd.R_below (by (with_reducible repeat (first | apply Kd.R_alloc | apply Kd.R_drewN | apply Kd.R_drew)); exact HO_182001.out) hb); have n1_ := Aside0.mk (Kd.R_below (by (with_reducible repeat (first | apply Kd.R_alloc | apply Kd.R_drewN | apply Kd.R_drew)); exact HO_191001.out) hb); have n2_ := Aside0.mk (Kd.R_below (by (with_reducible repeat (first | apply Kd.R_alloc | apply Kd.R_drewN | apply Kd.R_drew)); exact HO_211001.out) hb); have n3_ := Aside0.mk (blk_below (g := gb181) (o := .cells #[.int .i64 t176, .slice Ao15 t177.length co15] 35 (0, 0)) (by (with_reducible repeat (first | refine blk_drewN ?_ _ | refine blk_drew ?_ | refine blk_alloc ?_ _)); exact BK181.out) hb); have n4_ := Aside0.mk (blk_below (g := gb190) (o := .cells #[.int .i64 t185, .slice Ao22 t200.length co22] 35 (0, 0)) (by (with_reducible repeat (first | refine blk_drewN ?_ _ | refine blk_drew ?_ | refine blk_alloc ?_ _)); exact BK190.out) hb); have n5_ := Aside0.mk (blk_below (g := gb210) (o := .cells #[.int .i64 t205, .slice Ao78 t206.length co78] 35 (0, 0)) (by (with_reducible repeat (first | refine blk_drewN ?_ _ | refine blk_drew ?_ | refine blk_alloc ?_ _)); exact BK210.out) hb); have n6_ := Aside0.mk (below_step (by repeat (first | (with_reducible first | exact HB.out | apply below_alloc | apply pw_below_drewN | apply below_drew1 | refine below_set ?_ GE181.out | refine below_set ?_ GE190.out | refine below_set ?_ GE210.out) | exact HB.out)) hb); clear HO_182001; clear HO_191001; clear HO_211001; clear BK181; clear BK190; clear BK210; clear HB; have HO_182001 := n0_; have HO_191001 := n1_; have HO_211001 := n2_; have BK181 := n3_; have BK190 := n4_; have BK210 := n5_; have HB := n6_; clear n0_ n1_ n2_ n3_ n4_ n5_ n6_; (try clear hb); (try clear hb2); (try clear hk); (try clear hi)))
                                go_ret
                                exact ⟨by first | rfl | (simp [errW_none, errW_some] <;> rfl) | (simp [*, errW_none, errW_some] <;> rfl), by repeat (first | (with_reducible first | exact HB.out | apply below_alloc | apply pw_below_drewN | apply below_drew1 | refine below_set ?_ GE181.out | refine below_set ?_ GE190.out | refine below_set ?_ GE210.out) | exact HB.out)⟩
                              · rw [if_neg c100] at H
                                have c100b0 : (t212 == t199) = false := beq_eq_false_iff_ne.mpr c100
                                have c100b1 : (t212 != t199) = true := bne_iff_ne.mpr c100
                                obtain rfl := Option.some.inj H
                                have hnb105 := NB190_181.out
                                have hnc105 := NB181_190.out
                                have hnb106 := NB190_210.out
                                have hnc106 := NB210_190.out
                                have hcz107_0 : wc.cell? ⟨gb190, 0, none⟩ = some (.int .i64 t185) := (blk_cell BK190.out 0).trans rfl
                                have hcz107_1 : wc.cell? ⟨gb190, 1, none⟩ = some (.slice Ao22 t200.length co22) := (blk_cell BK190.out 1).trans rfl
                                have hfz107_0 := blk_frozen BK190.out 0
                                have hfz107_1 := blk_frozen BK190.out 1
                                go_wp2_with (first | ((with_reducible refine gate_callee (f := 24) rfl ?_); refine goesL_ (some 95) rfl rfl Try.func24 (by kernel_rfl) rfl #[.agg #[.int .i64 t185, .slice Ao22 t200.length co22], .int .i64 1] rfl (by (try simp only [List.map_toArray, List.map_cons, List.map_nil]); first | done | rfl | (simp only [List.length_drop, List.length_take]; rfl) | (go_simp; (repeat' apply And.intro) <;> (simp only [IntKind.wrap_u8]; unfold wrap64; omega))) ?_; (with_reducible refine (laws_heldSystem.calls kj64 t185 _ _ t200 1 t212 _ ?side1 ?side2 A94.out).mono ?_); (case side1 => repeat (first | exact (Kd.R_reads' HO_191001.out).2.2 | (with_reducible refine Kd.C_alloc ?_ _) | (with_reducible refine Kd.C_drewN ?_ _) | (with_reducible refine Kd.C_drew ?_))); (case side2 => exact (Kd.R_reads' HO_191001.out).2.1); rintro e w108 ⟨rfl, hb⟩; refine ⟨_, rfl, ?_⟩; have n0_ := Aside0.mk (Kd.R_below (by (with_reducible repeat (first | apply Kd.R_alloc | apply Kd.R_drewN | apply Kd.R_drew)); exact HO_182001.out) hb); have n1_ := Aside0.mk (Kd.R_below (by (with_reducible repeat (first | apply Kd.R_alloc | apply Kd.R_drewN | apply Kd.R_drew)); exact HO_191001.out) hb); have n2_ := Aside0.mk (Kd.R_below (by (with_reducible repeat (first | apply Kd.R_alloc | apply Kd.R_drewN | apply Kd.R_drew)); exact HO_211001.out) hb); have n3_ := Aside0.mk (blk_below (g := gb181) (o := .cells #[.int .i64 t176, .slice Ao15 t177.length co15] 35 (0, 0)) (by (with_reducible repeat (first | refine blk_drewN ?_ _ | refine blk_drew ?_ | refine blk_alloc ?_ _)); exact BK181.out) hb); have n4_ := Aside0.mk (blk_below (g := gb190) (o := .cells #[.int .i64 t185, .slice Ao22 t200.length co22] 35 (0, 0)) (by (with_reducible repeat (first | refine blk_drewN ?_ _ | refine blk_drew ?_ | refine blk_alloc ?_ _)); exact BK190.out) hb); have n5_ := Aside0.mk (blk_below (g := gb210) (o := .cells #[.int .i64 t205, .slice Ao78 t206.length co78] 35 (0, 0)) (by (with_reducible repeat (first | refine blk_drewN ?_ _ | refine blk_drew ?_ | refine blk_alloc ?_ _)); exact BK210.out) hb); have n6_ := Aside0.mk (below_step (by repeat (first | (with_reducible first | exact HB.out | apply below_alloc | apply pw_below_drewN | apply below_drew1 | refine below_set ?_ GE181.out | refine below_set ?_ GE190.out | refine below_set ?_ GE210.out) | exact HB.out)) hb); clear HO_182001; clear HO_191001; clear HO_211001; clear BK181; clear BK190; clear BK210; clear HB; have HO_182001 := n0_; have HO_191001 := n1_; have HO_211001 := n2_; have BK181 := n3_; have BK190 := n4_; have BK210 := n5_; have HB := n6_; clear n0_ n1_ n2_ n3_ n4_ n5_ n6_; (try clear hb); (try clear hb2); (try clear hk); (try clear hi)))
                                go_ret
                                exact ⟨by first | rfl | (simp [errW_none, errW_some] <;> rfl) | (simp [*, errW_none, errW_some] <;> rfl), by repeat (first | (with_reducible first | exact HB.out | apply below_alloc | apply pw_below_drewN | apply below_drew1 | refine below_set ?_ GE181.out | refine below_set ?_ GE190.out | refine below_set ?_ GE210.out) | exact HB.out)⟩
                    · rw [if_neg c62] at H
                      have c62b0 : (t201 == t199) = false := beq_eq_false_iff_ne.mpr c62
                      have c62b1 : (t201 != t199) = true := bne_iff_ne.mpr c62
                      obtain rfl := Option.some.inj H
                      have hnb109 := NB190_181.out
                      have hnc109 := NB181_190.out
                      have hcz110_0 : wc.cell? ⟨gb190, 0, none⟩ = some (.int .i64 t185) := (blk_cell BK190.out 0).trans rfl
                      have hcz110_1 : wc.cell? ⟨gb190, 1, none⟩ = some (.slice Ao22 t186.length co22) := (blk_cell BK190.out 1).trans rfl
                      have hfz110_0 := blk_frozen BK190.out 0
                      have hfz110_1 := blk_frozen BK190.out 1
                      go_wp2_with (first | ((with_reducible refine gate_callee (f := 23) rfl ?_); refine goesL_ (some 68) rfl rfl Try.func23 (by kernel_rfl) rfl #[.agg #[.int .i64 t185, .slice Ao22 t186.length co22], .int .i64 1] rfl (by (try simp only [List.map_toArray, List.map_cons, List.map_nil]); first | done | rfl | (simp only [List.length_drop, List.length_take]; rfl) | (go_simp; (repeat' apply And.intro) <;> (simp only [IntKind.wrap_u8]; unfold wrap64; omega))) ?_; (with_reducible refine (laws_markSystem.calls kj37 t185 (fun k_ => some k_ = (.slice Ao22 t186.length co22 : Value).ownBlock) (.slice Ao22 t186.length co22) t186 1 t199 t200 w _ ?side1 ?side2 A54.out).mono ?_); (case side1 => repeat (first | (with_reducible first | exact HB.out | apply below_alloc | apply pw_below_drewN | apply below_drew1 | refine below_set ?_ GE181.out | refine below_set ?_ GE190.out) | exact HB.out)); (case side2 => exact Kd.R_tight rfl HO_191001.out); rintro e w111 ⟨rfl, hy0, hb, hkp⟩; refine ⟨_, rfl, ?_⟩; have n0_ := Aside0.mk (Kd.R_mono (ok' := fun k_ => some k_ ≠ (.slice Ao22 t186.length co22 : Value).ownBlock) (Kd.R_keptB (HO_182001.out) hkp (fun k_ hk_ hs_ => (hk_) hs_)) (fun k_ hk_ => hk_.1)); have n1_ := Aside0.mk (Kd.R_reok rfl hy0 (fun k_ e_ => HO_191001.out.1 k_ e_)); have n2_ := Aside0.mk (blk_kept (by (with_reducible repeat (first | refine blk_drewN ?_ _ | refine blk_drew ?_ | refine blk_alloc ?_ _)); exact BK181.out) hkp (fun hs_ => (fun e_ => (Kd.R_ne HO_191001.out BK181.out (by decide)) e_) hs_)); have n3_ := Aside0.mk (blk_kept (by (with_reducible repeat (first | refine blk_drewN ?_ _ | refine blk_drew ?_ | refine blk_alloc ?_ _)); exact BK190.out) hkp (fun hs_ => (fun e_ => (Kd.R_ne HO_191001.out BK190.out (by decide)) e_) hs_)); have n4_ := Aside0.mk (hb); clear HO_182001; clear HO_191001; clear BK181; clear BK190; clear HB; have HO_182001 := n0_; have HO_191001 := n1_; have BK181 := n2_; have BK190 := n3_; have HB := n4_; clear n0_ n1_ n2_ n3_ n4_; (try clear hb); (try clear hkp); (try clear hy0); have hcz112_0 : w111.cell? ⟨gb190, 0, none⟩ = some (.int .i64 t185) := (blk_cell BK190.out 0).trans rfl; have hcz112_1 : w111.cell? ⟨gb190, 1, none⟩ = some (.slice Ao22 t186.length co22) := (blk_cell BK190.out 1).trans rfl; have hfz112_0 := blk_frozen BK190.out 0; have hfz112_1 := blk_frozen BK190.out 1) | ((with_reducible refine gate_callee (f := 24) rfl ?_); refine goesL_ (some 71) rfl rfl Try.func24 (by kernel_rfl) rfl #[.agg #[.int .i64 t185, .slice Ao22 t200.length co22], .int .i64 1] rfl (by (try simp only [List.map_toArray, List.map_cons, List.map_nil]); first | done | (rw [show t200.length = t186.length from (Kd.R_reads' HO_191001.out).1.symm] <;> rfl) | rfl | (simp only [List.length_drop, List.length_take]; rfl) | (go_simp; (repeat' apply And.intro) <;> (simp only [IntKind.wrap_u8]; unfold wrap64; omega))) ?_; (with_reducible refine (laws_heldSystem.calls kj37 t185 _ _ t200 1 t201 _ ?side1 ?side2 A55.out).mono ?_); (case side1 => repeat (first | exact (Kd.R_reads' HO_191001.out).2.2 | (with_reducible refine Kd.C_alloc ?_ _) | (with_reducible refine Kd.C_drewN ?_ _) | (with_reducible refine Kd.C_drew ?_))); (case side2 => rw [show t200.length = t186.length from (Kd.R_reads' HO_191001.out).1.symm]; exact (Kd.R_reads' HO_191001.out).2.1); rintro e w113 ⟨rfl, hb⟩; refine ⟨_, rfl, ?_⟩; have n0_ := Aside0.mk (Kd.R_below (by (with_reducible repeat (first | apply Kd.R_alloc | apply Kd.R_drewN | apply Kd.R_drew)); exact HO_182001.out) hb); have n1_ := Aside0.mk (Kd.R_below (by (with_reducible repeat (first | apply Kd.R_alloc | apply Kd.R_drewN | apply Kd.R_drew)); exact HO_191001.out) hb); have n2_ := Aside0.mk (blk_below (g := gb181) (o := .cells #[.int .i64 t176, .slice Ao15 t177.length co15] 35 (0, 0)) (by (with_reducible repeat (first | refine blk_drewN ?_ _ | refine blk_drew ?_ | refine blk_alloc ?_ _)); exact BK181.out) hb); have n3_ := Aside0.mk (blk_below (g := gb190) (o := .cells #[.int .i64 t185, .slice Ao22 t186.length co22] 35 (0, 0)) (by (with_reducible repeat (first | refine blk_drewN ?_ _ | refine blk_drew ?_ | refine blk_alloc ?_ _)); exact BK190.out) hb); have n4_ := Aside0.mk (below_step (by repeat (first | (with_reducible first | exact HB.out | apply below_alloc | apply pw_below_drewN | apply below_drew1 | refine below_set ?_ GE181.out | refine below_set ?_ GE190.out) | exact HB.out)) hb); clear HO_182001; clear HO_191001; clear BK181; clear BK190; clear HB; have HO_182001 := n0_; have HO_191001 := n1_; have BK181 := n2_; have BK190 := n3_; have HB := n4_; clear n0_ n1_ n2_ n3_ n4_; (try clear hb); (try clear hb2); (try clear hk); (try clear hi)))
                      go_ret
                      exact ⟨by first | rfl | (simp [errW_none, errW_some] <;> rfl) | (simp [*, errW_none, errW_some] <;> rfl), by repeat (first | (with_reducible first | exact HB.out | apply below_alloc | apply pw_below_drewN | apply below_drew1 | refine below_set ?_ GE181.out | refine below_set ?_ GE190.out) | exact HB.out)⟩
          · replace c36 := Bool.eq_false_iff.mpr c36
            subst c36
            have H1 : (some false) = some r := by rw [if_neg (show ¬ (false = true) by decide)] at H; exact H
            clear H
            have H := H1
            clear H1
            obtain rfl := Option.some.inj H
            go_wp2_with (first | ((with_reducible refine gate_callee (f := 11) rfl ?_); refine goesL_ (some 47) rfl rfl Try.func11 (by kernel_rfl) rfl #[.slice A1 l1.length c1] rfl (by (try simp only [List.map_toArray, List.map_cons, List.map_nil]); first | done | rfl | (simp only [List.length_drop, List.length_take]; rfl) | (go_simp; (repeat' apply And.intro) <;> (simp only [IntKind.wrap_u8]; unfold wrap64; omega))) ?_; (with_reducible refine (laws_toStringS.calls kj8 _ _ l1 t192 _ ?side1 ?side2 A34.out).mono ?_); (case side1 => repeat (first | exact (Kd.C_below HR1.out HB.out) | (with_reducible refine Kd.C_alloc ?_ _) | (with_reducible refine Kd.C_drewN ?_ _) | (with_reducible refine Kd.C_drew ?_))); (case side2 => exact HC1.out); rintro e w114 ⟨v193, rfl, ho0, hb⟩; refine ⟨_, rfl, ?_⟩; have n0_ := Aside0.mk (Kd.R_elder' (by (with_reducible repeat (first | apply Kd.R_alloc | apply Kd.R_drewN | apply Kd.R_drew)); exact HO_8.out) (Kd.R_base ho0) hb); have n1_ := Aside0.mk (Kd.R_below (by (with_reducible repeat (first | apply Kd.R_alloc | apply Kd.R_drewN | apply Kd.R_drew)); exact HO_182001.out) hb); have n2_ := Aside0.mk (Kd.R_below (by (with_reducible repeat (first | apply Kd.R_alloc | apply Kd.R_drewN | apply Kd.R_drew)); exact HO_191001.out) hb); have n3_ := Aside0.mk (Kd.R_lower (Kd.R_new' ho0 (Kd.R_lt (by (with_reducible repeat (first | apply Kd.R_alloc | apply Kd.R_drewN | apply Kd.R_drew)); exact HO_8.out))) (below_size (by repeat (first | (with_reducible first | exact HB.out | apply below_alloc | apply pw_below_drewN | apply below_drew1 | refine below_set ?_ GE181.out | refine below_set ?_ GE190.out) | exact HB.out)))); have n4_ := Aside0.mk (blk_below (g := gb181) (o := .cells #[.int .i64 t176, .slice Ao15 t177.length co15] 35 (0, 0)) (by (with_reducible repeat (first | refine blk_drewN ?_ _ | refine blk_drew ?_ | refine blk_alloc ?_ _)); exact BK181.out) hb); have n5_ := Aside0.mk (blk_below (g := gb190) (o := .cells #[.int .i64 t185, .slice Ao22 t186.length co22] 35 (0, 0)) (by (with_reducible repeat (first | refine blk_drewN ?_ _ | refine blk_drew ?_ | refine blk_alloc ?_ _)); exact BK190.out) hb); have n6_ := Aside0.mk (below_step (by repeat (first | (with_reducible first | exact HB.out | apply below_alloc | apply pw_below_drewN | apply below_drew1 | refine below_set ?_ GE181.out | refine below_set ?_ GE190.out) | exact HB.out)) hb); clear HO_8; clear HO_182001; clear HO_191001; clear BK181; clear BK190; clear HB; have HO_8 := n0_; have HO_182001 := n1_; have HO_191001 := n2_; have HO194 := n3_; have BK181 := n4_; have BK190 := n5_; have HB := n6_; clear n0_ n1_ n2_ n3_ n4_ n5_ n6_; (try clear hb); (try clear hb2); (try clear hk); (try clear hi); (try clear ho0); obtain ⟨Ao115, co115, eo115⟩ := Kd.R_slice HO194.out; subst eo115) | ((with_reducible refine gate_callee (f := 13) rfl ?_); refine goesL_ (some 48) rfl rfl Try.func13 (by kernel_rfl) rfl #[.slice Ao17 t182.length co17, .slice Ao115 t192.length co115] rfl (by (try simp only [List.map_toArray, List.map_cons, List.map_nil]); first | done | rfl | (simp only [List.length_drop, List.length_take]; rfl) | (go_simp; (repeat' apply And.intro) <;> (simp only [IntKind.wrap_u8]; unfold wrap64; omega))) ?_; (with_reducible refine (laws_eqStringS.calls kj8 _ _ t182 _ _ t192 false _ ?side1 ?side2 ?side3 ?side4 A35.out).mono ?_); (case side1 => repeat (first | exact (Kd.R_reads' HO_8.out).2.2 | (with_reducible refine Kd.C_alloc ?_ _) | (with_reducible refine Kd.C_drewN ?_ _) | (with_reducible refine Kd.C_drew ?_))); (case side2 => exact (Kd.R_reads' HO_8.out).2.1); (case side3 => repeat (first | exact (Kd.R_reads' HO194.out).2.2 | (with_reducible refine Kd.C_alloc ?_ _) | (with_reducible refine Kd.C_drewN ?_ _) | (with_reducible refine Kd.C_drew ?_))); (case side4 => exact (Kd.R_reads' HO194.out).2.1); rintro e w' ⟨rfl, ⟨nd, rfl⟩⟩; refine ⟨_, rfl, ?_⟩))
            go_ret
            exact ⟨by first | rfl | (simp [errW_none, errW_some] <;> rfl) | (simp [*, errW_none, errW_some] <;> rfl), by repeat (first | (with_reducible first | exact HB.out | apply below_alloc | apply pw_below_drewN | apply below_drew1 | refine below_set ?_ GE181.out | refine below_set ?_ GE190.out) | exact HB.out)⟩

/-- THE ONE PURE STATEMENT of laws_FnExactTraceSystem: yours. -/
def laws_FnExactTraceSystem.Pure : Prop := ∀ (a0 : Int) (l1 : List ByteArray), (Lit.int .i64 a0).wf = true → l1.length * 16 ≤ 140737488351232 → (∀ s ∈ l1, s.size ≤ 140737488351232) → ∃ k, laws_FnExactTraceSystem.f k a0 l1 = some true
theorem laws_FnExactTraceSystem.walk (P : laws_FnExactTraceSystem.Pure) (a0 : Int) (A1 : Option Addr) (c1 : Nat) (l1 : List ByteArray) (w : World) (w0 : (Lit.int .i64 a0).wf = true) (hr1 : Kd.C Kd.string w A1 l1.length l1) (hc1 : l1.length ≤ c1) (y1 : l1.length * 16 ≤ 140737488351232) (z1 : ∀ s ∈ l1, s.size ≤ 140737488351232) :
    Calls Try.prog 6 #[.int .i64 a0, .slice A1 l1.length c1] w fun e w' => e = .returned (.bool true) ∧ Below w.heap.size w w' := by
  obtain ⟨k, h⟩ := P a0 l1 w0 y1 z1
  refine (laws_FnExactTraceSystem.calls k a0 _ _ l1 true w hr1 hc1 h).mono ?_
  rintro e w' ⟨rfl, hd⟩
  exact ⟨rfl, hd⟩

end Go.Proofs.Ytnghepomhkoliaa.QFnExactTraceSystem
