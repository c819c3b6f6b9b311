/- The program's BordersOf returns what the reference's returns, and memory of its own: for all words that fit the row's reach. -/
import Derived.Test.YtkklcjfpgfgkdaaQFnExactBordersOfx3
import Derived.Test.YtkklcjfpgfgkdaaThy
import Derived.Test.YtkklcjfpgfgkdaaThyKmp
import Derived.Test.YtkklcjfpgfgkdaaThyRep
set_option linter.unusedVariables false
set_option linter.unusedSimpArgs false
namespace Go.Proofs.Ytkklcjfpgfgkdaa.Pure
open Go.RowKit Go.Proofs.Ytkklcjfpgfgkdaa.QFnExactBordersOf Go.Proofs.YtkklcjfpgfgkdaaW.PrintWords Go.Proofs.YtkklcjfpgfgkdaaW.PrintLast Go.Proofs.YtkklcjfpgfgkdaaW.PrintMore Go.Proofs.Ytkklcjfpgfgkdaa.Thy

theorem spec_l01In_eq (a b c : Int) : spec_l01In.f a b c = some (decide (b ≤ a ∧ a ≤ c)) := by
  unfold spec_l01In.f; split <;> simp <;> omega

theorem spec_LongOk_l0 (x : Int) (w : ByteArray) (hw : w.size ≤ 140737488351232) (hx : 1 ≤ x ∧ x ≤ 4) : ∀ (d : Nat) (i : Int), 0 ≤ i → i ≤ w.size → (w.size : Int) - i = d → Ev (fun k => spec_LongOk.l0 k x w i) (letters x ((N w).drop i.toNat)) := by
  intro d
  induction d with
  | zero =>
    intro i h0 h1 hd
    refine Ev.step (fun _ => rfl) (Ev.neg (by omega) (Ev.now' ?_))
    rw [N_done w i (by omega)]; rfl
  | succ d ih =>
    intro i h0 h1 hd
    have hb := bt_range w i
    rw [N_cons w i h0 (by omega), letters_cons]
    refine Ev.step (fun _ => rfl) (Ev.pos (by omega) (Ev.pos h0 (Ev.ite (fun h => Ev.now' ?_) (fun h => Ev.ite (fun h2 => Ev.now' ?_) (fun h2 => ?_)))))
    · simp; omega
    · simp; omega
    · rw [wr (by omega) (by omega)]
      refine Ev.eq (ih (i + 1) (by omega) (by omega) (by omega)) ?_
      rw [decide_eq_true (by omega), decide_eq_true (by omega)]; simp
theorem spec_LongOk_ev (x : Int) (w : ByteArray) (hw : w.size ≤ 140737488351232) : Ev (fun k => spec_LongOk.f k x w) (longOk 400 x w) := by
  unfold spec_LongOk.f longOk
  refine Ev.bind (spec_l01In_eq .. ▸ Ev.now _) (Ev.ite (fun h => ?_) (fun h => ?_))
  · have h2 := of_decide_eq_true h
    refine Ev.step (fun _ => rfl) (Ev.ite (fun h => Ev.now' ?_) (fun h => Ev.eq (spec_LongOk_l0 x w hw h2 w.size 0 (by omega) (by omega) (by omega)) ?_))
    · grind
    · grind
  · refine Ev.step (fun _ => spec_LongOk.j0.eq_2 ..) (Ev.pos rfl (Ev.now' ?_))
    grind

theorem spec_l21Ok_ev (w : ByteArray) (hw : w.size ≤ 140737488351232) : Ev (fun k => spec_l21Ok.f k w) (longOk 400 4 w) := by
  unfold spec_l21Ok.f
  exact Ev.bind (spec_LongOk_ev 4 w hw) (Ev.now _)

theorem get_bt {w : ByteArray} {i : Nat} (h : i < w.size) : (N w)[i]? = some (bt w (i : Int)) := by
  have h2 : i < (N w).length := by rw [N_length]; exact h
  rw [N_bt, List.getD_eq_getElem?_getD, Int.toNat_natCast, List.getElem?_eq_getElem h2]; rfl
theorem take_succ_bt {w : ByteArray} {i : Nat} (h : i < w.size) : (N w).take (i + 1) = (N w).take i ++ [bt w (i : Int)] := by
  have h2 : i < (N w).length := by rw [N_length]; exact h
  have := get_bt h
  rw [List.getElem?_eq_getElem h2, Option.some.injEq] at this
  rw [List.take_succ_eq_append_getElem h2, this]
/-- The seek inside the table: behind it the table is one longer. -/
theorem spec_l21Table_l1 (w : ByteArray) (hw : w.size ≤ 400) (i : Nat) (hi : i < w.size) (h0 : 0 < i) (R : List Int)
    (next : Ev (fun k => spec_l21Table.l0 k w (tblN (N w) (i + 1)) (maxB (N w) (i + 1) : Nat) ((i + 1 : Nat) : Int)) R) :
    ∀ (d k0 : Nat), k0 ≤ d → Seek (N w) ((N w).take i) (bt w (i : Int)) (i - 1) k0 → Ev (fun k => spec_l21Table.l1 k w (tblN (N w) i) k0 i) R := by
  have hlen := tblN_length (N w) i
  have hN := N_length w
  have w1 : Aside0 (wrap64 ((i : Int) + 1) = ((i + 1 : Nat) : Int)) := ⟨by rw [wr (by omega) (by omega)]; rfl⟩
  have ht := take_succ_bt hi
  intro d
  induction d with
  | zero =>
    intro k0 hk S
    obtain rfl : k0 = 0 := by omega
    have e0 : (N w)[0]? = some (bt w ((0 : Nat) : Int)) := get_bt (by omega)
    have w2 : Aside0 (wrap64 (((0 : Nat) : Int) + 1) = ((1 : Nat) : Int)) := ⟨by rw [wr (by omega) (by omega)]; rfl⟩
    refine Ev.step (fun k => by rw [spec_l21Table.l1, w1.out, w2.out]) (Ev.neg (by omega) (Ev.pos (by omega) (Ev.pos (by omega) (Ev.pos (by omega) (Ev.pos (by omega) (Ev.pos (by omega) ?_))))))
    refine Ev.ite (fun c => Ev.pos (by omega) ?_) (fun c => Ev.pos (by omega) ?_)
    · have hm : maxB (N w) (i + 1) = 1 := by
        unfold maxB
        rw [ht, show i + 1 - 1 = i - 1 + 1 by omega]
        exact S.hit (by omega) (by rw [e0, c])
      rw [tblN_succ, hm] at next
      exact next
    · have hm : maxB (N w) (i + 1) = 0 := by
        unfold maxB
        rw [ht, show i + 1 - 1 = i - 1 + 1 by omega]
        exact S.miss (by omega) (by rw [e0]; intro z; exact c (Option.some.inj z).symm)
      rw [tblN_succ, hm] at next
      exact next
  | succ d ih =>
    intro k0 hk S
    by_cases hz : k0 = 0
    · subst hz; exact ih 0 (by omega) S
    · have hle := S.le
      have hk2 : k0 < i := by omega
      have w3 : Aside0 (wrap64 ((k0 : Int) - 1) = ((k0 - 1 : Nat) : Int)) := ⟨by rw [wr (by omega) (by omega)]; omega⟩
      have w4 : Aside0 (wrap64 ((k0 : Int) + 1) = ((k0 + 1 : Nat) : Int)) := ⟨by rw [wr (by omega) (by omega)]; rfl⟩
      have e0 : (N w)[k0]? = some (bt w (k0 : Int)) := get_bt (by omega)
      have hrd : rd (tblN (N w) i) ((k0 - 1 : Nat) : Int) = (maxB (N w) k0 : Nat) := by
        rw [rd_tblN (by omega) (by omega), Int.toNat_natCast, show k0 - 1 + 1 = k0 by omega]
      have hlt := maxB_lt (p := N w) (q := k0) (by omega)
      refine Ev.step (fun k => by rw [spec_l21Table.l1, w1.out, w3.out, w4.out, hrd]) (Ev.pos (by omega) (Ev.neg (by omega) (Ev.pos (by omega) (Ev.pos (by omega) (Ev.pos (by omega) (Ev.pos (by omega) ?_))))))
      refine Ev.ite (fun c => Ev.pos (by omega) (Ev.pos (by omega) ?_)) (fun c => Ev.pos (by omega) (Ev.pos (by omega) ?_))
      · have hm : maxB (N w) (i + 1) = k0 + 1 := by
          unfold maxB
          rw [ht, show i + 1 - 1 = i - 1 + 1 by omega]
          exact S.hit (by omega) (by rw [e0, c])
        rw [tblN_succ, hm] at next
        exact next
      · exact ih _ (by omega) (S.next (by omega) (by rw [e0]; intro z; exact c (Option.some.inj z).symm))
theorem maxB_one (p : List Int) : maxB p 1 = 0 := rfl
theorem spec_l21Table_l0 (w : ByteArray) (hw : w.size ≤ 400) : ∀ (d i : Nat), i + d = w.size → Ev (fun k => spec_l21Table.l0 k w (tblN (N w) i) (maxB (N w) i : Nat) i) (tbl (N w)) := by
  intro d
  induction d with
  | zero => intro i h; exact Ev.step (fun _ => rfl) (Ev.neg (by omega) (Ev.now' (by unfold tbl; rw [N_length, show i = w.size by omega])))
  | succ d ih =>
    intro i h
    have next := ih (i + 1) (by omega)
    have hlen := tblN_length (N w) i
    refine Ev.step (fun k => by rw [spec_l21Table.l0]) (Ev.pos (by omega) ?_)
    by_cases h0 : i = 0
    · subst h0
      have hm : maxB (N w) 0 = 0 := rfl
      have w1 : Aside0 (wrap64 (((0 : Nat) : Int) + 1) = ((0 + 1 : Nat) : Int)) := ⟨by rw [wr (by omega) (by omega)]; rfl⟩
      rw [hm]
      refine Ev.step (fun k => by rw [spec_l21Table.l1, w1.out]) (Ev.neg (by omega) (Ev.neg (by omega) (Ev.pos (by omega) ?_)))
      rw [tblN_succ, maxB_one] at next
      exact next
    · exact spec_l21Table_l1 w hw i (by omega) (by omega) _ next (maxB (N w) i) (maxB (N w) i) (Nat.le_refl _) (Seek.start _ _)
theorem spec_l21Table_ev (w : ByteArray) (hw : w.size ≤ 400) : Ev (fun k => spec_l21Table.f k w) (tbl (N w)) := by
  unfold spec_l21Table.f
  exact spec_l21Table_l0 w hw w.size 0 (by omega)

def bordersOf (w : ByteArray) : List Int := if longOk 400 4 w = true then (if w.size = 0 then [] else brds (N w) (w.size - 1)) else []
theorem bordersOf_length (w : ByteArray) : (bordersOf w).length ≤ w.size := by
  unfold bordersOf
  split
  · split
    · simp
    · have := brds_length (N w) (w.size - 1); omega
  · simp
theorem bordersOf_length400 (w : ByteArray) : (bordersOf w).length ≤ 400 := by
  unfold bordersOf
  split
  · rename_i h
    have := longOk_size h
    split
    · simp
    · have := brds_length (N w) (w.size - 1); omega
  · simp
theorem spec_BordersOf_l0 (w : ByteArray) (hw : w.size ≤ 400) : ∀ (d k0 : Nat) (out : List Int), k0 ≤ d → k0 < w.size → brd (N w) k0 = true → out.length + k0 ≤ 400 → Ev (fun k => spec_BordersOf.l0 k (tbl (N w)) out k0) (brds (N w) k0 ++ out) := by
  intro d
  induction d with
  | zero =>
    intro k0 out h1 h2 hb ho
    obtain rfl : k0 = 0 := by omega
    refine Ev.step (fun k => by rw [spec_BordersOf.l0]) (Ev.neg (by omega) ?_)
    simp only [Option.bind_some]
    refine Ev.pos (by simp; omega) (Ev.now' ?_)
    rw [brds_zero]
  | succ d ih =>
    intro k0 out h1 h2 hb ho
    by_cases h0 : k0 = 0
    · subst h0; exact ih 0 out (by omega) h2 hb ho
    · have w1 : Aside0 (wrap64 ((k0 : Int) - 1) = ((k0 - 1 : Nat) : Int)) := ⟨by rw [wr (by omega) (by omega)]; omega⟩
      have hlen : (tbl (N w)).length = w.size := by unfold tbl; rw [tblN_length, N_length]
      have hrd : rd (tbl (N w)) ((k0 - 1 : Nat) : Int) = (maxB (N w) k0 : Nat) := by
        unfold tbl
        rw [rd_tblN (by omega) (by rw [N_length]; omega), Int.toNat_natCast, show k0 - 1 + 1 = k0 by omega]
      have hl := maxB_lt (p := N w) (q := k0) (by omega)
      refine Ev.step (fun k => by rw [spec_BordersOf.l0, w1.out, hrd]) (Ev.pos (by omega) ?_)
      simp only [Option.bind_some]
      refine Ev.pos (by simp; omega) (Ev.pos (by omega) (Ev.pos (by omega) ?_))
      refine Ev.eq (ih (maxB (N w) k0) ([(k0 : Int)] ++ out) (by omega) (by omega) (brd_maxB hb) (by simp; omega)) ?_
      rw [brds_step (by omega) hb, List.append_assoc]
theorem spec_BordersOf_ev (w : ByteArray) (hw : w.size ≤ 140737488351232) : Ev (fun k => spec_BordersOf.f k w) (bordersOf w) := by
  unfold spec_BordersOf.f bordersOf
  refine Ev.bind (spec_l21Ok_ev w hw) (Ev.ite (fun h => ?_) (fun h => ?_))
  · rw [if_pos h]
    have hs : w.size ≤ 400 := by have := longOk_size h; omega
    have hN := N_length w
    by_cases h0 : w.size = 0
    · rw [if_pos h0]
      rw [toList_beq_nil, decide_eq_true h0]
      exact Ev.step (fun k => by rw [spec_BordersOf.j0]) (Ev.pos rfl (Ev.now _))
    · rw [if_neg h0]
      rw [toList_beq_nil, decide_eq_false h0]
      have w1 : Aside0 (wrap64 ((w.size : Int) - 1) = ((w.size - 1 : Nat) : Int)) := ⟨by rw [wr (by omega) (by omega)]; omega⟩
      have hlen : (tbl (N w)).length = w.size := by unfold tbl; rw [tblN_length, N_length]
      have hrd : rd (tbl (N w)) ((w.size - 1 : Nat) : Int) = (maxB (N w) w.size : Nat) := by
        unfold tbl
        rw [rd_tblN (by omega) (by omega), Int.toNat_natCast, show w.size - 1 + 1 = w.size by omega]
      have hl := maxB_lt (p := N w) (q := w.size) (by omega)
      have hb : brd (N w) (maxB (N w) w.size) = true := by
        have := gre_sp (N w) ((N w).take w.size) (w.size - 1)
        rw [List.take_of_length_le (by omega)] at this
        unfold maxB brd
        rw [List.take_of_length_le (by omega)]
        exact this
      refine Ev.step (f := fun k => (spec_l21Table.f k w).bind fun t124 => (if 0 ≤ (wrap64 ((w.size : Int) - 1)) then (if (wrap64 ((w.size : Int) - 1)) < (t124.length : Int) then (spec_BordersOf.l0 k t124 (([] : List Int)) (rd t124 (wrap64 ((w.size : Int) - 1)))) else (none)) else (none))) (fun k => by rw [spec_BordersOf.j0, if_neg (by simp)]) (Ev.bind (spec_l21Table_ev w hs) ?_)
      rw [w1.out, hrd]
      refine Ev.pos (by omega) (Ev.pos (by omega) (Ev.eq (spec_BordersOf_l0 w hs (maxB (N w) w.size) (maxB (N w) w.size) [] (Nat.le_refl _) hl hb (by simp; omega)) ?_))
      rw [List.append_nil, ← hN, brds_all (by omega)]
  · rw [if_neg h]
    exact Ev.step (fun k => by rw [spec_BordersOf.j0]) (Ev.pos rfl (Ev.now _))

theorem impl_within_eq (a b c : Int) : impl_within.f a b c = some (decide (b ≤ a ∧ a ≤ c)) := by
  unfold impl_within.f; split <;> simp <;> omega

theorem impl_hasLetters_l0 (x : Int) (w : ByteArray) (hw : w.size ≤ 140737488351232) (hx : 1 ≤ x ∧ x ≤ 4) : ∀ (d : Nat) (i : Int), 0 ≤ i → i ≤ w.size → (w.size : Int) - i = d → Ev (fun k => impl_hasLetters.l0 k x w w.size i) (letters x ((N w).drop i.toNat)) := by
  intro d
  induction d with
  | zero =>
    intro i h0 h1 hd
    refine Ev.step (fun _ => rfl) (Ev.neg (by omega) (Ev.now' ?_))
    rw [N_done w i (by omega)]; rfl
  | succ d ih =>
    intro i h0 h1 hd
    have hb := bt_range w i
    rw [N_cons w i h0 (by omega), letters_cons]
    refine Ev.step (fun _ => rfl) (Ev.pos (by omega) (Ev.pos h0 (Ev.pos (by omega) (Ev.bind (impl_within_eq .. ▸ Ev.now _) ?_))))
    rw [wr (by omega) (by omega), wr (n := 97 + x) (by omega) (by omega), wr (n := 97 + x - 1) (by omega) (by omega)]
    refine Ev.ite (fun h => ?_) (fun h => Ev.now' ?_)
    · rw [wr (by omega) (by omega)]
      refine Ev.eq (ih (i + 1) (by omega) (by omega) (by omega)) ?_
      grind
    · grind

theorem impl_LongOk_ev (x : Int) (w : ByteArray) (hw : w.size ≤ 140737488351232) : Ev (fun k => impl_LongOk.f k x w) (longOk 400 x w) := by
  unfold impl_LongOk.f longOk
  refine Ev.bind (impl_within_eq .. ▸ Ev.now _) (Ev.ite (fun h => ?_) (fun h => Ev.now' (by grind)))
  have h2 := of_decide_eq_true h
  refine Ev.ite (fun h => Ev.bind (impl_hasLetters_l0 x w hw h2 w.size 0 (by omega) (by omega) (by omega)) (Ev.now' (by grind))) (fun h => Ev.now' (by grind))

theorem brd_test (w : ByteArray) (n : Nat) (hn : n ≤ w.size) : (w.extract 0 n).toList = (w.extract (w.size - n) w.size).toList ↔ brd (N w) n = true := by
  have hN := N_length w
  rw [bytes_eq_iff, N_extract, N_extract, brd_iff (by omega), hN, List.drop_zero, Nat.sub_zero, List.take_of_length_le (l := (N w).drop (w.size - n)) (by rw [List.length_drop]; omega)]
theorem impl_BordersOf_l0 (w : ByteArray) (hw : w.size ≤ 400) : ∀ (d i : Nat) (out : List Int), i + d = w.size → out.length ≤ i → out = ((List.range i).filter (fun j => brd (N w) j)).map (fun j : Nat => (j : Int)) → Ev (fun k => impl_BordersOf.l0 k w out w.size i) (((List.range w.size).filter (fun j => brd (N w) j)).map (fun j : Nat => (j : Int))) := by
  intro d
  induction d with
  | zero => intro i out h ho hout; exact Ev.step (fun _ => rfl) (Ev.neg (by omega) (Ev.now' (by rw [hout, show i = w.size by omega])))
  | succ d ih =>
    intro i out h ho hout
    have w1 : Aside0 (wrap64 ((i : Int) + 1) = ((i + 1 : Nat) : Int)) := ⟨by rw [wr (by omega) (by omega)]; rfl⟩
    have w2 : Aside0 (wrap64 ((w.size : Int) - (i : Int)) = ((w.size - i : Nat) : Int)) := ⟨by rw [wr (by omega) (by omega)]; omega⟩
    have T := brd_test w i (by omega)
    refine Ev.step (fun k => by rw [impl_BordersOf.l0, w1.out, w2.out, Int.toNat_natCast, Int.toNat_natCast]) (Ev.pos (by omega) (Ev.pos (by omega) (Ev.pos (by omega) (Ev.pos (by omega) (Ev.pos (by omega) ?_)))))
    refine Ev.ite (fun c => Ev.pos (by omega) (ih (i + 1) _ (by omega) (by simp; omega) ?_)) (fun c => ih (i + 1) _ (by omega) (by omega) ?_)
    · rw [hout, List.range_succ, List.filter_append]; simp [T.1 c]
    · rw [hout, List.range_succ, List.filter_append]; simp [Bool.eq_false_iff.2 (fun z => c (T.2 z))]
theorem impl_BordersOf_ev (w : ByteArray) (hw : w.size ≤ 140737488351232) : Ev (fun k => impl_BordersOf.f k w) (bordersOf w) := by
  unfold impl_BordersOf.f bordersOf
  refine Ev.bind (impl_LongOk_ev 4 w hw) (Ev.ite (fun h => ?_) (fun h => Ev.now' (by rw [if_neg h])))
  rw [if_pos h]
  refine Ev.eq (impl_BordersOf_l0 w (by have := longOk_size h; omega) w.size 0 [] (by omega) (by simp) rfl) ?_
  split
  · rename_i h0; rw [h0]; rfl
  · unfold brds; rw [show w.size - 1 + 1 = w.size by omega]

theorem laws_eqIntS_l0 (xs : List Int) (hx : xs.length ≤ 140737488351232) : ∀ (d i : Nat), i + d = xs.length → Ev (fun k => laws_eqIntS.l0 k xs xs i) true := by
  intro d
  induction d with
  | zero => intro i h; exact Ev.step (fun _ => rfl) (Ev.neg (by omega) (Ev.now _))
  | succ d ih =>
    intro i h
    have w1 : wrap64 ((i : Int) + 1) = ((i + 1 : Nat) : Int) := by rw [wr (by omega) (by omega)]; rfl
    exact Ev.step (fun k => by rw [laws_eqIntS.l0, w1]) (Ev.pos (by omega) (Ev.pos (by omega) (Ev.pos (by omega) (Ev.pos rfl (ih (i + 1) (by omega))))))
theorem laws_eqIntS_same (xs : List Int) (hx : xs.length ≤ 140737488351232) : Ev (fun k => laws_eqIntS.f k xs xs) true := by
  unfold laws_eqIntS.f
  exact Ev.pos rfl (laws_eqIntS_l0 xs hx xs.length 0 (by omega))

theorem laws_markIntS_l0 (n : Nat) (hx : n ≤ 140737488351232) (a : Int) (a0 : 0 ≤ a) (a1 : a ≤ 140737488351232) : ∀ (d i : Nat) (xs : List Int), xs.length = n → i + d = n → Ev (fun k => laws_markIntS.l0 k xs (a + i) i) (a + n, xs.take i ++ marks (a + i) d) := by
  intro d
  induction d with
  | zero =>
    intro i xs hl h
    refine Ev.step (fun _ => rfl) (Ev.neg (by omega) (Ev.now' ?_))
    rw [List.take_of_length_le (by omega), show i = n by omega]
    simp [marks]
  | succ d ih =>
    intro i xs hl h
    have w1 : wrap64 ((i : Int) + 1) = ((i + 1 : Nat) : Int) := by rw [wr (by omega) (by omega)]; rfl
    have w2 : wrap64 (a + i + 1) = a + ((i + 1 : Nat) : Int) := by rw [wr (by omega) (by omega)]; omega
    refine Ev.step (fun k => by rw [laws_markIntS.l0, w1, w2, Int.toNat_natCast]) (Ev.pos (by omega) (Ev.pos (by omega) (Ev.eq (ih (i + 1) _ (by rw [List.length_set]; exact hl) (by omega)) ?_)))
    rw [marks_succ, List.take_succ_eq_append_getElem (by rw [List.length_set]; omega), List.getElem_set_self, List.take_set_of_le (Nat.le_refl i)]
    rw [show a + ((i + 1 : Nat) : Int) = a + i + 1 by omega]
    simp
theorem laws_markIntS_ev (xs : List Int) (hx : xs.length ≤ 140737488351232) (a : Int) (a0 : 0 ≤ a) (a1 : a ≤ 140737488351232) : Ev (fun k => laws_markIntS.f k xs a) (a + xs.length, marks a xs.length) := by
  unfold laws_markIntS.f
  have := laws_markIntS_l0 xs.length hx a a0 a1 xs.length 0 xs rfl (by omega)
  simpa using this

theorem laws_heldIntS_l0 (n : Nat) (hx : n ≤ 140737488351232) (a : Int) (a0 : 0 ≤ a) (a1 : a ≤ 140737488351232) : ∀ (d i : Nat), i + d = n → Ev (fun k => laws_heldIntS.l0 k (marks a n) (a + i) i) (a + n) := by
  intro d
  have hl := marks_length a n
  induction d with
  | zero =>
    intro i h
    exact Ev.step (fun _ => rfl) (Ev.neg (by omega) (Ev.now' (by omega)))
  | succ d ih =>
    intro i h
    have w1 : wrap64 ((i : Int) + 1) = ((i + 1 : Nat) : Int) := by rw [wr (by omega) (by omega)]; rfl
    have w2 : wrap64 (a + i + 1) = a + ((i + 1 : Nat) : Int) := by rw [wr (by omega) (by omega)]; omega
    have hr : rd (marks a n) (i : Int) = a + i := by rw [rd_nat (by omega), marks_get]
    exact Ev.step (fun k => by rw [laws_heldIntS.l0, w1, w2]) (Ev.pos (by omega) (Ev.pos (by omega) (Ev.pos hr (ih (i + 1) (by omega)))))
theorem laws_heldIntS_ev (a : Int) (n : Nat) (hx : n ≤ 140737488351232) (a0 : 0 ≤ a) (a1 : a ≤ 140737488351232) : Ev (fun k => laws_heldIntS.f k (marks a n) a) (a + n) := by
  unfold laws_heldIntS.f
  simpa using laws_heldIntS_l0 n hx a a0 a1 n 0 (by omega)

theorem FnExactBordersOf : laws_FnExactBordersOf.Pure := by
  intro w hw
  apply Ev.rounds
  unfold laws_FnExactBordersOf.f
  have hlen : (bordersOf w).length ≤ 140737488351232 := Nat.le_trans (bordersOf_length w) hw
  refine Ev.ite (fun h => Ev.now _) (fun h => Ev.bind (spec_BordersOf_ev w hw) (Ev.bind (impl_BordersOf_ev w hw) ?_))
  have E := impl_BordersOf_ev w hw
  generalize bordersOf w = r at hlen E
  refine Ev.bind (laws_eqIntS_same r hlen) (Ev.pos rfl (Ev.bind (laws_markIntS_ev r hlen 1 (by omega) (by omega)) (Ev.bind (laws_heldIntS_ev 1 r.length hlen (by omega) (by omega)) (Ev.neg (by omega) (Ev.pos rfl (Ev.bind E (Ev.bind (laws_eqIntS_same r hlen) (Ev.pos rfl (Ev.bind (laws_heldIntS_ev 1 r.length hlen (by omega) (by omega)) (Ev.neg (by omega) (Ev.pos rfl (Ev.now _))))))))))))

end Go.Proofs.Ytkklcjfpgfgkdaa.Pure
