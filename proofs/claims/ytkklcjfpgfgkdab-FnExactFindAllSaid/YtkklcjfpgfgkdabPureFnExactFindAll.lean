/- The program's FindAll returns what the reference's returns, and memory of its own: for all pairs of words that fit the row's reach. -/
import Derived.Test.YtkklcjfpgfgkdabQFnExactFindAllx4
import Derived.Test.YtkklcjfpgfgkdabThy
import Derived.Test.YtkklcjfpgfgkdabThyKmp
import Derived.Test.YtkklcjfpgfgkdabThyRep
set_option linter.unusedVariables false
set_option linter.unusedSimpArgs false
namespace Go.Proofs.Ytkklcjfpgfgkdab.Pure
open Go.RowKit Go.Proofs.Ytkklcjfpgfgkdab.QFnExactFindAll Go.Proofs.YtkklcjfpgfgkdabW.PrintWords Go.Proofs.YtkklcjfpgfgkdabW.PrintLast Go.Proofs.YtkklcjfpgfgkdabW.PrintMore Go.Proofs.Ytkklcjfpgfgkdab.Thy

theorem laws_eqIntS_l0 (xs : List Int) (hx : xs.length ≤ 140737488351232) : ∀ (d i : Nat), i + d = xs.length → Ev (fun k => laws_eqIntS.l0 k xs xs i) true := by
  intro d
  induction d with
  | zero => intro i h; exact Ev.step (fun _ => rfl) (Ev.neg (by omega) (Ev.now _))
  | succ d ih =>
    intro i h
    have w1 : wrap64 ((i : Int) + 1) = ((i + 1 : Nat) : Int) := by rw [wr (by omega) (by omega)]; rfl
    exact Ev.step (fun k => by rw [laws_eqIntS.l0, w1]) (Ev.pos (by omega) (Ev.pos (by omega) (Ev.pos (by omega) (Ev.pos rfl (ih (i + 1) (by omega))))))
theorem laws_eqIntS_same (xs : List Int) (hx : xs.length ≤ 140737488351232) : Ev (fun k => laws_eqIntS.f k xs xs) true := by
  unfold laws_eqIntS.f
  exact Ev.pos rfl (laws_eqIntS_l0 xs hx xs.length 0 (by omega))

theorem laws_markIntS_l0 (n : Nat) (hx : n ≤ 140737488351232) (a : Int) (a0 : 0 ≤ a) (a1 : a ≤ 140737488351232) : ∀ (d i : Nat) (xs : List Int), xs.length = n → i + d = n → Ev (fun k => laws_markIntS.l0 k xs (a + i) i) (a + n, xs.take i ++ marks (a + i) d) := by
  intro d
  induction d with
  | zero =>
    intro i xs hl h
    refine Ev.step (fun _ => rfl) (Ev.neg (by omega) (Ev.now' ?_))
    rw [List.take_of_length_le (by omega), show i = n by omega]
    simp [marks]
  | succ d ih =>
    intro i xs hl h
    have w1 : wrap64 ((i : Int) + 1) = ((i + 1 : Nat) : Int) := by rw [wr (by omega) (by omega)]; rfl
    have w2 : wrap64 (a + i + 1) = a + ((i + 1 : Nat) : Int) := by rw [wr (by omega) (by omega)]; omega
    refine Ev.step (fun k => by rw [laws_markIntS.l0, w1, w2, Int.toNat_natCast]) (Ev.pos (by omega) (Ev.pos (by omega) (Ev.eq (ih (i + 1) _ (by rw [List.length_set]; exact hl) (by omega)) ?_)))
    rw [marks_succ, List.take_succ_eq_append_getElem (by rw [List.length_set]; omega), List.getElem_set_self, List.take_set_of_le (Nat.le_refl i)]
    rw [show a + ((i + 1 : Nat) : Int) = a + i + 1 by omega]
    simp
theorem laws_markIntS_ev (xs : List Int) (hx : xs.length ≤ 140737488351232) (a : Int) (a0 : 0 ≤ a) (a1 : a ≤ 140737488351232) : Ev (fun k => laws_markIntS.f k xs a) (a + xs.length, marks a xs.length) := by
  unfold laws_markIntS.f
  have := laws_markIntS_l0 xs.length hx a a0 a1 xs.length 0 xs rfl (by omega)
  simpa using this

theorem laws_heldIntS_l0 (n : Nat) (hx : n ≤ 140737488351232) (a : Int) (a0 : 0 ≤ a) (a1 : a ≤ 140737488351232) : ∀ (d i : Nat), i + d = n → Ev (fun k => laws_heldIntS.l0 k (marks a n) (a + i) i) (a + n) := by
  intro d
  have hl := marks_length a n
  induction d with
  | zero =>
    intro i h
    exact Ev.step (fun _ => rfl) (Ev.neg (by omega) (Ev.now' (by omega)))
  | succ d ih =>
    intro i h
    have w1 : wrap64 ((i : Int) + 1) = ((i + 1 : Nat) : Int) := by rw [wr (by omega) (by omega)]; rfl
    have w2 : wrap64 (a + i + 1) = a + ((i + 1 : Nat) : Int) := by rw [wr (by omega) (by omega)]; omega
    have hr : rd (marks a n) (i : Int) = a + i := by rw [rd_nat (by omega), marks_get]
    exact Ev.step (fun k => by rw [laws_heldIntS.l0, w1, w2]) (Ev.pos (by omega) (Ev.pos (by omega) (Ev.pos hr (ih (i + 1) (by omega)))))
theorem laws_heldIntS_ev (a : Int) (n : Nat) (hx : n ≤ 140737488351232) (a0 : 0 ≤ a) (a1 : a ≤ 140737488351232) : Ev (fun k => laws_heldIntS.f k (marks a n) a) (a + n) := by
  unfold laws_heldIntS.f
  simpa using laws_heldIntS_l0 n hx a a0 a1 n 0 (by omega)

theorem spec_l01In_eq (a b c : Int) : spec_l01In.f a b c = some (decide (b ≤ a ∧ a ≤ c)) := by
  unfold spec_l01In.f; split <;> simp <;> omega

theorem spec_LongOk_l0 (x : Int) (w : ByteArray) (hw : w.size ≤ 140737488351232) (hx : 1 ≤ x ∧ x ≤ 4) : ∀ (d : Nat) (i : Int), 0 ≤ i → i ≤ w.size → (w.size : Int) - i = d → Ev (fun k => spec_LongOk.l0 k x w i) (letters x ((N w).drop i.toNat)) := by
  intro d
  induction d with
  | zero =>
    intro i h0 h1 hd
    refine Ev.step (fun _ => rfl) (Ev.neg (by omega) (Ev.now' ?_))
    rw [N_done w i (by omega)]; rfl
  | succ d ih =>
    intro i h0 h1 hd
    have hb := bt_range w i
    rw [N_cons w i h0 (by omega), letters_cons]
    refine Ev.step (fun _ => rfl) (Ev.pos (by omega) (Ev.pos h0 (Ev.ite (fun h => Ev.now' ?_) (fun h => Ev.ite (fun h2 => Ev.now' ?_) (fun h2 => ?_)))))
    · simp; omega
    · simp; omega
    · rw [wr (by omega) (by omega)]
      refine Ev.eq (ih (i + 1) (by omega) (by omega) (by omega)) ?_
      rw [decide_eq_true (by omega), decide_eq_true (by omega)]; simp
theorem spec_LongOk_ev (x : Int) (w : ByteArray) (hw : w.size ≤ 140737488351232) : Ev (fun k => spec_LongOk.f k x w) (longOk 400 x w) := by
  unfold spec_LongOk.f longOk
  refine Ev.bind (spec_l01In_eq .. ▸ Ev.now _) (Ev.ite (fun h => ?_) (fun h => ?_))
  · have h2 := of_decide_eq_true h
    refine Ev.step (fun _ => rfl) (Ev.ite (fun h => Ev.now' ?_) (fun h => Ev.eq (spec_LongOk_l0 x w hw h2 w.size 0 (by omega) (by omega) (by omega)) ?_))
    · grind
    · grind
  · refine Ev.step (fun _ => spec_LongOk.j0.eq_2 ..) (Ev.pos rfl (Ev.now' ?_))
    grind

theorem spec_l21Ok_ev (w : ByteArray) (hw : w.size ≤ 140737488351232) : Ev (fun k => spec_l21Ok.f k w) (longOk 400 4 w) := by
  unfold spec_l21Ok.f
  exact Ev.bind (spec_LongOk_ev 4 w hw) (Ev.now _)

theorem get_bt {w : ByteArray} {i : Nat} (h : i < w.size) : (N w)[i]? = some (bt w (i : Int)) := by
  have h2 : i < (N w).length := by rw [N_length]; exact h
  rw [N_bt, List.getD_eq_getElem?_getD, Int.toNat_natCast, List.getElem?_eq_getElem h2]; rfl
theorem take_succ_bt {w : ByteArray} {i : Nat} (h : i < w.size) : (N w).take (i + 1) = (N w).take i ++ [bt w (i : Int)] := by
  have h2 : i < (N w).length := by rw [N_length]; exact h
  have := get_bt h
  rw [List.getElem?_eq_getElem h2, Option.some.injEq] at this
  rw [List.take_succ_eq_append_getElem h2, this]
/-- The seek inside the table: behind it the table is one longer. -/
theorem spec_l21Table_l1 (w : ByteArray) (hw : w.size ≤ 400) (i : Nat) (hi : i < w.size) (h0 : 0 < i) (R : List Int)
    (next : Ev (fun k => spec_l21Table.l0 k w (tblN (N w) (i + 1)) (maxB (N w) (i + 1) : Nat) ((i + 1 : Nat) : Int)) R) :
    ∀ (d k0 : Nat), k0 ≤ d → Seek (N w) ((N w).take i) (bt w (i : Int)) (i - 1) k0 → Ev (fun k => spec_l21Table.l1 k w (tblN (N w) i) k0 i) R := by
  have hlen := tblN_length (N w) i
  have hN := N_length w
  have w1 : Aside0 (wrap64 ((i : Int) + 1) = ((i + 1 : Nat) : Int)) := ⟨by rw [wr (by omega) (by omega)]; rfl⟩
  have ht := take_succ_bt hi
  intro d
  induction d with
  | zero =>
    intro k0 hk S
    obtain rfl : k0 = 0 := by omega
    have e0 : (N w)[0]? = some (bt w ((0 : Nat) : Int)) := get_bt (by omega)
    have w2 : Aside0 (wrap64 (((0 : Nat) : Int) + 1) = ((1 : Nat) : Int)) := ⟨by rw [wr (by omega) (by omega)]; rfl⟩
    refine Ev.step (fun k => by rw [spec_l21Table.l1, w1.out, w2.out]) (Ev.neg (by omega) (Ev.pos (by omega) (Ev.pos (by omega) (Ev.pos (by omega) (Ev.pos (by omega) (Ev.pos (by omega) ?_))))))
    refine Ev.ite (fun c => Ev.pos (by omega) ?_) (fun c => Ev.pos (by omega) ?_)
    · have hm : maxB (N w) (i + 1) = 1 := by
        unfold maxB
        rw [ht, show i + 1 - 1 = i - 1 + 1 by omega]
        exact S.hit (by omega) (by rw [e0, c])
      rw [tblN_succ, hm] at next
      exact next
    · have hm : maxB (N w) (i + 1) = 0 := by
        unfold maxB
        rw [ht, show i + 1 - 1 = i - 1 + 1 by omega]
        exact S.miss (by omega) (by rw [e0]; intro z; exact c (Option.some.inj z).symm)
      rw [tblN_succ, hm] at next
      exact next
  | succ d ih =>
    intro k0 hk S
    by_cases hz : k0 = 0
    · subst hz; exact ih 0 (by omega) S
    · have hle := S.le
      have hk2 : k0 < i := by omega
      have w3 : Aside0 (wrap64 ((k0 : Int) - 1) = ((k0 - 1 : Nat) : Int)) := ⟨by rw [wr (by omega) (by omega)]; omega⟩
      have w4 : Aside0 (wrap64 ((k0 : Int) + 1) = ((k0 + 1 : Nat) : Int)) := ⟨by rw [wr (by omega) (by omega)]; rfl⟩
      have e0 : (N w)[k0]? = some (bt w (k0 : Int)) := get_bt (by omega)
      have hrd : rd (tblN (N w) i) ((k0 - 1 : Nat) : Int) = (maxB (N w) k0 : Nat) := by
        rw [rd_tblN (by omega) (by omega), Int.toNat_natCast, show k0 - 1 + 1 = k0 by omega]
      have hlt := maxB_lt (p := N w) (q := k0) (by omega)
      refine Ev.step (fun k => by rw [spec_l21Table.l1, w1.out, w3.out, w4.out, hrd]) (Ev.pos (by omega) (Ev.neg (by omega) (Ev.pos (by omega) (Ev.pos (by omega) (Ev.pos (by omega) (Ev.pos (by omega) ?_))))))
      refine Ev.ite (fun c => Ev.pos (by omega) (Ev.pos (by omega) ?_)) (fun c => Ev.pos (by omega) (Ev.pos (by omega) ?_))
      · have hm : maxB (N w) (i + 1) = k0 + 1 := by
          unfold maxB
          rw [ht, show i + 1 - 1 = i - 1 + 1 by omega]
          exact S.hit (by omega) (by rw [e0, c])
        rw [tblN_succ, hm] at next
        exact next
      · exact ih _ (by omega) (S.next (by omega) (by rw [e0]; intro z; exact c (Option.some.inj z).symm))
theorem maxB_one (p : List Int) : maxB p 1 = 0 := rfl
theorem spec_l21Table_l0 (w : ByteArray) (hw : w.size ≤ 400) : ∀ (d i : Nat), i + d = w.size → Ev (fun k => spec_l21Table.l0 k w (tblN (N w) i) (maxB (N w) i : Nat) i) (tbl (N w)) := by
  intro d
  induction d with
  | zero => intro i h; exact Ev.step (fun _ => rfl) (Ev.neg (by omega) (Ev.now' (by unfold tbl; rw [N_length, show i = w.size by omega])))
  | succ d ih =>
    intro i h
    have next := ih (i + 1) (by omega)
    have hlen := tblN_length (N w) i
    refine Ev.step (fun k => by rw [spec_l21Table.l0]) (Ev.pos (by omega) ?_)
    by_cases h0 : i = 0
    · subst h0
      have hm : maxB (N w) 0 = 0 := rfl
      have w1 : Aside0 (wrap64 (((0 : Nat) : Int) + 1) = ((0 + 1 : Nat) : Int)) := ⟨by rw [wr (by omega) (by omega)]; rfl⟩
      rw [hm]
      refine Ev.step (fun k => by rw [spec_l21Table.l1, w1.out]) (Ev.neg (by omega) (Ev.neg (by omega) (Ev.pos (by omega) ?_)))
      rw [tblN_succ, maxB_one] at next
      exact next
    · exact spec_l21Table_l1 w hw i (by omega) (by omega) _ next (maxB (N w) i) (maxB (N w) i) (Nat.le_refl _) (Seek.start _ _)
theorem spec_l21Table_ev (w : ByteArray) (hw : w.size ≤ 400) : Ev (fun k => spec_l21Table.f k w) (tbl (N w)) := by
  unfold spec_l21Table.f
  exact spec_l21Table_l0 w hw w.size 0 (by omega)

def findAll (w p : ByteArray) : List Int := if longOk 400 4 w = true ∧ longOk 400 4 p = true ∧ p.size ≠ 0 then plN (N w) (N p) w.size else []
theorem spec_FindAll_j3 (w p : ByteArray) (hw : w.size ≤ 400) (hp : p.size ≤ 400) (hp0 : 0 < p.size) (T : List Int) (i : Nat) (hi : i < w.size) (k0 : Nat) (hk : k0 < p.size)
    (S : Seek (N p) ((N w).take i) (bt w (i : Int)) (p.size - 1) k0) (hs : k0 = 0 ∨ bt w (i : Int) = bt p (k0 : Int)) (R : List Int)
    (next : Ev (fun k => spec_FindAll.l0 k w p T (plN (N w) (N p) (i + 1)) (gre (N p) ((N w).take (i + 1)) p.size : Nat) ((i + 1 : Nat) : Int)) R) :
    Ev (fun k => spec_FindAll.j3 k w p T (plN (N w) (N p) i) k0 i) R := by
  have hNw := N_length w
  have hNp := N_length p
  have ht := take_succ_bt hi
  have e0 : (N p)[k0]? = some (bt p (k0 : Int)) := get_bt hk
  have hpl := plN_length (N w) (N p) i
  have hsucc := plN_succ (w := N w) (p := N p) (i := i) (by omega) (by omega)
  have hsp : sp (N p) ((N w).take (i + 1)) (N p).length = true ↔ gre (N p) ((N w).take (i + 1)) p.size = p.size := by
    constructor
    · intro h
      have := le_gre (N p) ((N w).take (i + 1)) p.size p.size (Nat.le_refl _) (by rw [← hNp]; exact h)
      have := gre_le (N p) ((N w).take (i + 1)) p.size
      omega
    · intro h
      have := gre_sp (N p) ((N w).take (i + 1)) p.size
      rw [h] at this
      rw [hNp]; exact this
  have w1 : Aside0 (wrap64 ((i : Int) + 1) = ((i + 1 : Nat) : Int)) := ⟨by rw [wr (by omega) (by omega)]; rfl⟩
  have w2 : Aside0 (wrap64 ((k0 : Int) + 1) = ((k0 + 1 : Nat) : Int)) := ⟨by rw [wr (by omega) (by omega)]; rfl⟩
  refine Ev.step (fun k => by rw [spec_FindAll.j3, w1.out, w2.out]) (Ev.pos (by omega) (Ev.pos (by omega) (Ev.pos (by omega) (Ev.pos (by omega) ?_))))
  refine Ev.ite (fun c => ?_) (fun c => ?_)
  · have hm : gre (N p) ((N w).take (i + 1)) p.size = k0 + 1 := by
      rw [ht, show p.size = p.size - 1 + 1 by omega]
      exact S.hit (by omega) (by rw [e0, c])
    rw [hm] at next hsp
    refine Ev.ite (fun c2 => Ev.pos (by omega) ?_) (fun c2 => ?_)
    · rw [hsucc, if_pos (hsp.2 (by omega)), hNp] at next
      rw [wr (by omega) (by omega), show ((i + 1 : Nat) : Int) - ((k0 + 1 : Nat) : Int) = ((i + 1 - p.size : Nat) : Int) by have := gre_sp (N p) ((N w).take (i + 1)) p.size; rw [hm, sp_iff] at this; have := this.length_le; rw [List.length_take, List.length_take] at this; omega]
      exact next
    · rw [hsucc, if_neg (fun z => c2 (by have := hsp.1 z; omega))] at next
      exact next
  · have hz : k0 = 0 := hs.resolve_right c
    subst hz
    have hm : gre (N p) ((N w).take (i + 1)) p.size = 0 := by
      rw [ht, show p.size = p.size - 1 + 1 by omega]
      exact S.miss (by omega) (by rw [e0]; intro z; exact c (Option.some.inj z).symm)
    rw [hm] at next hsp
    rw [hsucc, if_neg (fun z => by have := hsp.1 z; omega)] at next
    exact Ev.neg (by omega) next
theorem spec_FindAll_l1 (w p : ByteArray) (hw : w.size ≤ 400) (hp : p.size ≤ 400) (hp0 : 0 < p.size) (i : Nat) (hi : i < w.size) (R : List Int)
    (next : Ev (fun k => spec_FindAll.l0 k w p (tbl (N p)) (plN (N w) (N p) (i + 1)) (gre (N p) ((N w).take (i + 1)) p.size : Nat) ((i + 1 : Nat) : Int)) R) :
    ∀ (d k0 : Nat), k0 ≤ d → k0 < p.size → Seek (N p) ((N w).take i) (bt w (i : Int)) (p.size - 1) k0 → Ev (fun k => spec_FindAll.l1 k w p (tbl (N p)) (plN (N w) (N p) i) k0 i) R := by
  have hNp := N_length p
  have hlen : (tbl (N p)).length = p.size := by unfold tbl; rw [tblN_length, N_length]
  intro d
  induction d with
  | zero =>
    intro k0 h1 h2 S
    exact Ev.step (fun k => by rw [spec_FindAll.l1]) (Ev.neg (by omega) (spec_FindAll_j3 w p hw hp hp0 _ i hi k0 h2 S (.inl (by omega)) R next))
  | succ d ih =>
    intro k0 h1 h2 S
    by_cases h0 : k0 = 0
    · exact ih k0 (by omega) h2 S
    · have w3 : Aside0 (wrap64 ((k0 : Int) - 1) = ((k0 - 1 : Nat) : Int)) := ⟨by rw [wr (by omega) (by omega)]; omega⟩
      have hrd : rd (tbl (N p)) ((k0 - 1 : Nat) : Int) = (maxB (N p) k0 : Nat) := by
        unfold tbl
        rw [rd_tblN (by omega) (by omega), Int.toNat_natCast, show k0 - 1 + 1 = k0 by omega]
      have hl := maxB_lt (p := N p) (q := k0) (by omega)
      have e0 : (N p)[k0]? = some (bt p (k0 : Int)) := get_bt h2
      refine Ev.step (fun k => by rw [spec_FindAll.l1, w3.out, hrd]) (Ev.pos (by omega) (Ev.neg (by omega) (Ev.pos (by omega) (Ev.pos (by omega) (Ev.pos (by omega) (Ev.pos (by omega) ?_))))))
      refine Ev.ite (fun c => spec_FindAll_j3 w p hw hp hp0 _ i hi k0 h2 S (.inr c) R next) (fun c => Ev.pos (by omega) (Ev.pos (by omega) ?_))
      exact ih _ (by omega) (by omega) (S.next (by omega) (by rw [e0]; intro z; exact c (Option.some.inj z).symm))
theorem spec_FindAll_l0 (w p : ByteArray) (hw : w.size ≤ 400) (hp : p.size ≤ 400) (hp0 : 0 < p.size) : ∀ (d i : Nat), i + d = w.size → Ev (fun k => spec_FindAll.l0 k w p (tbl (N p)) (plN (N w) (N p) i) (gre (N p) ((N w).take i) p.size : Nat) i) (plN (N w) (N p) w.size) := by
  have hNp := N_length p
  have hlen : (tbl (N p)).length = p.size := by unfold tbl; rw [tblN_length, N_length]
  intro d
  induction d with
  | zero => intro i h; exact Ev.step (fun _ => rfl) (Ev.neg (by omega) (Ev.now' (by rw [show i = w.size by omega])))
  | succ d ih =>
    intro i h
    have next := ih (i + 1) (by omega)
    have hg := gre_le (N p) ((N w).take i) p.size
    refine Ev.step (fun k => by rw [spec_FindAll.l0]) (Ev.pos (by omega) ?_)
    by_cases hf : gre (N p) ((N w).take i) p.size = p.size
    · have S : Seek (N p) ((N w).take i) (bt w (i : Int)) (p.size - 1) (maxB (N p) p.size) := by
        have := Seek.full (p := N p) (t := (N w).take i) (bt w (i : Int)) (by omega) (by rw [hNp]; exact hf)
        rw [hNp] at this; exact this
      have w3 : Aside0 (wrap64 ((p.size : Int) - 1) = ((p.size - 1 : Nat) : Int)) := ⟨by rw [wr (by omega) (by omega)]; omega⟩
      have hrd : rd (tbl (N p)) ((p.size - 1 : Nat) : Int) = (maxB (N p) p.size : Nat) := by
        unfold tbl
        rw [rd_tblN (by omega) (by omega), Int.toNat_natCast, show p.size - 1 + 1 = p.size by omega]
      have hl := maxB_lt (p := N p) (q := p.size) (by omega)
      rw [hf]
      refine Ev.step (fun k => by rw [spec_FindAll.l1, w3.out, hrd]) (Ev.pos (by omega) (Ev.pos rfl (Ev.pos (by omega) (Ev.pos (by omega) ?_))))
      exact spec_FindAll_l1 w p hw hp hp0 i (by omega) _ next _ _ (Nat.le_refl _) (by omega) S
    · have S : Seek (N p) ((N w).take i) (bt w (i : Int)) (p.size - 1) (gre (N p) ((N w).take i) p.size) := by
        have := Seek.first (p := N p) (t := (N w).take i) (bt w (i : Int)) (k := gre (N p) ((N w).take i) p.size) (by omega) (by rw [hNp])
        rw [hNp] at this; exact this
      exact spec_FindAll_l1 w p hw hp hp0 i (by omega) _ next _ _ (Nat.le_refl _) (by omega) S
theorem spec_FindAll_ev (w p : ByteArray) (hw : w.size ≤ 140737488351232) (hp : p.size ≤ 140737488351232) : Ev (fun k => spec_FindAll.f k w p) (findAll w p) := by
  unfold spec_FindAll.f findAll
  have stop : ∀ k, spec_FindAll.j0 (k + 1) w p true = some [] := fun k => by rw [spec_FindAll.j0, if_pos rfl]
  refine Ev.bind (spec_l21Ok_ev w hw) ?_
  by_cases h1 : longOk 400 4 w = true
  · refine Ev.pos h1 (Ev.bind (spec_l21Ok_ev p hp) ?_)
    by_cases h2 : longOk 400 4 p = true
    · refine Ev.pos h2 ?_
      rw [toList_beq_nil]
      by_cases h3 : p.size = 0
      · rw [decide_eq_true h3, if_neg (fun z => z.2.2 h3)]
        exact Ev.step stop (Ev.now _)
      · rw [decide_eq_false h3, if_pos ⟨h1, h2, h3⟩]
        have s1 : w.size ≤ 400 := by have := longOk_size h1; omega
        have s2 : p.size ≤ 400 := by have := longOk_size h2; omega
        refine Ev.step (f := fun k => (spec_l21Table.f k p).bind fun t129 => (spec_FindAll.l0 k w p t129 (([] : List Int)) 0 0)) (fun k => by rw [spec_FindAll.j0, if_neg (by simp)]) (Ev.bind (spec_l21Table_ev p s2) ?_)
        have := spec_FindAll_l0 w p s1 s2 (by omega) w.size 0 (by omega)
        have hN := N_length p
        rw [show plN (N w) (N p) 0 = [] by unfold plN; rw [show 0 + 1 - (N p).length = 0 by omega]; rfl, show gre (N p) ((N w).take 0) p.size = 0 by
          refine gre_eq (Nat.zero_le _) (sp_zero _ _) (fun j hj hs => ?_)
          rw [sp_iff] at hs
          have := hs.length_le
          rw [List.length_take, List.take_zero, List.length_nil] at this
          omega] at this
        exact this
    · rw [if_neg (fun z => h2 z.2.1)]
      exact Ev.neg h2 (Ev.step stop (Ev.now _))
  · rw [if_neg (fun z => h1 z.1)]
    exact Ev.neg h1 (Ev.step stop (Ev.now _))

theorem impl_within_eq (a b c : Int) : impl_within.f a b c = some (decide (b ≤ a ∧ a ≤ c)) := by
  unfold impl_within.f; split <;> simp <;> omega

theorem impl_hasLetters_l0 (x : Int) (w : ByteArray) (hw : w.size ≤ 140737488351232) (hx : 1 ≤ x ∧ x ≤ 4) : ∀ (d : Nat) (i : Int), 0 ≤ i → i ≤ w.size → (w.size : Int) - i = d → Ev (fun k => impl_hasLetters.l0 k x w w.size i) (letters x ((N w).drop i.toNat)) := by
  intro d
  induction d with
  | zero =>
    intro i h0 h1 hd
    refine Ev.step (fun _ => rfl) (Ev.neg (by omega) (Ev.now' ?_))
    rw [N_done w i (by omega)]; rfl
  | succ d ih =>
    intro i h0 h1 hd
    have hb := bt_range w i
    rw [N_cons w i h0 (by omega), letters_cons]
    refine Ev.step (fun _ => rfl) (Ev.pos (by omega) (Ev.pos h0 (Ev.pos (by omega) (Ev.bind (impl_within_eq .. ▸ Ev.now _) ?_))))
    rw [wr (by omega) (by omega), wr (n := 97 + x) (by omega) (by omega), wr (n := 97 + x - 1) (by omega) (by omega)]
    refine Ev.ite (fun h => ?_) (fun h => Ev.now' ?_)
    · rw [wr (by omega) (by omega)]
      refine Ev.eq (ih (i + 1) (by omega) (by omega) (by omega)) ?_
      grind
    · grind

theorem impl_LongOk_ev (x : Int) (w : ByteArray) (hw : w.size ≤ 140737488351232) : Ev (fun k => impl_LongOk.f k x w) (longOk 400 x w) := by
  unfold impl_LongOk.f longOk
  refine Ev.bind (impl_within_eq .. ▸ Ev.now _) (Ev.ite (fun h => ?_) (fun h => Ev.now' (by grind)))
  have h2 := of_decide_eq_true h
  refine Ev.ite (fun h => Ev.bind (impl_hasLetters_l0 x w hw h2 w.size 0 (by omega) (by omega) (by omega)) (Ev.now' (by grind))) (fun h => Ev.now' (by grind))

theorem HasPrefix_eq (s t : ByteArray) : stringslite_HasPrefix.f s t = some ((N s).take t.size == N t) := by
  unfold stringslite_HasPrefix.f
  by_cases h : (s.size : Int) ≥ (t.size : Int)
  · rw [if_pos h, if_pos (by omega), if_pos (by omega)]
    congr 1
    rw [Bool.eq_iff_iff, beq_iff_eq, beq_iff_eq, bytes_eqN, N_extract, Int.toNat_natCast, List.drop_zero, Nat.sub_zero]
  · rw [if_neg h]
    congr 1
    symm
    rw [beq_eq_false_iff_ne]
    intro z
    have := congrArg List.length z
    rw [List.length_take, N_length, N_length] at this
    omega

theorem strings_HasPrefix_eq (s t : ByteArray) : strings_HasPrefix.f s t = some ((N s).take t.size == N t) := by
  unfold strings_HasPrefix.f
  rw [HasPrefix_eq]; rfl

theorem impl_PlacesOf_l0 (w p : ByteArray) (hw : w.size ≤ 400) : ∀ (d i : Nat) (out : List Int), i + d = w.size → out.length ≤ i → out = ((List.range i).filter (fun q => mat (N w) (N p) q)).map (fun q : Nat => (q : Int)) → Ev (fun k => impl_PlacesOf.l0 k w p out w.size i) (((List.range w.size).filter (fun q => mat (N w) (N p) q)).map (fun q : Nat => (q : Int))) := by
  intro d
  induction d with
  | zero => intro i out h ho hout; exact Ev.step (fun _ => rfl) (Ev.neg (by omega) (Ev.now' (by rw [hout, show i = w.size by omega])))
  | succ d ih =>
    intro i out h ho hout
    have w1 : Aside0 (wrap64 ((i : Int) + 1) = ((i + 1 : Nat) : Int)) := ⟨by rw [wr (by omega) (by omega)]; rfl⟩
    have hp : strings_HasPrefix.f (w.extract i w.size) p = some (mat (N w) (N p) i) := by
      rw [strings_HasPrefix_eq, N_extract]
      unfold mat
      rw [N_length, List.take_of_length_le (l := (N w).drop i) (by rw [List.length_drop, N_length]; omega)]
    refine Ev.step (fun k => by rw [impl_PlacesOf.l0, w1.out, Int.toNat_natCast, hp, Option.bind_some]) (Ev.pos (by omega) (Ev.pos (by omega) (Ev.pos (by omega) ?_)))
    refine Ev.ite (fun c => Ev.pos (by omega) (ih (i + 1) _ (by omega) (by simp; omega) ?_)) (fun c => ih (i + 1) _ (by omega) (by omega) ?_)
    · rw [hout, List.range_succ, List.filter_append]; simp [c]
    · rw [hout, List.range_succ, List.filter_append]; simp [c]
theorem impl_PlacesOf_ev (w p : ByteArray) (hw : w.size ≤ 400) : Ev (fun k => impl_PlacesOf.f k w p) (if p.size = 0 then [] else plN (N w) (N p) w.size) := by
  unfold impl_PlacesOf.f
  by_cases h0 : p.size = 0
  · rw [if_pos h0]; exact Ev.pos (toList_nil.2 h0) (Ev.now _)
  · rw [if_neg h0]
    refine Ev.neg (fun z => h0 (toList_nil.1 z)) (Ev.eq (impl_PlacesOf_l0 w p hw w.size 0 [] (by omega) (by simp) rfl) ?_)
    have := plN_all (w := N w) (p := N p) (by rw [N_length]; omega)
    rw [N_length] at this
    exact this.symm

theorem impl_FindAll_ev (w p : ByteArray) (hw : w.size ≤ 140737488351232) (hp : p.size ≤ 140737488351232) : Ev (fun k => impl_FindAll.f k w p) (findAll w p) := by
  unfold impl_FindAll.f findAll
  refine Ev.bind (impl_LongOk_ev 4 w hw) ?_
  by_cases h1 : longOk 400 4 w = true
  · refine Ev.pos h1 (Ev.bind (impl_LongOk_ev 4 p hp) ?_)
    by_cases h2 : longOk 400 4 p = true
    · refine Ev.pos h2 ?_
      by_cases h3 : p.size = 0
      · rw [if_neg (fun z => z.2.2 h3)]; exact Ev.pos (toList_nil.2 h3) (Ev.now _)
      · rw [if_pos ⟨h1, h2, h3⟩]
        have := impl_PlacesOf_ev w p (by have := longOk_size h1; omega)
        rw [if_neg h3] at this
        exact Ev.neg (fun z => h3 (toList_nil.1 z)) (Ev.bind this (Ev.now _))
    · rw [if_neg (fun z => h2 z.2.1)]; exact Ev.neg h2 (Ev.now _)
  · rw [if_neg (fun z => h1 z.1)]; exact Ev.neg h1 (Ev.now _)

theorem FnExactFindAll : laws_FnExactFindAll.Pure := by
  intro w p hw hp
  apply Ev.rounds
  unfold laws_FnExactFindAll.f
  have hlen : (findAll w p).length ≤ 140737488351232 := by
    unfold findAll
    split
    · rename_i h; have := plN_length (N w) (N p) w.size; have := longOk_size h.1; omega
    · simp
  refine Ev.ite (fun h => Ev.now _) (fun h => Ev.ite (fun h => Ev.now _) (fun h => Ev.bind (spec_FindAll_ev w p hw hp) (Ev.bind (impl_FindAll_ev w p hw hp) ?_)))
  have E := impl_FindAll_ev w p hw hp
  generalize findAll w p = r at hlen E
  refine Ev.bind (laws_eqIntS_same r hlen) (Ev.pos rfl (Ev.bind (laws_markIntS_ev r hlen 1 (by omega) (by omega)) (Ev.bind (laws_heldIntS_ev 1 r.length hlen (by omega) (by omega)) (Ev.neg (by omega) (Ev.pos rfl (Ev.bind E (Ev.bind (laws_eqIntS_same r hlen) (Ev.pos rfl (Ev.bind (laws_heldIntS_ev 1 r.length hlen (by omega) (by omega)) (Ev.neg (by omega) (Ev.pos rfl (Ev.now _))))))))))))

end Go.Proofs.Ytkklcjfpgfgkdab.Pure
