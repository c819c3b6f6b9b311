/- Lemmas of this session on prefixes that are suffixes: borders, border tables, the search by them. No program in sight. -/
import Derived.Test.YtkklcjfpgfgkdabThyRep
set_option linter.unusedVariables false
namespace Go.Proofs.Ytkklcjfpgfgkdab.Thy
open Go.RowKit Go.Proofs.YtkklcjfpgfgkdabW.PrintWords

/-- The first k letters of p end t. -/
def sp (p t : List Int) (k : Nat) : Bool := decide (p.take k <:+ t)
theorem sp_iff {p t : List Int} {k : Nat} : sp p t k = true ↔ p.take k <:+ t := by simp [sp]
theorem sp_zero (p t : List Int) : sp p t 0 = true := by rw [sp_iff]; simp
/-- The greatest k up to b. -/
def gre (p t : List Int) : Nat → Nat
  | 0 => 0
  | b + 1 => if sp p t (b + 1) = true then b + 1 else gre p t b
theorem gre_le (p t : List Int) : ∀ b, gre p t b ≤ b
  | 0 => Nat.le_refl _
  | b + 1 => by
    rw [gre]; split
    · exact Nat.le_refl _
    · exact Nat.le_trans (gre_le p t b) (Nat.le_succ _)
theorem gre_sp (p t : List Int) : ∀ b, sp p t (gre p t b) = true
  | 0 => sp_zero _ _
  | b + 1 => by
    rw [gre]; split
    · assumption
    · exact gre_sp p t b
theorem le_gre (p t : List Int) : ∀ b j, j ≤ b → sp p t j = true → j ≤ gre p t b
  | 0, j, h, _ => by simpa [gre] using h
  | b + 1, j, h, hs => by
    rw [gre]; split
    · exact h
    · rename_i hn
      rcases Nat.lt_or_ge j (b + 1) with h2 | h2
      · exact le_gre p t b j (by omega) hs
      · exact absurd (show sp p t (b + 1) = true by rw [show b + 1 = j by omega]; exact hs) hn
theorem gre_eq {p t : List Int} {b k : Nat} (hk : k ≤ b) (hs : sp p t k = true) (hm : ∀ j, j ≤ b → sp p t j = true → j ≤ k) : gre p t b = k :=
  Nat.le_antisymm (hm _ (gre_le p t b) (gre_sp p t b)) (le_gre p t b k hk hs)
theorem suffix_concat {l t : List Int} {a c : Int} : l ++ [a] <:+ t ++ [c] ↔ l <:+ t ∧ a = c := by
  constructor
  · rintro ⟨r, hr⟩
    rw [← List.append_assoc] at hr
    have := List.append_inj' hr rfl
    exact ⟨⟨r, this.1⟩, by simpa using this.2⟩
  · rintro ⟨⟨r, rfl⟩, rfl⟩
    exact ⟨r, by rw [List.append_assoc]⟩
theorem sp_succ {p t : List Int} {k : Nat} {c : Int} (hk : k < p.length) : sp p (t ++ [c]) (k + 1) = true ↔ sp p t k = true ∧ p[k]? = some c := by
  rw [sp_iff, sp_iff, List.take_succ_eq_append_getElem hk, suffix_concat, List.getElem?_eq_getElem hk, Option.some.injEq]
theorem sp_down {p t : List Int} {j k : Nat} (h : j ≤ k) (hk : sp p t k = true) (hj : sp p t j = true) : sp p (p.take k) j = true := by
  rw [sp_iff] at *
  exact List.suffix_of_suffix_length_le hj hk (by rw [List.length_take, List.length_take]; omega)
theorem sp_up {p t : List Int} {j k : Nat} (hk : sp p t k = true) (hj : sp p (p.take k) j = true) : sp p t j = true := by
  rw [sp_iff] at *
  exact hj.trans hk
/-- The length of the longest border of the first q letters. -/
def maxB (p : List Int) (q : Nat) : Nat := gre p (p.take q) (q - 1)
theorem maxB_lt {p : List Int} {q : Nat} (h : 0 < q) : maxB p q < q := by have := gre_le p (p.take q) (q - 1); unfold maxB; omega
/-- All that the search for the next length keeps: k ends t, and no good one is greater. -/
structure Seek (p t : List Int) (c : Int) (b k : Nat) : Prop where
  le : k ≤ b
  here : sp p t k = true
  most : ∀ j, j ≤ b → sp p t j = true → p[j]? = some c → j ≤ k
theorem Seek.next {p t : List Int} {c : Int} {b k : Nat} (h : Seek p t c b k) (h0 : 0 < k) (hn : p[k]? ≠ some c) : Seek p t c b (maxB p k) := by
  have hl := maxB_lt (p := p) h0
  refine ⟨by have := h.le; omega, sp_up h.here (gre_sp _ _ _), fun j hj hs hg => ?_⟩
  have h1 := h.most j hj hs hg
  have h2 : j ≠ k := fun e => hn (e ▸ hg)
  exact le_gre _ _ _ _ (by omega) (sp_down (by omega) h.here hs)
theorem Seek.start {p t : List Int} (c : Int) (b : Nat) : Seek p t c b (gre p t b) := ⟨gre_le _ _ _, gre_sp _ _ _, fun j hj hs _ => le_gre _ _ _ _ hj hs⟩
theorem Seek.hit {p t : List Int} {c : Int} {b k : Nat} (h : Seek p t c b k) (hb : b < p.length) (hg : p[k]? = some c) : gre p (t ++ [c]) (b + 1) = k + 1 := by
  refine gre_eq (by have := h.le; omega) ((sp_succ (by have := h.le; omega)).2 ⟨h.here, hg⟩) (fun j hj hs => ?_)
  cases j with
  | zero => omega
  | succ j =>
    obtain ⟨h1, h2⟩ := (sp_succ (by omega)).1 hs
    have := h.most j (by omega) h1 h2
    omega
theorem Seek.miss {p t : List Int} {c : Int} {b : Nat} (h : Seek p t c b 0) (hb : b < p.length) (hg : p[0]? ≠ some c) : gre p (t ++ [c]) (b + 1) = 0 := by
  refine gre_eq (Nat.zero_le _) (sp_zero _ _) (fun j hj hs => ?_)
  cases j with
  | zero => omega
  | succ j =>
    obtain ⟨h1, h2⟩ := (sp_succ (by omega)).1 hs
    have := h.most j (by omega) h1 h2
    obtain rfl : j = 0 := by omega
    exact absurd h2 hg
/-- The table of the longest borders. -/
def tblN (p : List Int) (n : Nat) : List Int := (List.range n).map fun i => ((maxB p (i + 1) : Nat) : Int)
def tbl (p : List Int) : List Int := tblN p p.length
theorem tblN_length (p : List Int) (n : Nat) : (tblN p n).length = n := by simp [tblN]
theorem tblN_succ (p : List Int) (n : Nat) : tblN p (n + 1) = tblN p n ++ [((maxB p (n + 1) : Nat) : Int)] := by simp [tblN, List.range_succ]
theorem rd_tblN {p : List Int} {n : Nat} {i : Int} (h0 : 0 ≤ i) (h1 : i < n) : rd (tblN p n) i = (maxB p (i.toNat + 1) : Nat) := by
  unfold rd tblN
  rw [List.getD_eq_getElem?_getD, List.getElem?_map, List.getElem?_range (by omega)]
  rfl
/-- Is k the length of a border of the whole word? -/
def brd (p : List Int) (k : Nat) : Bool := sp p p k
theorem brd_iff {p : List Int} {k : Nat} (hk : k ≤ p.length) : brd p k = true ↔ p.take k = p.drop (p.length - k) := by
  unfold brd
  rw [sp_iff]
  constructor
  · rintro ⟨r, hr⟩
    have hl : r.length = p.length - k := by have := congrArg List.length hr; rw [List.length_append, List.length_take] at this; omega
    rw [← hl]
    conv => rhs; rw [← hr]
    exact (List.drop_left' rfl).symm
  · intro h
    rw [h]
    exact List.drop_suffix _ _
/-- The lengths of the borders up to k. -/
def brds (p : List Int) (k : Nat) : List Int := ((List.range (k + 1)).filter (fun j => brd p j)).map (fun j : Nat => (j : Int))
theorem brds_zero (p : List Int) : brds p 0 = [0] := by simp [brds, brd, sp_zero, List.range_succ]
theorem filter_range_skip (f : Nat → Bool) {a b : Nat} (hab : a ≤ b) (h : ∀ j, a ≤ j → j < b → f j = false) : (List.range b).filter f = (List.range a).filter f := by
  obtain ⟨d, rfl⟩ : ∃ d, b = a + d := ⟨b - a, by omega⟩
  clear hab
  induction d with
  | zero => rfl
  | succ d ih =>
    rw [show a + (d + 1) = (a + d) + 1 by omega, List.range_succ, List.filter_append, ih (fun j h1 h2 => h j h1 (by omega))]
    rw [List.filter_cons, h (a + d) (by omega) (by omega)]
    simp
theorem brds_step {p : List Int} {k : Nat} (h0 : 0 < k) (hb : brd p k = true) : brds p k = brds p (maxB p k) ++ [(k : Int)] := by
  have hl := maxB_lt (p := p) h0
  unfold brds
  rw [List.range_succ, List.filter_append, filter_range_skip (fun j => brd p j) (a := maxB p k + 1) (b := k) (by omega) (fun j h1 h2 => ?_)]
  · simp [hb]
  · cases hj : brd p j with
    | false => rfl
    | true =>
      have := le_gre p (p.take k) (k - 1) j (by omega) (sp_down (by omega) hb hj)
      unfold maxB at h1 hl
      omega
theorem brd_maxB {p : List Int} {k : Nat} (hb : brd p k = true) : brd p (maxB p k) = true := sp_up hb (gre_sp _ _ _)
theorem brds_all {p : List Int} (h : 0 < p.length) : brds p (maxB p p.length) = brds p (p.length - 1) := by
  have hl := maxB_lt (p := p) h
  unfold brds
  rw [show p.length - 1 + 1 = p.length by omega, filter_range_skip (fun j => brd p j) (a := maxB p p.length + 1) (b := p.length) (by omega) (fun j h1 h2 => ?_)]
  cases hj : brd p j with
  | false => rfl
  | true =>
    have := le_gre p (p.take p.length) (p.length - 1) j (by omega) (by rw [List.take_length]; exact hj)
    unfold maxB at h1
    omega
theorem brds_length (p : List Int) (k : Nat) : (brds p k).length ≤ k + 1 := by
  unfold brds
  rw [List.length_map]
  exact Nat.le_trans (List.length_filter_le ..) (by rw [List.length_range]; exact Nat.le_refl _)
/-- A part stands at a place. -/
def mat (w p : List Int) (q : Nat) : Bool := (w.drop q).take p.length == p
/-- The places of a part that end in the first i letters. -/
def plN (w p : List Int) (i : Nat) : List Int := ((List.range (i + 1 - p.length)).filter (fun q => mat w p q)).map (fun q : Nat => (q : Int))
theorem mat_sp {w p : List Int} {i : Nat} (h : p.length ≤ i) (hi : i ≤ w.length) : mat w p (i - p.length) = sp p (w.take i) p.length := by
  rw [Bool.eq_iff_iff, sp_iff, List.take_length]
  unfold mat
  rw [beq_iff_eq]
  have e : (w.drop (i - p.length)).take p.length = (w.take i).drop (i - p.length) := by
    rw [List.drop_take, show i - (i - p.length) = p.length by omega]
  rw [e]
  constructor
  · intro h2
    rw [← h2]
    exact List.drop_suffix _ _
  · rintro ⟨r, hr⟩
    have hl : r.length = i - p.length := by have := congrArg List.length hr; rw [List.length_append, List.length_take] at this; omega
    rw [← hr, ← hl]
    exact List.drop_left' rfl
theorem plN_succ {w p : List Int} {i : Nat} (hp : 0 < p.length) (hi : i < w.length) : plN w p (i + 1) = if sp p (w.take (i + 1)) p.length = true then plN w p i ++ [((i + 1 - p.length : Nat) : Int)] else plN w p i := by
  unfold plN
  by_cases h : p.length ≤ i + 1
  · have e := mat_sp h (show i + 1 ≤ w.length by omega)
    rw [show i + 1 + 1 - p.length = (i + 1 - p.length) + 1 by omega, List.range_succ, List.filter_append, List.map_append, ← e]
    cases hm : mat w p (i + 1 - p.length) <;> simp [hm]
  · have h1 : ¬ sp p (w.take (i + 1)) p.length = true := by
      rw [sp_iff, List.take_length]
      intro z
      have := z.length_le
      rw [List.length_take] at this
      omega
    rw [if_neg h1, show i + 1 + 1 - p.length = 0 by omega, show i + 1 - p.length = 0 by omega]
theorem plN_length (w p : List Int) (i : Nat) : (plN w p i).length ≤ i + 1 := by
  unfold plN
  rw [List.length_map]
  exact Nat.le_trans (List.length_filter_le ..) (by rw [List.length_range]; omega)
theorem plN_all {w p : List Int} (hp : 0 < p.length) : plN w p w.length = ((List.range w.length).filter (fun q => mat w p q)).map (fun q : Nat => (q : Int)) := by
  unfold plN
  rcases Nat.lt_or_ge w.length p.length with h | h
  · rw [show w.length + 1 - p.length = 0 by omega, filter_range_skip (fun q => mat w p q) (a := 0) (b := w.length) (by omega) (fun j h1 h2 => ?_)]
    unfold mat
    rw [beq_eq_false_iff_ne]
    intro z
    have := congrArg List.length z
    rw [List.length_take, List.length_drop] at this
    omega
  · rw [filter_range_skip (fun q => mat w p q) (a := w.length + 1 - p.length) (b := w.length) (by omega) (fun j h1 h2 => ?_)]
    unfold mat
    rw [beq_eq_false_iff_ne]
    intro z
    have := congrArg List.length z
    rw [List.length_take, List.length_drop] at this
    omega
/-- Where the search stands before a letter: full matches fall back once. -/
theorem Seek.first {p t : List Int} (c : Int) {k : Nat} (hk : k < p.length) (he : gre p t p.length = k) : Seek p t c (p.length - 1) k :=
  ⟨by omega, he ▸ gre_sp _ _ _, fun j hj hs _ => he ▸ le_gre _ _ _ _ (by omega) hs⟩
theorem Seek.full {p t : List Int} (c : Int) (hp : 0 < p.length) (he : gre p t p.length = p.length) : Seek p t c (p.length - 1) (maxB p p.length) := by
  have hl := maxB_lt (p := p) hp
  have hs := gre_sp p t p.length
  rw [he] at hs
  exact ⟨by omega, sp_up hs (gre_sp _ _ _), fun j hj hj2 _ => le_gre _ _ _ _ hj (sp_down (by omega) hs hj2)⟩
end Go.Proofs.Ytkklcjfpgfgkdab.Thy
