/- Lemmas of this session on periods of parts and first repetitions of lists of numbers. No program in sight. -/
import Derived.Test.YtonfncakpdoglabThy
set_option linter.unusedVariables false
namespace Go.Proofs.Ytonfncakpdoglab.Thy
open Go.RowKit Go.Proofs.YtonfncakpdoglabW.PrintWords

/-! ### Periods of parts -/
/-- A part has the period h. -/
def per (l : List Int) (h : Nat) : Bool := l.drop h == l.take (l.length - h)
theorem per_iff (l : List Int) (h : Nat) : per l h = true ↔ ∀ i, h ≤ i → i < l.length → l[i]? = l[i - h]? := by
  unfold per
  rw [beq_iff_eq]
  constructor
  · intro e i h1 h2
    have := congrArg (fun z => z[i - h]?) e
    simp only [List.getElem?_drop] at this
    rw [show h + (i - h) = i by omega, List.getElem?_take_of_lt (by omega)] at this
    exact this
  · intro e
    apply List.ext_getElem?
    intro i
    rw [List.getElem?_drop]
    by_cases hi : h + i < l.length
    · rw [List.getElem?_take_of_lt (by omega), e (h + i) (by omega) hi, show h + i - h = i by omega]
    · rw [List.getElem?_eq_none (by omega), List.getElem?_eq_none (by rw [List.length_take]; omega)]
/-- A word ends with a part of that size that has the period h. -/
def ends (l : List Int) (h size : Nat) : Bool := decide (size ≤ l.length) && per (l.drop (l.length - size)) h
theorem bytes_eq_iff (s t : ByteArray) : s.toList = t.toList ↔ N s = N t := by
  rw [toList_inj]
  exact ⟨fun h => by rw [h], N_inj⟩
/-- The program's test of a part w[e-L:e]. -/
theorem part_test (w : ByteArray) (e L h : Nat) (h1 : h ≤ L) (h2 : L ≤ e) (h3 : e ≤ w.size) (p : ByteArray) (hp : p = w.extract (e - L) e) :
    ((p.extract h p.size).toList = (p.extract 0 (p.size - h)).toList) ↔ ends ((N w).take e) h L = true := by
  have hN : N p = ((N w).take e).drop (e - L) := by
    rw [hp, N_extract, List.drop_take]
  have hs : p.size = L := by rw [hp, ByteArray.size_extract]; omega
  rw [bytes_eq_iff, N_extract, N_extract, hs]
  unfold ends per
  have hl : ((N w).take e).length = e := by rw [List.length_take, N_length]; omega
  have hl2 : (N p).length = L := by rw [N_length, hs]
  rw [hl, ← hN, decide_eq_true h2, Bool.true_and, beq_iff_eq, hl2, List.drop_zero, Nat.sub_zero]
  rw [List.take_of_length_le (l := (N p).drop h) (by rw [List.length_drop, hl2]; exact Nat.le_refl _)]
/-- The least half h (from h on) of a repetition that ends at e. -/
def frH (l : List Int) (n m e : Nat) : Nat → Nat → Option Nat
  | 0, _ => none
  | d + 1, h => if h * n + m ≤ e then (if ends (l.take e) h (h * n + m) = true then some h else frH l n m e d (h + 1)) else none
/-- The least end (from e on) of a repetition, and its half. -/
def frE (l : List Int) (n m : Nat) : Nat → Nat → Option (Nat × Nat)
  | 0, _ => none
  | d + 1, e => if e ≤ l.length then (match frH l n m e (e + 1) 1 with | some h => some (e, h) | none => frE l n m d (e + 1)) else none
def toInts : Option (Nat × Nat) → Int × Int
  | some (e, h) => (e, h)
  | none => (0, 0)
/-- The first repetition: its end and its half; zeros if there is none. -/
def firstRep (l : List Int) (n m : Nat) : Int × Int := toInts (frE l n m (l.length + 1) 1)
theorem firstRep_range (l : List Int) (n m : Nat) : 0 ≤ (firstRep l n m).1 ∧ 0 ≤ (firstRep l n m).2 := by
  unfold firstRep toInts
  split <;> constructor <;> simp
/-- A square of halves h or longer ends the word. -/
def sqD (l : List Int) : Nat → Nat → Bool
  | 0, _ => false
  | d + 1, h => if h * 2 ≤ l.length then (ends l h (h * 2) || sqD l d (h + 1)) else false
def hasSq (l : List Int) : Bool := sqD l l.length 1
end Go.Proofs.Ytonfncakpdoglab.Thy
