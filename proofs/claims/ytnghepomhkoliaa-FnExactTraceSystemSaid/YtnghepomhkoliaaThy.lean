/- Words and lemmas of this session that the claims share: rounds, strings as lists of numbers, words. No program in sight; no conditions but those that each lemma names. -/
import Derived.Test.YtnghepomhkoliaaWMore
set_option linter.unusedVariables false
namespace Go.Proofs.Ytnghepomhkoliaa.Thy
open Go.RowKit Go.Proofs.YtnghepomhkoliaaW.PrintWords

/-! ### Rounds -/
theorem Ev.pos {α : Type} {c : Prop} [Decidable c] {A B : Nat → Option α} {r : α} (h : c) (k : Ev A r) : Ev (fun n => if c then A n else B n) r := by
  simp only [if_pos h]; exact k
theorem Ev.neg {α : Type} {c : Prop} [Decidable c] {A B : Nat → Option α} {r : α} (h : ¬ c) (k : Ev B r) : Ev (fun n => if c then A n else B n) r := by
  simp only [if_neg h]; exact k
theorem Ev.ite {α : Type} {c : Prop} [Decidable c] {A B : Nat → Option α} {r : α} (h : c → Ev A r) (k : ¬ c → Ev B r) : Ev (fun n => if c then A n else B n) r := by
  by_cases hc : c
  · exact Ev.pos hc (h hc)
  · exact Ev.neg hc (k hc)
theorem Ev.now' {α : Type} {a r : α} (h : a = r) : Ev (fun _ => some a) r := h ▸ Ev.now a
theorem Ev.eq {α : Type} {g : Nat → Option α} {a r : α} (h : Ev g a) (e : a = r) : Ev g r := e ▸ h
theorem Ev.eqc {α : Type} {g : Option α} {a : α} (h : g = some a) : Ev (fun _ => g) a := h ▸ Ev.now a
theorem wr {n : Int} (h0 : -9223372036854775808 ≤ n) (h1 : n < 9223372036854775808) : wrap64 n = n := by unfold wrap64; omega

/-! ### Strings as lists of numbers -/
/-- The bytes of a string, as whole numbers. -/
def N (s : ByteArray) : List Int := s.data.toList.map fun c => (c.toNat : Int)
theorem N_length (s : ByteArray) : (N s).length = s.size := by simp [N]
theorem N_append (s t : ByteArray) : N (s ++ t) = N s ++ N t := by simp [N]
theorem N_extract (s : ByteArray) (a b : Nat) : N (s.extract a b) = ((N s).drop a).take (b - a) := by simp [N, List.map_take, List.map_drop]
theorem N_range (s : ByteArray) : ∀ c ∈ N s, 0 ≤ c ∧ c < 256 := by
  intro c hc
  simp only [N, List.mem_map] at hc
  obtain ⟨b, _, rfl⟩ := hc
  have := b.toNat_lt
  omega
theorem N_inj {s t : ByteArray} (h : N s = N t) : s = t := by
  have : s.data.toList = t.data.toList := List.map_inj_right (f := fun c : UInt8 => (c.toNat : Int)) (fun x y h => UInt8.toNat_inj.1 (Int.ofNat.inj h)) |>.1 h
  cases s; cases t; simp_all
theorem N_bt (s : ByteArray) (i : Int) : bt s i = (N s).getD i.toNat 0 := by
  unfold bt N
  split
  · rename_i h
    have h2 : i.toNat < s.data.toList.length := by simpa using h
    rw [List.getD_eq_getElem?_getD, List.getElem?_map, List.getElem?_eq_getElem h2]
    rfl
  · rename_i h
    rw [List.getD_eq_getElem?_getD, List.getElem?_eq_none (by simpa using h)]
    rfl
theorem N_cons (s : ByteArray) (i : Int) (h0 : 0 ≤ i) (h : i < s.size) : (N s).drop i.toNat = bt s i :: (N s).drop (i + 1).toNat := by
  have h2 : i.toNat < (N s).length := by rw [N_length]; omega
  rw [List.drop_eq_getElem_cons h2, N_bt, List.getD_eq_getElem?_getD, List.getElem?_eq_getElem h2, show (i + 1).toNat = i.toNat + 1 by omega]
  rfl
theorem N_done (s : ByteArray) (i : Int) (h : (s.size : Int) ≤ i) : (N s).drop i.toNat = [] := List.drop_eq_nil_of_le (by rw [N_length]; omega)
theorem toList_inj {s t : ByteArray} : s.toList = t.toList ↔ s = t := by
  constructor
  · intro h
    rw [ByteArray.toList_eq, ByteArray.toList_eq] at h
    cases s; cases t; simp_all
  · rintro rfl; rfl
theorem toList_nil {w : ByteArray} : w.toList = ([] : List UInt8) ↔ w.size = 0 := by
  rw [ByteArray.toList_eq]
  constructor
  · intro h
    have := congrArg List.length h
    simpa using this
  · intro h
    exact List.eq_nil_of_length_eq_zero (by simpa using h)
theorem toList_beq_nil (w : ByteArray) : (w.toList == ([] : List UInt8)) = decide (w.size = 0) := by
  rw [Bool.eq_iff_iff, beq_iff_eq, decide_eq_true_eq, toList_nil]
theorem N_nums {xs : List Int} (h : ∀ x ∈ xs, 0 ≤ x ∧ x < 256) : N (strOfNums xs) = xs := by
  unfold N strOfNums
  simp only [List.map_map]
  conv => rhs; rw [← List.map_id xs]
  apply List.map_congr_left
  intro x hx
  have := h x hx
  simp only [Function.comp, id]
  rw [UInt8.toNat_ofNat_of_lt' (by simp only [UInt8.size]; omega)]
  omega
theorem B_N (s : ByteArray) : strOfNums (N s) = s := N_inj (N_nums (N_range s))
theorem N_sub {s : ByteArray} {l : List Int} (h : ∀ c ∈ l, c ∈ N s) : N (strOfNums l) = l := N_nums fun c hc => N_range s c (h c hc)
theorem N_one (s : ByteArray) (i : Int) (h0 : 0 ≤ i) (h : i < s.size) : N (s.extract i.toNat (i + 1).toNat) = [bt s i] := by
  rw [N_extract, N_cons s i h0 h, show (i + 1).toNat - i.toNat = 1 by omega]; rfl
theorem N_one_size (s : ByteArray) (i : Int) (h0 : 0 ≤ i) (h : i < s.size) : (s.extract i.toNat (i + 1).toNat).size = 1 := by
  rw [← N_length, N_one s i h0 h]; rfl
theorem bytes_eqN {s t : ByteArray} : s.toList = t.toList ↔ N s = N t := by
  rw [toList_inj]
  exact ⟨fun h => by rw [h], N_inj⟩

/-! ### Words -/
def letters (x : Int) (l : List Int) : Bool := l.all fun c => decide (97 ≤ c) && decide (c < 97 + x)
def longOk (m x : Int) (w : ByteArray) : Bool := decide (1 ≤ x) && decide (x ≤ 4) && decide ((w.size : Int) ≤ m) && letters x (N w)
theorem letters_cons (x c : Int) (l : List Int) : letters x (c :: l) = (decide (97 ≤ c) && decide (c < 97 + x) && letters x l) := by simp [letters]
theorem longOk_iff {m x : Int} {w : ByteArray} : longOk m x w = true ↔ 1 ≤ x ∧ x ≤ 4 ∧ (w.size : Int) ≤ m ∧ letters x (N w) = true := by
  unfold longOk; simp [and_assoc]
theorem longOk_size {m x : Int} {w : ByteArray} (h : longOk m x w = true) : (w.size : Int) ≤ m := (longOk_iff.1 h).2.2.1
/-- The word of one letter. -/
def letterB (x : Int) : ByteArray := strOfNums [97 + x]
theorem N_letterB {x : Int} (h0 : 0 ≤ x) (h1 : x < 159) : N (letterB x) = [97 + x] := N_nums (by intro y hy; rw [List.mem_singleton] at hy; omega)
theorem letterB_size (x : Int) : (letterB x).size = 1 := rfl
theorem letterB_raw {x : Int} (h0 : 0 ≤ x) (h1 : x < 159) : strOfNums ([(wrap64 (97 + x)) % 256] : List Int) = letterB x := by
  rw [wr (by omega) (by omega), Int.emod_eq_of_lt (by omega) (by omega)]; rfl

instance instDecEqBytes : DecidableEq ByteArray := fun a b => decidable_of_iff (N a = N b) ⟨N_inj, fun h => by rw [h]⟩
instance instDecMemBytes (x : ByteArray) : (l : List ByteArray) → Decidable (x ∈ l)
  | [] => isFalse (by simp)
  | y :: l => match instDecEqBytes x y with
    | isTrue h => isTrue (by rw [h]; exact List.mem_cons_self)
    | isFalse h => match instDecMemBytes x l with
      | isTrue h2 => isTrue (List.mem_cons_of_mem _ h2)
      | isFalse h2 => isFalse (fun z => (List.mem_cons.1 z).elim h h2)

/-! ### Lists read and written by number -/
theorem rd_nat {xs : List Int} {i : Nat} (h : i < xs.length) : rd xs (i : Int) = xs[i] := by
  unfold rd; rw [List.getD_eq_getElem?_getD, Int.toNat_natCast, List.getElem?_eq_getElem h]; rfl
theorem rdOf_nat {α : Type} {d : α} {xs : List α} {i : Nat} (h : i < xs.length) : rdOf d xs (i : Int) = xs[i] := by
  unfold rdOf; rw [List.getD_eq_getElem?_getD, Int.toNat_natCast, List.getElem?_eq_getElem h]; rfl
/-- a, a + 1, .., so many. -/
def marks (a : Int) (n : Nat) : List Int := (List.range n).map fun i : Nat => a + i
theorem marks_length (a : Int) (n : Nat) : (marks a n).length = n := by simp [marks]
theorem marks_succ (a : Int) (n : Nat) : marks a (n + 1) = a :: marks (a + 1) n := by
  unfold marks
  rw [List.range_succ_eq_map, List.map_cons, List.map_map]
  congr 1
  · simp
  · apply List.map_congr_left
    intro i _
    simp only [Function.comp]
    omega
theorem marks_get (a : Int) (n i : Nat) (h : i < (marks a n).length) : (marks a n)[i] = a + i := by simp [marks]
end Go.Proofs.Ytnghepomhkoliaa.Thy
