/- The plain laws of tables: which may be (MayTable), as plain functions. No program in sight. -/
import Derived.Test.YtaeainkfllfdfaaA0
namespace Go.Proofs.Ytaeainkfllfdfaa
open Go.RowKit
set_option linter.unusedVariables false
set_option linter.unusedSimpArgs false

/-- Is a name among those that were seen? -/
def seenB (seen : List ByteArray) (nm : ByteArray) : Bool := seen.any fun x => decide (x = nm)

/-- May a value be, of which this is its kind, its number, its text's length, how many items it has, and whether these may be. -/
def kindOk (k n : Int) (ss il : Nat) (sub : Bool) : Bool :=
  if k ≠ 4 ∧ ss ≠ 0 ∨ k ≠ 5 ∧ 0 < il then false
  else if k = 1 then decide (n = 0 ∨ n = 1)
  else if k = 2 then decide (-2147483648 ≤ n ∧ n ≤ 2147483647)
  else if k = 3 then true
  else if k = 0 then decide (n = 0)
  else if k = 4 then decide (n = 0 ∧ ss ≤ 200)
  else if k = 5 then decide (n = 0) && sub
  else false

def L.mayIts : Nat → List ByteArray → L → Bool
  | _, _, .nil => true
  | d, seen, .cons nm k n s it rest =>
    (decide (1 ≤ nm.size) && decide (nm.size ≤ 40) && !seenB seen nm && kindOk k n s.size it.len (decide (d + 1 ≤ 4) && decide (it.len ≤ 32) && L.mayIts (d + 1) [] it)) && L.mayIts d (nm :: seen) rest
def L.mayTab (d : Nat) (l : L) : Bool := decide (d ≤ 4) && decide (l.len ≤ 32) && l.mayIts d []
def It.may (d : Nat) (x : It) : Bool := kindOk x.k x.n x.s.size x.it.len (x.it.mayTab (d + 1))
/-- An item may be, behind names that were seen. -/
def It.ok (d : Nat) (seen : List ByteArray) (x : It) : Bool := decide (1 ≤ x.nm.size) && decide (x.nm.size ≤ 40) && !seenB seen x.nm && x.may d
/-- The names of the first i items, the last first. -/
def L.names (l : L) : Nat → List ByteArray
  | 0 => []
  | i + 1 => (l.get i).nm :: l.names i

theorem L.mayIts_from (d : Nat) (l : L) (S : List ByteArray) : ∀ i, i ≤ l.len → (l.mayIts d S = true ↔ (∀ j, j < i → (l.get j).ok d (l.names j ++ S) = true) ∧ (l.drop i).mayIts d (l.names i ++ S) = true) := by
  induction l generalizing S with
  | nil => intro i hi; simp [L.len] at hi; subst hi; simp [L.drop, L.names, L.mayIts]
  | cons nm k n s it rest _ ih =>
    intro i hi
    have e2 : ∀ m, L.names (.cons nm k n s it rest) (m + 1) = rest.names m ++ [nm] := by
      intro m
      induction m with
      | zero => rfl
      | succ m ihm => rw [L.names, ihm]; rfl
    cases i with
    | zero => simp [L.drop, L.names]
    | succ i =>
      have h1 : L.mayIts d S (.cons nm k n s it rest) = (It.ok d S ⟨nm, k, n, s, it⟩ && L.mayIts d (nm :: S) rest) := by
        simp [L.mayIts, It.ok, It.may, L.mayTab, Bool.and_assoc]
      rw [h1, Bool.and_eq_true, ih (nm :: S) i (by simp [L.len] at hi; omega)]
      constructor
      · rintro ⟨h0, hj, hd⟩
        refine ⟨fun j hji => ?_, ?_⟩
        · cases j with
          | zero => exact h0
          | succ j => rw [e2]; have := hj j (by omega); rw [List.append_assoc]; exact this
        · rw [e2, List.append_assoc]; exact hd
      · rintro ⟨hj, hd⟩
        refine ⟨hj 0 (by omega), fun j hji => ?_, ?_⟩
        · have := hj (j + 1) (by omega); rw [e2, List.append_assoc] at this; exact this
        · rw [e2, List.append_assoc] at hd; exact hd

/-- All items may be just where none is bad. -/
theorem L.mayIts_all (d : Nat) (l : L) : l.mayIts d [] = true ↔ ∀ j, j < l.len → (l.get j).ok d (l.names j) = true := by
  rw [L.mayIts_from d l [] l.len (Nat.le_refl _)]
  have : l.drop l.len = .nil := L.len_zero (by rw [L.len_drop]; omega)
  simp [this, L.mayIts]

/-- Numbers and lengths as Go's kinds and the model's reach have them. -/
def L.Ok : L → Prop
  | .nil => True
  | .cons nm k n s it rest => (nm.size ≤ 140737488351232 ∧ s.size ≤ 140737488351232 ∧ it.len ≤ 140737488351232 ∧ -9223372036854775808 ≤ k ∧ k ≤ 9223372036854775807 ∧ -9223372036854775808 ≤ n ∧ n ≤ 9223372036854775807) ∧ it.Ok ∧ rest.Ok
def It.Ok (x : It) : Prop :=
  (x.nm.size ≤ 140737488351232 ∧ x.s.size ≤ 140737488351232 ∧ x.it.len ≤ 140737488351232 ∧ -9223372036854775808 ≤ x.k ∧ x.k ≤ 9223372036854775807 ∧ -9223372036854775808 ≤ x.n ∧ x.n ≤ 9223372036854775807) ∧ x.it.Ok
theorem L.Ok.get {l : L} (h : l.Ok) : ∀ i, i < l.len → (l.get i).Ok := by
  induction l with
  | nil => intro i hi; simp [L.len] at hi
  | cons nm k n s it rest _ ih =>
    intro i hi
    cases i with
    | zero => exact ⟨h.1, h.2.1⟩
    | succ i => exact ih h.2.2 i (by simp [L.len] at hi; omega)
theorem L.Ok.of_get {l : L} (h : ∀ i, i < l.len → (l.get i).Ok) : l.Ok := by
  induction l with
  | nil => trivial
  | cons nm k n s it rest _ ih =>
    have h0 := h 0 (by simp [L.len])
    exact ⟨h0.1, h0.2, ih fun i hi => h (i + 1) (by simp [L.len]; omega)⟩
theorem L.Ok.app {l m : L} (h : l.Ok) (k : m.Ok) : (l.app m).Ok := by
  induction l with
  | nil => exact k
  | cons nm k n s it rest _ ih => exact ⟨h.1, h.2.1, ih h.2.2⟩

/-- To prove something of every table it is enough to prove it of one whose items' tables have it. -/
theorem L.ind {P : L → Prop} (h : ∀ l, (∀ i, i < l.len → P (l.get i).it) → P l) : ∀ l, P l := by
  have : ∀ l : L, P l ∧ ∀ i, i < l.len → P (l.get i).it := by
    intro l
    induction l with
    | nil => exact ⟨h _ (fun i hi => by simp [L.len] at hi), fun i hi => by simp [L.len] at hi⟩
    | cons nm k n s it rest h1 h2 =>
      have hall : ∀ i, i < (L.cons nm k n s it rest).len → P ((L.cons nm k n s it rest).get i).it := by
        intro i hi
        cases i with
        | zero => exact h1.1
        | succ i => exact h2.2 i (by simp [L.len] at hi; omega)
      exact ⟨h _ hall, hall⟩
  exact fun l => (this l).1

end Go.Proofs.Ytaeainkfllfdfaa
