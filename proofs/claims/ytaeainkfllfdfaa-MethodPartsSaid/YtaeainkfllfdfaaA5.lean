/- Plain laws on tables that may be: their names differ; one swapped may be too; one item twice may not. No program in sight. -/
import Derived.Test.YtaeainkfllfdfaaA4
namespace Go.Proofs.Ytaeainkfllfdfaa
open Go.RowKit
set_option linter.unusedVariables false
set_option linter.unusedSimpArgs false

theorem seenB_names (l : L) (x : ByteArray) : ∀ j, seenB (l.names j) x = true ↔ ∃ i, i < j ∧ (l.get i).nm = x
  | 0 => by simp [L.names, seenB]
  | j + 1 => by
    have ih := seenB_names l x j
    unfold seenB at ih ⊢
    simp only [L.names, List.any_cons, Bool.or_eq_true, decide_eq_true_eq]
    rw [ih]
    constructor
    · rintro (h | ⟨i, hi, h⟩)
      · exact ⟨j, by omega, h⟩
      · exact ⟨i, by omega, h⟩
    · rintro ⟨i, hi, h⟩
      by_cases e : i = j
      · subst e; exact .inl h
      · exact .inr ⟨i, by omega, h⟩
theorem mayTab_iff (d : Nat) (l : L) : l.mayTab d = true ↔ d ≤ 4 ∧ l.len ≤ 32 ∧ (∀ j, j < l.len → 1 ≤ (l.get j).nm.size ∧ (l.get j).nm.size ≤ 40 ∧ (l.get j).may d = true) ∧ ∀ i j, i < j → j < l.len → (l.get i).nm ≠ (l.get j).nm := by
  unfold L.mayTab
  simp only [Bool.and_eq_true, decide_eq_true_eq, L.mayIts_all]
  constructor
  · rintro ⟨⟨h1, h2⟩, h3⟩
    refine ⟨h1, h2, fun j hj => ?_, fun i j hij hj e => ?_⟩
    · have := h3 j hj
      unfold It.ok at this
      simp only [Bool.and_eq_true, decide_eq_true_eq] at this
      exact ⟨this.1.1.1, this.1.1.2, this.2⟩
    · have := h3 j hj
      unfold It.ok at this
      simp only [Bool.and_eq_true, decide_eq_true_eq, Bool.not_eq_true'] at this
      have hs := (seenB_names l (l.get j).nm j).2 ⟨i, hij, e⟩
      rw [this.1.2] at hs; cases hs
  · rintro ⟨h1, h2, h3, h4⟩
    refine ⟨⟨h1, h2⟩, fun j hj => ?_⟩
    obtain ⟨a, b, c⟩ := h3 j hj
    unfold It.ok
    simp only [Bool.and_eq_true, decide_eq_true_eq, Bool.not_eq_true']
    refine ⟨⟨⟨a, b⟩, ?_⟩, c⟩
    cases hs : seenB (l.names j) (l.get j).nm with
    | false => rfl
    | true =>
      obtain ⟨i, hi, e⟩ := (seenB_names l (l.get j).nm j).1 hs
      exact absurd e (h4 i j hi hj)
theorem may_distinct {d : Nat} {l : L} (h : l.mayTab d = true) {i j : Nat} (hi : i < l.len) (hj : j < l.len) (e : (l.get i).nm = (l.get j).nm) : i = j := by
  obtain ⟨_, _, _, h4⟩ := (mayTab_iff d l).1 h
  rcases Nat.lt_trichotomy i j with hij | hij | hij
  · exact absurd e (h4 i j hij hj)
  · exact hij
  · exact absurd e.symm (h4 j i hij hi)
/-- What is found is the item's own. -/
theorem find_may {d : Nat} {l : L} (h : l.mayTab d = true) {k : Nat} (hk : k < l.len) : l.find (l.get k).nm = l.get k :=
  L.find_at _ l k hk rfl (fun j hj e => by have := may_distinct h (by omega : j < l.len) hk e; omega)
/-- An item twice. -/
theorem twice_may {d : Nat} {l : L} {k : Nat} (hk : k < l.len) : (l.app (L.one (l.get k))).mayTab d = false := by
  cases h : (l.app (L.one (l.get k))).mayTab d with
  | false => rfl
  | true =>
    have hl : (l.app (L.one (l.get k))).len = l.len + 1 := by rw [L.len_app, L.len_one]
    have e1 : (l.app (L.one (l.get k))).get k = l.get k := L.get_app_left _ _ _ hk
    have e2 : (l.app (L.one (l.get k))).get l.len = l.get k := by
      have := L.get_app_right l (L.one (l.get k)) 0
      rw [Nat.add_zero] at this
      rw [this]; rfl
    have := may_distinct h (i := k) (j := l.len) (by omega) (by omega) (by rw [e1, e2])
    omega
/-- Two items swapped. -/
def L.swap (l : L) (i k : Nat) : L := (l.set i (l.get k)).set k (l.get i)
theorem swap_len (l : L) (i k : Nat) : (l.swap i k).len = l.len := by unfold L.swap; rw [L.len_set, L.len_set]
theorem swap_get (l : L) {i k : Nat} (hi : i < l.len) (hk : k < l.len) (j : Nat) : (l.swap i k).get j = l.get (if j = k then i else if j = i then k else j) := by
  unfold L.swap
  rw [L.get_set _ _ _ _ (by rw [L.len_set]; exact hk), L.get_set _ _ _ _ hi]
  split
  · rfl
  split
  · rfl
  · rfl
theorem swap_eq {d : Nat} {l : L} (h : l.mayTab d = true) {i k : Nat} (hi : i < l.len) (hk : k < l.len) : l = l.swap i k ↔ i = k := by
  constructor
  · intro e
    have : (l.get i).nm = ((l.swap i k).get i).nm := by rw [← e]
    rw [swap_get l hi hk] at this
    by_cases hik : i = k
    · exact hik
    · rw [if_neg hik, if_pos rfl] at this
      exact may_distinct h hi hk this
  · rintro rfl
    refine L.ext_get _ _ (swap_len l i i).symm (fun j hj => ?_)
    rw [swap_get l hi hi]
    by_cases hj2 : j = i
    · subst hj2; simp
    · simp [hj2]
theorem swap_may {d : Nat} {l : L} (h : l.mayTab d = true) {i k : Nat} (hi : i < l.len) (hk : k < l.len) : (l.swap i k).mayTab d = true := by
  have hd := @may_distinct d l h
  obtain ⟨h1, h2, h3, h4⟩ := (mayTab_iff d l).1 h
  refine (mayTab_iff d _).2 ⟨h1, by rw [swap_len]; exact h2, fun j hj => ?_, fun a b hab hb e => ?_⟩
  · rw [swap_len] at hj
    rw [swap_get l hi hk]
    refine h3 _ ?_
    split
    · exact hi
    split
    · exact hk
    · exact hj
  · rw [swap_len] at hb
    rw [swap_get l hi hk, swap_get l hi hk] at e
    have := hd (by split; exact hi; split; exact hk; omega) (by split; exact hi; split; exact hk; omega) e
    split at this <;> split at this <;> (try split at this) <;> (try split at this) <;> omega
theorem L.Ok.set {l : L} (h : l.Ok) (i : Nat) {x : It} (hx : x.Ok) : (l.set i x).Ok := by
  induction l generalizing i with
  | nil => trivial
  | cons nm k n s it rest _ ih =>
    cases i with
    | zero => exact ⟨hx.1, hx.2, h.2.2⟩
    | succ i => exact ⟨h.1, h.2.1, ih h.2.2 i⟩
theorem swap_ok {l : L} (h : l.Ok) {i k : Nat} (hi : i < l.len) (hk : k < l.len) : (l.swap i k).Ok := (h.set i (h.get k hk)).set k (h.get i hi)
/-- All but the first. -/
theorem drop_ne {l : L} (h : 0 < l.len) : l ≠ l.drop 1 := fun e => by
  have := congrArg L.len e
  rw [L.len_drop] at this
  omega
theorem L.Ok.drop {l : L} (h : l.Ok) (i : Nat) : (l.drop i).Ok := by
  induction i generalizing l with
  | zero => exact h
  | succ i ih =>
    cases l with
    | nil => trivial
    | cons _ _ _ _ _ _ => exact ih h.2.2

/-- What is a table's bytes has them all: the first four say how many there are. -/
theorem getOk_form {b : List UInt8} (h : getOk b = true) : 4 ≤ b.length ∧ b.length = 4 + val (b.take 4) ∧ (getR b).1.putB = b ∧ (getR b).1.putE = 0 := by
  unfold getOk at h
  simp only [Bool.and_eq_true, decide_eq_true_eq] at h
  obtain ⟨_, h1, h2⟩ := h
  by_cases hm : (getR b).1.mayTab 1 = true
  · by_cases hl : 3000 < (getR b).1.enc.length
    · simp [L.putE, hm, hl] at h1
    · have h3 := h2
      simp only [L.putB, hm, hl, if_true, if_false] at h3
      have hbl : (getR b).1.enc.length = 4 + (getR b).1.encI.length := by simp [L.enc, be_length]
      have hv : val ((getR b).1.enc.take 4) = (getR b).1.encI.length := by
        unfold L.enc
        rw [List.take_left' (be_length _ 4), val_be, Nat.mod_eq_of_lt (by omega)]
      rw [h3] at hbl hv hl
      exact ⟨by omega, by omega, h2, h1⟩
  · simp [L.putE, hm] at h1
/-- A part cut off, or more behind: no table. -/
theorem getOk_cut {b : List UInt8} (h : getOk b = true) {b' : List UInt8} (hne : b'.length ≠ b.length) (hpre : b'.take 4 = b.take 4 ∨ b'.length < 4) : getOk b' = false := by
  cases h' : getOk b' with
  | false => rfl
  | true =>
    obtain ⟨h1, h2, _, _⟩ := getOk_form h
    obtain ⟨k1, k2, _, _⟩ := getOk_form h'
    rcases hpre with hp | hp
    · rw [hp] at k2; omega
    · omega
end Go.Proofs.Ytaeainkfllfdfaa
