/- Plain laws of ValueBack: cut off, one byte more, one byte turned. No program in sight. -/
import Derived.Test.YtaeainkfllfdfaaA5
namespace Go.Proofs.Ytaeainkfllfdfaa
open Go.RowKit
set_option linter.unusedVariables false
set_option linter.unusedSimpArgs false

theorem xor_zero (a c : UInt8) : a ^^^ c = a ↔ c = 0 := by
  constructor
  · intro h
    have : a ^^^ (a ^^^ c) = a ^^^ a := by rw [h]
    rwa [← UInt8.xor_assoc, UInt8.xor_self, UInt8.zero_xor] at this
  · rintro rfl; exact UInt8.xor_zero
/-- One byte turned. -/
def turn (b : List UInt8) (k : Nat) (c : UInt8) : List UInt8 := b.set k (b.getD k 0 ^^^ c)
theorem turn_length (b : List UInt8) (k : Nat) (c : UInt8) : (turn b k c).length = b.length := by simp [turn]
theorem turn_eq {b : List UInt8} {k : Nat} (c : UInt8) (hk : k < b.length) : turn b k c = b ↔ c = 0 := by
  unfold turn
  have e : b.getD k 0 = b[k] := by simp [List.getD, hk]
  rw [e]
  constructor
  · intro h
    have := congrArg (fun l => l[k]?) h
    simp [hk] at this
    exact (xor_zero _ _).1 this
  · rintro rfl
    rw [(xor_zero b[k] 0).2 rfl]
    simp

theorem getOk_enc {l : L} (hO : l.Ok) (hm : l.mayTab 1 = true) (hb : l.enc.length ≤ 3000) : getOk l.enc = true := by
  have h := (get_put hO hm hb).2
  unfold getE at h
  split at h
  · assumption
  · cases h
theorem back_cut {b : List UInt8} (h : getOk b = true) {k : Nat} (hk : k < b.length) : getOk (b.take k) = false := by
  refine getOk_cut h (by rw [List.length_take]; omega) ?_
  by_cases h4 : 4 ≤ k
  · left; rw [List.take_take, Nat.min_eq_left h4]
  · right; rw [List.length_take]; omega
theorem back_more {b : List UInt8} (h : getOk b = true) (c : UInt8) : getOk (b ++ [c]) = false := by
  refine getOk_cut h (by simp) (.inl ?_)
  have := (getOk_form h).1
  rw [List.take_append_of_le_length this]
theorem getE_no {b : List UInt8} (h : getOk b = false) : getE b = 502 := by simp [getE, h]
theorem getE_yes {b : List UInt8} (h : getOk b = true) : getE b = 0 := by simp [getE, h]
theorem getL_yes {b : List UInt8} (h : getOk b = true) : (getL b).putB = b ∧ (getL b).putE = 0 := by
  have h2 := getOk_form h
  simp only [getL, h, if_true]
  exact ⟨h2.2.2.1, h2.2.2.2⟩
theorem getL_turn {l : L} (hO : l.Ok) (hm : l.mayTab 1 = true) (hb : l.enc.length ≤ 3000) {k : Nat} (c : UInt8) (hk : k < l.enc.length) (ht : getOk (turn l.enc k c) = true) : getL (turn l.enc k c) = l ↔ c = 0 := by
  constructor
  · intro h
    have h1 := (getL_yes ht).1
    rw [h] at h1
    have h2 : l.putB = l.enc := by unfold L.putB; rw [if_pos hm, if_neg (by omega)]
    rw [h2] at h1
    exact (turn_eq c hk).1 h1.symm
  · intro h
    rw [(turn_eq c hk).2 h]
    exact (get_put hO hm hb).1
theorem turn_no {b : List UInt8} (h : getOk b = true) {k : Nat} {c : UInt8} (hk : k < b.length) (ht : getOk (turn b k c) = false) : c ≠ 0 := by
  rintro rfl
  rw [(turn_eq 0 hk).2 rfl, h] at ht
  cases ht
theorem put_zero {l : L} (h : l.putE = 0) : l.mayTab 1 = true ∧ l.enc.length ≤ 3000 ∧ l.putB = l.enc := by
  unfold L.putE at h
  split at h
  · rename_i hm
    split at h
    · cases h
    · rename_i hb
      exact ⟨hm, by omega, by unfold L.putB; rw [if_pos hm, if_neg hb]⟩
  · cases h
theorem getL_ok (b : List UInt8) (h : b.length ≤ 140737488351232) : (getL b).Ok ∧ (getL b).len ≤ 33 := by
  obtain ⟨k1, k2, k3⟩ := Rd.table_ok 140737488351232 (by omega) 5 1 ⟨b, false⟩ h
  unfold getL
  split
  · exact ⟨k1, k2⟩
  · exact ⟨trivial, by decide⟩
end Go.Proofs.Ytaeainkfllfdfaa
