/- The bytes of a table (3.2), as a plain function. No program in sight. -/
import Derived.Test.YtaeainkfllfdfaaA1
namespace Go.Proofs.Ytaeainkfllfdfaa
open Go.RowKit
set_option linter.unusedVariables false
set_option linter.unusedSimpArgs false

/-- The bytes of a number, the greatest first. -/
def be (n : Nat) : Nat → List UInt8
  | 0 => []
  | k + 1 => UInt8.ofNat (n / 256 ^ k) :: be n k
theorem be_length (n k : Nat) : (be n k).length = k := by induction k <;> simp [be, *]

/-- A kind's letter. -/
def letter (k : Int) : UInt8 := if k = 0 then 86 else if k = 1 then 116 else if k = 2 then 73 else if k = 3 then 108 else if k = 4 then 83 else 70
/-- A number of 64 bits without its sign. -/
def u64w (n : Int) : Nat := (IntKind.u64.wrap n).toNat
theorem u64w_eq (n : Int) : IntKind.u64.wrap n = ((u64w n : Nat) : Int) := by
  unfold u64w
  have : 0 ≤ IntKind.u64.wrap n := by simp only [IntKind.wrap]; exact Int.emod_nonneg _ (by decide)
  omega
theorem u64_small (n : Nat) (h : n < 18446744073709551616) : IntKind.u64.wrap (n : Int) = n := by
  simp only [IntKind.wrap, IntKind.signed, Bool.false_and]
  exact Int.emod_eq_of_lt (by omega) (by simp only [IntKind.bits]; omega)
theorem u64w_lt (n : Int) : ((u64w n : Nat) : Int) < 18446744073709551616 := by
  rw [← u64w_eq]
  simp only [IntKind.wrap, IntKind.signed, Bool.false_and]
  exact Int.emod_lt_of_pos _ (by decide)
/-- A value's bytes; tb: its table's. -/
def encBody (k n : Int) (s : ByteArray) (tb : List UInt8) : List UInt8 :=
  letter k :: (if k = 1 then [UInt8.ofNat (n % 256).toNat] else if k = 2 then be (u64w n) 4 else if k = 3 then be (u64w n) 8
    else if k = 4 then be s.size 4 ++ s.data.toList else if k = 5 then tb else [])
def L.encI : L → List UInt8
  | .nil => []
  | .cons nm k n s it rest => (UInt8.ofNat nm.size :: nm.data.toList) ++ encBody k n s (be it.encI.length 4 ++ it.encI) ++ rest.encI
/-- A table's bytes. -/
def L.enc (l : L) : List UInt8 := be l.encI.length 4 ++ l.encI
def It.encV (x : It) : List UInt8 := encBody x.k x.n x.s x.it.enc
def It.enc (x : It) : List UInt8 := (UInt8.ofNat x.nm.size :: x.nm.data.toList) ++ x.encV

theorem L.encI_app (l m : L) : (l.app m).encI = l.encI ++ m.encI := by
  induction l with
  | nil => rfl
  | cons nm k n s it rest _ ih => simp [L.app, L.encI, ih]
theorem L.encI_one (x : It) : (L.one x).encI = x.enc := by simp [L.one, L.encI, It.enc, It.encV, L.enc]
theorem L.encI_succ (l : L) (i : Nat) (h : i < l.len) : (l.take (i + 1)).encI = (l.take i).encI ++ (l.get i).enc := by
  rw [L.take_succ l i h, L.encI_app, L.encI_one]
theorem L.take_drop (l : L) (i : Nat) : (l.take i).app (l.drop i) = l := by
  induction i generalizing l with
  | zero => rfl
  | succ i ih =>
    cases l with
    | nil => rfl
    | cons nm k n s it rest => simp [L.take, L.drop, L.app, ih]
theorem L.encI_le (l : L) (i : Nat) : (l.take i).encI.length ≤ l.encI.length := by
  have := congrArg (fun m => (L.encI m).length) (L.take_drop l i)
  simp only [L.encI_app, List.length_append] at this
  omega
theorem It.enc_length (x : It) : x.enc.length = 1 + x.nm.size + x.encV.length := by
  simp [It.enc]; omega

/-- All kinds are kinds. -/
def L.Kinds : L → Prop
  | .nil => True
  | .cons _ k _ _ it rest => (0 ≤ k ∧ k ≤ 5) ∧ it.Kinds ∧ rest.Kinds
def It.Kinds (x : It) : Prop := (0 ≤ x.k ∧ x.k ≤ 5) ∧ x.it.Kinds
theorem L.Kinds.get {l : L} (h : l.Kinds) : ∀ i, i < l.len → (l.get i).Kinds := by
  induction l with
  | nil => intro i hi; simp [L.len] at hi
  | cons nm k n s it rest _ ih =>
    intro i hi
    cases i with
    | zero => exact ⟨h.1, h.2.1⟩
    | succ i => exact ih h.2.2 i (by simp [L.len] at hi; omega)
theorem kindOk_kind {k n : Int} {a b : Nat} {c : Bool} (h : kindOk k n a b c = true) : 0 ≤ k ∧ k ≤ 5 := by
  unfold kindOk at h
  (repeat' split at h) <;> first | omega | (cases h; done)
/-- What may be has kinds. -/
theorem L.mayIts_kinds : ∀ (d : Nat) (S : List ByteArray) (l : L), l.mayIts d S = true → l.Kinds
  | _, _, .nil, _ => trivial
  | d, S, .cons nm k n s it rest, h => by
    simp only [L.mayIts, Bool.and_eq_true] at h
    refine ⟨kindOk_kind h.1.2, ?_, L.mayIts_kinds d _ rest h.2⟩
    by_cases hk : k = 5
    · subst hk
      have h2 := h.1.2
      unfold kindOk at h2
      split at h2
      · cases h2
      · simp at h2
        exact L.mayIts_kinds (d + 1) [] it h2.2.2
    · have h2 := h.1.2
      unfold kindOk at h2
      split at h2
      · cases h2
      · have : it = .nil := L.len_zero (by omega)
        subst this; trivial
theorem L.mayTab_kinds {d : Nat} {l : L} (h : l.mayTab d = true) : l.Kinds := by
  simp only [L.mayTab, Bool.and_eq_true] at h
  exact L.mayIts_kinds d [] l h.2


/-! ### how long a table that may be is -/
def bnd : Nat → Nat
  | 0 => 204
  | j + 1 => 4 + 32 * (42 + bnd j)
theorem bnd_ge (j : Nat) : 204 ≤ bnd j := by cases j <;> simp [bnd]; omega
theorem encBody_le (k n : Int) (s : ByteArray) (tb : List UInt8) (B : Nat) (hB : 204 ≤ B) (h4 : k = 4 → s.size ≤ 200) (h5 : k = 5 → tb.length ≤ B) : (encBody k n s tb).length ≤ 1 + B := by
  unfold encBody
  (repeat' split) <;> simp [be_length] <;> first | omega | (have := h4 ‹_›; omega) | (have := h5 ‹_›; omega)
theorem kindOk_text {n : Int} {a b : Nat} {c : Bool} (h : kindOk 4 n a b c = true) : a ≤ 200 := by
  unfold kindOk at h
  split at h
  · cases h
  · simp at h; exact h.2
theorem kindOk_tab {n : Int} {a b : Nat} {c : Bool} (h : kindOk 5 n a b c = true) : c = true := by
  unfold kindOk at h
  split at h
  · cases h
  · simp at h; exact h.2
theorem L.encI_bnd : ∀ (l : L) (d : Nat) (S : List ByteArray), l.mayIts d S = true → l.encI.length ≤ l.len * (42 + bnd (4 - d))
  | .nil, _, _, _ => by simp [L.encI]
  | .cons nm k n s it rest, d, S, h => by
    simp only [L.mayIts, Bool.and_eq_true, decide_eq_true_eq] at h
    obtain ⟨⟨⟨⟨h1, h2⟩, h3⟩, h4⟩, h5⟩ := h
    have hr := L.encI_bnd rest d _ h5
    have hb : (encBody k n s (be it.encI.length 4 ++ it.encI)).length ≤ 1 + bnd (4 - d) := by
      refine encBody_le k n s _ _ (bnd_ge _) (fun e => ?_) (fun e => ?_)
      · subst e; exact kindOk_text h4
      · subst e
        have hc := kindOk_tab h4
        simp only [Bool.and_eq_true, decide_eq_true_eq] at hc
        have hi := L.encI_bnd it (d + 1) [] hc.2
        have hm : it.len * (42 + bnd (4 - (d + 1))) ≤ 32 * (42 + bnd (4 - (d + 1))) := Nat.mul_le_mul_right _ hc.1.2
        rw [show 4 - d = (4 - (d + 1)) + 1 from by omega]
        simp only [bnd, List.length_append, be_length]
        omega
    simp only [L.encI, L.len, List.length_append, List.length_cons, Array.length_toList, Nat.add_mul, Nat.one_mul]
    have : nm.data.size = nm.size := rfl
    omega
theorem L.enc_bnd {l : L} (h : l.mayTab 1 = true) : l.enc.length ≤ 259505604 := by
  simp only [L.mayTab, Bool.and_eq_true, decide_eq_true_eq] at h
  have h1 := L.encI_bnd l 1 [] h.2
  have h2 : l.len * (42 + bnd (4 - 1)) ≤ 32 * (42 + bnd (4 - 1)) := Nat.mul_le_mul_right _ h.1.2
  have h3 : 32 * (42 + bnd (4 - 1)) = 259505600 := by decide
  simp only [L.enc, List.length_append, be_length]
  omega

/-- What Put tells of a table, and its bytes. -/
def L.putE (l : L) : Int := if l.mayTab 1 = true then (if 3000 < l.enc.length then 502 else 0) else 1
def L.putB (l : L) : List UInt8 := if l.mayTab 1 = true then (if 3000 < l.enc.length then [] else l.enc) else []
end Go.Proofs.Ytaeainkfllfdfaa
