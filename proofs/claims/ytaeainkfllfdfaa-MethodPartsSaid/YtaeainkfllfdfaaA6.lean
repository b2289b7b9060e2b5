/- The tables of ValueLong as data: which may be, and how long they are. No program in sight. -/
import Derived.Test.YtaeainkfllfdfaaA5
namespace Go.Proofs.Ytaeainkfllfdfaa
open Go.RowKit
set_option linter.unusedVariables false
set_option linter.unusedSimpArgs false
set_option maxRecDepth 100000

/-- So many zeros, as a text. -/
def zs (n : Nat) : ByteArray := ⟨(List.replicate n (0 : UInt8)).toArray⟩
theorem zs_size (n : Nat) : (zs n).size = n := by simp [zs, ByteArray.size]
/-- The name of item i. -/
def nm14 (i : Nat) : ByteArray := ⟨#[([48, 49, 50, 51, 52, 53, 54, 55, 56, 57, 97, 98, 99, 100] : List UInt8).getD i 0]⟩
theorem nm14_size (i : Nat) : (nm14 i).size = 1 := rfl
/-- The first i items. -/
def tab14 : Nat → L
  | 0 => .nil
  | i + 1 => (tab14 i).app (L.one ⟨nm14 i, 4, 0, zs 200, .nil⟩)
theorem tab14_len : ∀ i, (tab14 i).len = i
  | 0 => rfl
  | i + 1 => by rw [tab14, L.len_app, L.len_one, tab14_len i]
theorem text_ok (nm s : ByteArray) (h1 : nm.size ≤ 140737488351232) (h2 : s.size ≤ 140737488351232) : (⟨nm, 4, 0, s, .nil⟩ : It).Ok :=
  ⟨⟨h1, h2, Nat.zero_le _, (by decide : (-9223372036854775808 : Int) ≤ 4), (by decide : (4 : Int) ≤ 9223372036854775807), (by decide : (-9223372036854775808 : Int) ≤ 0), (by decide : (0 : Int) ≤ 9223372036854775807)⟩, trivial⟩
theorem tab14_ok : ∀ i, (tab14 i).Ok
  | 0 => trivial
  | i + 1 => have h := text_ok (nm14 i) (zs 200) (by rw [nm14_size]; decide) (by rw [zs_size]; decide)
    (tab14_ok i).app ⟨h.1, h.2, trivial⟩
/-- All items: the last one's text has n bytes. -/
def tab15 (n : Nat) : L := (tab14 14).app (L.one ⟨⟨#[122]⟩, 4, 0, zs n, .nil⟩)
theorem tab15_len (n : Nat) : (tab15 n).len = 15 := by rw [tab15, L.len_app, L.len_one, tab14_len]
theorem tab15_ok (n : Nat) (h : n ≤ 200) : (tab15 n).Ok := 
  have h' := text_ok ⟨#[122]⟩ (zs n) (by decide) (by rw [zs_size]; omega)
  (tab14_ok 14).app ⟨h'.1, h'.2, trivial⟩
theorem tab15_all : ∀ k : Fin 20, (tab15 (81 + k.val)).mayTab 1 = true ∧ (tab15 (81 + k.val)).enc.length = 2990 + k.val := by decide +kernel
end Go.Proofs.Ytaeainkfllfdfaa
