/- Reading a call (chapter 5) as a plain function. No program in sight. -/
import Derived.Test.YtaeainkfllfdfaaC5
namespace Go.Proofs.Ytaeainkfllfdfaa
open Go.RowKit
set_option linter.unusedVariables false
set_option linter.unusedSimpArgs false

def M.zero : M := ⟨0, .empty, .empty, .empty, .empty, .empty, 0, 0, 0, false, false, .nil⟩
/-- The parts, one behind the other. -/
def Rd.partsR : List UInt8 → M → Rd → M × Rd
  | [], m, r => (m, r)
  | c :: cs, m, r => Rd.partsR cs (Rd.part m c r).1 (Rd.part m c r).2
/-- The class, the number, and what is behind them. -/
def mgC (b : List UInt8) : Nat := (Rd.num ⟨b, false⟩ 2).1
def mgI (b : List UInt8) : Nat := ((Rd.num ⟨b, false⟩ 2).2.num 2).1
def mgR (b : List UInt8) : Rd := ((Rd.num ⟨b, false⟩ 2).2.num 2).2
def mgId (b : List UInt8) : Int := (mgC b : Int) * 100 + (mgI b : Int)
/-- The call that was read. -/
def mgX (b : List UInt8) : M × Rd := Rd.partsR (partsL (mgId b)) { M.zero with id := mgId b } (mgR b)
def mgOk (b : List UInt8) : Bool := !(mgX b).2.bad && (decide ((mgX b).1.putE = 0) && decide ((mgX b).1.putB = b))
/-- What Get tells, and the call. -/
def mgE (b : List UInt8) : Int := if (mgR b).bad then 502 else if 99 < mgI b ∨ partsL (mgId b) = [45] then 503 else if mgOk b then 0 else 502
def mgM (b : List UInt8) : M := if mgE b = 0 then (mgX b).1 else M.zero

theorem M.zero_ok : M.zero.Ok := ⟨by decide, by decide, by decide, by decide, by decide, by decide, by decide, by decide, by decide, by decide, by decide, by decide, by decide, trivial, by decide⟩
theorem num_lt2 (r : Rd) : (r.num 2).1 < 65536 := num_lt' r 2
theorem mgId_le (b : List UInt8) : 0 ≤ mgId b ∧ mgId b ≤ 6619035 := by
  have h1 : mgC b < 65536 := num_lt2 _
  have h2 : mgI b < 65536 := num_lt2 _
  unfold mgId
  omega
theorem Rd.part_le (m : M) (c : UInt8) (r : Rd) : (Rd.part m c r).2.b.length ≤ r.b.length := by
  unfold Rd.part
  (repeat' split) <;> first | exact Rd.num_le _ _ | exact (r.raw_le _).2 | exact Nat.le_trans ((r.num 1).2.raw_le _).2 (Rd.num_le _ _)
theorem Rd.part_ok {m : M} (h : m.Ok) (c : UInt8) (r : Rd) (hr : r.b.length ≤ 140737488351232) : (Rd.part m c r).1.Ok := by
  have n2 := num_lt2 r
  have n4 : (r.num 4).1 < 4294967296 := num_lt' r 4
  have n8 : (r.num 8).1 < 18446744073709551616 := num_lt' r 8
  have hl := ((r.num 1).2.raw_le (r.num 1).1).1
  have hl2 := r.num_le 1
  have ht : (⟨((r.num 1).2.raw (r.num 1).1).1.toArray⟩ : ByteArray).size ≤ 140737488351232 := by rw [ba_size]; omega
  obtain ⟨a1, a2, a3, a4, a5, a6, a7, a8, a9, a10, a11, a12, a13, a14, a15⟩ := h
  unfold Rd.part
  split
  · exact ⟨a1, a2, a3, a4, a5, a6, a7, by simp only; omega, by simp only; omega, a10, a11, a12, a13, a14, a15⟩
  split
  · exact ⟨a1, a2, a3, a4, a5, a6, a7, a8, a9, by simp only; omega, by simp only; omega, a12, a13, a14, a15⟩
  split
  · exact ⟨a1, a2, a3, a4, a5, a6, a7, a8, a9, a10, a11, by simp only; omega, by simp only; omega, a14, a15⟩
  split
  · exact ⟨a1, a2, a3, a4, a5, a6, a7, a8, a9, a10, a11, a12, a13, a14, a15⟩
  split
  · exact ⟨a1, a2, a3, a4, a5, a6, a7, a8, a9, a10, a11, a12, a13, a14, a15⟩
  split
  · have hg := getL_ok (r.raw r.b.length).1 (by have := (r.raw_le r.b.length).1; omega)
    exact ⟨a1, a2, a3, a4, a5, a6, a7, a8, a9, a10, a11, a12, a13, hg.1, by have := hg.2; simp only; omega⟩
  · simp only
    split
    · exact ⟨a1, a2, ht, a4, a5, a6, a7, a8, a9, a10, a11, a12, a13, a14, a15⟩
    split
    · exact ⟨a1, a2, a3, ht, a5, a6, a7, a8, a9, a10, a11, a12, a13, a14, a15⟩
    split
    · exact ⟨a1, a2, a3, a4, ht, a6, a7, a8, a9, a10, a11, a12, a13, a14, a15⟩
    split
    · exact ⟨a1, a2, a3, a4, a5, ht, a7, a8, a9, a10, a11, a12, a13, a14, a15⟩
    · exact ⟨a1, a2, a3, a4, a5, a6, ht, a8, a9, a10, a11, a12, a13, a14, a15⟩
theorem Rd.partsR_ok : ∀ (cs : List UInt8) {m : M} (h : m.Ok) (r : Rd) (hr : r.b.length ≤ 140737488351232), (Rd.partsR cs m r).1.Ok
  | [], m, h, r, hr => h
  | c :: cs, m, h, r, hr => Rd.partsR_ok cs (Rd.part_ok h c r hr) _ (Nat.le_trans (Rd.part_le m c r) hr)
theorem mgR_le (b : List UInt8) : (mgR b).b.length ≤ b.length := Nat.le_trans (Rd.num_le _ _) (Rd.num_le ⟨b, false⟩ 2)
theorem mgX_ok (b : List UInt8) (hb : b.length ≤ 140737488351232) : (mgX b).1.Ok := by
  have h := mgId_le b
  obtain ⟨a1, a2, a3, a4, a5, a6, a7, a8, a9, a10, a11, a12, a13, a14, a15⟩ := M.zero_ok
  have hok : ({ M.zero with id := mgId b } : M).Ok := ⟨by show _ ≤ mgId b; omega, by show mgId b ≤ _; omega, a3, a4, a5, a6, a7, a8, a9, a10, a11, a12, a13, a14, a15⟩
  exact Rd.partsR_ok _ hok _ (Nat.le_trans (mgR_le b) hb)
theorem mgM_ok (b : List UInt8) (hb : b.length ≤ 140737488351232) : (mgM b).Ok := by
  unfold mgM
  split
  · exact mgX_ok b hb
  · exact M.zero_ok
end Go.Proofs.Ytaeainkfllfdfaa
