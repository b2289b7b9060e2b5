/- The reader of bytes as a plain function: what raw, num, value and table of value.reader answer. No program in sight. -/
import Derived.Test.YtaeainkfllfdfaaA2
namespace Go.Proofs.Ytaeainkfllfdfaa
open Go.RowKit
set_option linter.unusedVariables false
set_option linter.unusedSimpArgs false

/-- What is left of the bytes, and whether something was bad. -/
structure Rd where
  b : List UInt8
  bad : Bool

/-- So many bytes. -/
def Rd.raw (r : Rd) (n : Nat) : List UInt8 × Rd := if r.bad = true ∨ r.b.length < n then ([], ⟨r.b, true⟩) else (r.b.take n, ⟨r.b.drop n, false⟩)
/-- A number, the greatest byte first. -/
def val (bs : List UInt8) : Nat := bs.foldl (fun n c => n * 256 + c.toNat) 0
def Rd.num (r : Rd) (k : Nat) : Nat × Rd := (val (r.raw k).1, (r.raw k).2)
/-- Which kind has that letter; -1: none. -/
def kindOf (n : Nat) : Int := if n % 256 = 86 then 0 else if n % 256 = 116 then 1 else if n % 256 = 73 then 2 else if n % 256 = 108 then 3 else if n % 256 = 83 then 4 else if n % 256 = 70 then 5 else -1
/-- A value, where tables are read so. -/
def Rd.value (tab : Rd → L × Rd) (r : Rd) : It × Rd :=
  let k := kindOf (r.num 1).1
  let r1 := (r.num 1).2
  if k = 1 then (⟨.empty, k, wrap64 (r1.num 1).1, .empty, .nil⟩, (r1.num 1).2)
  else if k = 2 then (⟨.empty, k, wrap64 (wrap32 (r1.num 4).1), .empty, .nil⟩, (r1.num 4).2)
  else if k = 3 then (⟨.empty, k, wrap64 (r1.num 8).1, .empty, .nil⟩, (r1.num 8).2)
  else if k = 4 then (⟨.empty, k, 0, ⟨((r1.num 4).2.raw (r1.num 4).1).1.toArray⟩, .nil⟩, ((r1.num 4).2.raw (r1.num 4).1).2)
  else if k = 5 then (⟨.empty, k, 0, .empty, (tab r1).1⟩, (tab r1).2)
  else (⟨.empty, k, 0, .empty, .nil⟩, r1)
/-- An item. -/
def Rd.item (tab : Rd → L × Rd) (r : Rd) : It × Rd :=
  let s := (r.num 1).2.raw (r.num 1).1
  let v := s.2.value tab
  ({ v.1 with nm := ⟨s.1.toArray⟩ }, v.2)
/-- Items, till there are no bytes, or 33. -/
def Rd.items (tab : Rd → L × Rd) : Nat → L → Rd → L × Rd
  | 0, l, r => (l, r)
  | f + 1, l, r => if r.bad = false ∧ r.b ≠ [] ∧ l.len ≤ 32 then Rd.items tab f (l.app (L.one (r.item tab).1)) (r.item tab).2 else (l, r)
/-- A table's items, so deep; j: how deep it may still go. -/
def Rd.table : Nat → Nat → Rd → L × Rd
  | 0, _, r => (.nil, r)
  | j + 1, deep, r =>
    let x := (r.num 4).2.raw (r.num 4).1
    let q := Rd.items (Rd.table j (deep + 1)) 33 .nil ⟨x.1, x.2.bad || decide (4 < deep)⟩
    (q.1, ⟨x.2.b, x.2.bad || q.2.bad⟩)

theorem Rd.raw_le (r : Rd) (n : Nat) : (r.raw n).1.length ≤ r.b.length ∧ (r.raw n).2.b.length ≤ r.b.length := by
  unfold Rd.raw; split <;> simp; omega
theorem val_lt (bs : List UInt8) : val bs < 256 ^ bs.length := by
  unfold val
  suffices h : ∀ (l : List UInt8) (n : Nat), l.foldl (fun n c => n * 256 + c.toNat) n < (n + 1) * 256 ^ l.length by simpa using h bs 0
  intro l
  induction l with
  | nil => intro n; simp
  | cons c l ih =>
    intro n
    have h1 := ih (n * 256 + c.toNat)
    have h2 := c.toNat_lt
    simp only [List.foldl_cons, List.length_cons]
    refine Nat.lt_of_lt_of_le h1 ?_
    rw [Nat.pow_succ, Nat.mul_comm (256 ^ l.length) 256, ← Nat.mul_assoc]
    exact Nat.mul_le_mul_right _ (by omega)
theorem num_lt (r : Rd) (k : Nat) (hk : k ≤ 8) : (r.num k).1 < 18446744073709551616 := by
  have h1 : (r.raw k).1.length ≤ k := by unfold Rd.raw; split <;> simp; omega
  exact Nat.lt_of_lt_of_le (val_lt _) (Nat.le_trans (Nat.pow_le_pow_right (by omega) (Nat.le_trans h1 hk)) (by decide))
theorem val_snoc (bs : List UInt8) (c : UInt8) : val (bs ++ [c]) = val bs * 256 + c.toNat := by simp [val, List.foldl_append]
end Go.Proofs.Ytaeainkfllfdfaa
