/- Calls (chapter 5) as data: their parts, which may be, their bytes. No program in sight. -/
import Derived.Test.YtaeainkfllfdfaaA7
namespace Go.Proofs.Ytaeainkfllfdfaa
open Go.RowKit
set_option linter.unusedVariables false
set_option linter.unusedSimpArgs false

/-- A call. -/
structure M where
  id : Int
  nm : ByteArray
  ty : ByteArray
  ex : ByteArray
  ky : ByteArray
  tx : ByteArray
  co : Int
  cn : Int
  tg : Int
  fl : Bool
  bk : Bool
  ar : L
  deriving DecidableEq

/-- The parts of each call, by its number. -/
def tabP : List (Int × List UInt8) := [(2010, []), (2011, []), (2041, []), (4011, []), (5021, []), (6011, []), (6072, []), (8510, []), (8511, []), (9010, []), (9011, []), (9020, []), (9021, []), (9030, []), (9031, []),
  (2040, [99, 120]), (4010, [110, 121]), (5010, [110]), (6070, [110]), (5011, [110, 117]), (5020, [110, 101, 107, 97]), (6010, [117]), (6020, [110, 120]), (6021, [120]), (6040, [101, 107, 102]), (6050, [99, 120, 101, 107]), (6060, [120, 116, 102, 101, 107]), (6071, [116, 102, 101, 107, 117]),
  (6080, [116, 102]), (6090, [116, 102]), (6120, [116, 102, 98])]
def lookP : List (Int × List UInt8) → Int → List UInt8
  | [], _ => [45]
  | (k, v) :: r, id => if id = k then v else lookP r id
def partsL (id : Int) : List UInt8 := lookP tabP id
theorem lookP_cases : ∀ (t : List (Int × List UInt8)) (id : Int), lookP t id = [45] ∨ ∃ v, (id, v) ∈ t ∧ lookP t id = v
  | [], _ => .inl rfl
  | (k, v) :: r, id => by
    unfold lookP
    by_cases h : id = k
    · rw [if_pos h]; exact .inr ⟨v, by simp [h], rfl⟩
    · rw [if_neg h]
      rcases lookP_cases r id with h1 | ⟨v', h1, h2⟩
      · exact .inl h1
      · exact .inr ⟨v', by simp [h1], h2⟩
/-- To show a thing of a call's number and parts it is enough to show it of those in the table, where there are parts. -/
theorem partsL_ind {Q : Int → List UInt8 → Prop} (h : ∀ p ∈ tabP, Q p.1 p.2) (id : Int) (hn : partsL id ≠ [45]) : Q id (partsL id) := by
  rcases lookP_cases tabP id with h1 | ⟨v, h1, h2⟩
  · exact absurd h1 hn
  · have := h _ h1
    simp only at this
    unfold partsL
    rw [h2]; exact this

/-- All letters. -/
def lettersL : List UInt8 := [110, 121, 101, 107, 120, 99, 117, 116, 102, 98, 97]
/-- A text part. -/
def M.txt (m : M) (c : UInt8) : ByteArray := if c = 110 then m.nm else if c = 121 then m.ty else if c = 101 then m.ex else if c = 107 then m.ky else m.tx
/-- Is a part 0 or empty? -/
def M.emptyB (m : M) (c : UInt8) : Bool :=
  if c = 99 then decide (m.co = 0) else if c = 117 then decide (m.cn = 0) else if c = 116 then decide (m.tg = 0) else if c = 102 then !m.fl else if c = 98 then !m.bk
  else if c = 97 then decide (m.ar.len = 0) else decide ((m.txt c).size = 0)
/-- May a part be? -/
def M.rightB (m : M) (c : UInt8) : Bool :=
  if c = 99 then decide (0 ≤ m.co ∧ m.co ≤ 65535) else if c = 117 then decide (0 ≤ m.cn ∧ m.cn ≤ 4294967295) else if c = 116 ∨ c = 102 ∨ c = 98 then true
  else if c = 97 then m.ar.mayTab 1 else decide ((m.txt c).size ≤ 255)
/-- May a call with these parts be, as to one letter? -/
def M.okAt (m : M) (ps : List UInt8) (c : UInt8) : Bool := (ps.contains c || m.emptyB c) && m.rightB c
def M.mayB (m : M) : Bool := decide (partsL m.id ≠ [45]) && lettersL.all (m.okAt (partsL m.id))
/-- A part's bytes. -/
def M.encP (m : M) (c : UInt8) : List UInt8 :=
  if c = 99 then be (u64w m.co) 2 else if c = 117 then be (u64w m.cn) 4 else if c = 116 then be m.tg.toNat 8 else if c = 102 then [if m.fl then 1 else 0] else if c = 98 then [if m.bk then 1 else 0]
  else if c = 97 then m.ar.enc else UInt8.ofNat (m.txt c).size :: (m.txt c).data.toList
def M.encPs (m : M) : List UInt8 → List UInt8
  | [] => []
  | c :: r => m.encP c ++ m.encPs r
/-- A call's bytes. -/
def M.enc (m : M) : List UInt8 := be (u64w (m.id.tdiv 100)) 2 ++ be (u64w (m.id.tmod 100)) 2 ++ m.encPs (partsL m.id)
/-- Has a call arguments? -/
def hasA (id : Int) : Bool := (partsL id).getLast? == some 97
/-- What Put tells, and the bytes. -/
def M.putE (m : M) : Int := if m.mayB then (if hasA m.id then (if 3000 < m.ar.enc.length then 502 else 0) else 0) else 1
def M.putB (m : M) : List UInt8 := if m.putE = 0 then m.enc else []

/-- Numbers and lengths as Go's kinds and the model's reach have them. -/
structure M.Ok (m : M) : Prop where
  id1 : -9223372036854775808 ≤ m.id
  id2 : m.id ≤ 9223372036854775807
  nm : m.nm.size ≤ 140737488351232
  ty : m.ty.size ≤ 140737488351232
  ex : m.ex.size ≤ 140737488351232
  ky : m.ky.size ≤ 140737488351232
  tx : m.tx.size ≤ 140737488351232
  co1 : -9223372036854775808 ≤ m.co
  co2 : m.co ≤ 9223372036854775807
  cn1 : -9223372036854775808 ≤ m.cn
  cn2 : m.cn ≤ 9223372036854775807
  tg1 : 0 ≤ m.tg
  tg2 : m.tg < 18446744073709551616
  ar : m.ar.Ok
  arl : m.ar.len ≤ 140737488351232

theorem M.encPs_app (m : M) (a b : List UInt8) : m.encPs (a ++ b) = m.encPs a ++ m.encPs b := by
  induction a with
  | nil => rfl
  | cons c r ih => simp [M.encPs, ih]
/-- Only the last part of a call are its arguments. -/
theorem parts_a (id : Int) (hn : partsL id ≠ [45]) : (∀ c ∈ partsL id, c ∈ lettersL) ∧ (partsL id).length ≤ 5 ∧ (hasA id = true → partsL id = [110, 101, 107, 97]) ∧ (hasA id = false → 97 ∉ partsL id) ∧ 2010 ≤ id ∧ id ≤ 9031 ∧ 0 ≤ id.tmod 100 ∧ id.tmod 100 ≤ 99 := by
  have key : ∀ p ∈ tabP, (∀ c ∈ p.2, c ∈ lettersL) ∧ p.2.length ≤ 5 ∧ ((p.2.getLast? == some 97) = true → p.2 = [110, 101, 107, 97]) ∧ ((p.2.getLast? == some 97) = false → 97 ∉ p.2) ∧ 2010 ≤ p.1 ∧ p.1 ≤ 9031 ∧ 0 ≤ p.1.tmod 100 ∧ p.1.tmod 100 ≤ 99 := by decide +kernel
  exact partsL_ind (Q := fun id ps => (∀ c ∈ ps, c ∈ lettersL) ∧ ps.length ≤ 5 ∧ ((ps.getLast? == some 97) = true → ps = [110, 101, 107, 97]) ∧ ((ps.getLast? == some 97) = false → 97 ∉ ps) ∧ 2010 ≤ id ∧ id ≤ 9031 ∧ 0 ≤ id.tmod 100 ∧ id.tmod 100 ≤ 99) key id hn
theorem M.mayB_iff (m : M) : m.mayB = true ↔ partsL m.id ≠ [45] ∧ ∀ c ∈ lettersL, m.okAt (partsL m.id) c = true := by
  unfold M.mayB
  simp [List.all_eq_true]
end Go.Proofs.Ytaeainkfllfdfaa
