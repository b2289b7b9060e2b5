/- A table as an argument of a row: opened as data, and read once more behind a call that turns nothing. -/
import Derived.Test.YtaeainkfllfdfaaB15
import Derived.Carry
namespace Go.Proofs.Ytaeainkfllfdfaa
open Go.RowKit Go.ChangeShapes Go.WideShapes Go.ChangeAt
set_option linter.unusedVariables false
set_option linter.unusedSimpArgs false
set_option maxRecDepth 100000

theorem laidOut : laidOutB Try.prog = true := by kernel_rfl
theorem rec22 : Try.prog.readableRec 22 = true := by kernel_rfl
theorem row22 : 22 < Try.prog.types.size := of_decide_eq_true (by kernel_rfl)

theorem open_tab {H : Type} {enc : TypeId × Value → H} {W : World} {base : Nat} {sp : Nat → Bool} {held : Bool} {v : Value} {d : DataW H} {p : List MemPlace} (hv : Value.okWide Try.prog W .any base 22 v)
    (h : DataW.Trod enc Try.prog W 0 sp held 22 v d p) (hw : ∀ m ∈ d.weights Try.prog 22, m ≤ reachBytes) :
    ∃ (A : Option Addr) (c : Nat) (l : L), v = .slice A l.len c ∧ Sl W (fun b => b < W.heap.size) A l ∧ l.Ok ∧ l.len ≤ 140737488351232 ∧ l.len ≤ c ∧ c ≤ maxLen := by
  obtain ⟨a0, n, cap, rfl⟩ := okWide_slice Try.underlying22 hv
  obtain ⟨f, hf⟩ := h
  obtain ⟨A, c, l, e, r⟩ := open_items f _ _ hf hw
  simp [Value.cells] at e
  obtain ⟨rfl, rfl, rfl⟩ := e
  exact ⟨_, _, l, rfl, r⟩
/-- It reads as it did. -/
theorem tab_still {H : Type} {enc : TypeId × Value → H} {W W' : World} {v : Value} {d : DataW H} {p : List MemPlace} (h : DataW.Trod enc Try.prog W 0 (fun _ => true) true 22 v d p) (hb : Still W W') :
    DataW.Trod enc Try.prog W' 0 (fun b => decide (b < W.heap.size)) true 22 v d p :=
  Below.trod laidOut rec22 row22 h hb.below (fun x hx => by obtain ⟨f, hf⟩ := h; exact DataW.trod_lt f 22 _ _ hf x hx)
/-- A byte among the arguments. -/
theorem byte_of {a : Int} (h : (Lit.int .u8 a).wf = true) : ∃ u : UInt8, a = (u.toNat : Int) := by
  simp [Lit.wf, IntKind.min, IntKind.max, IntKind.signed, IntKind.bits] at h
  refine ⟨UInt8.ofNat a.toNat, ?_⟩
  rw [UInt8.toNat_ofNat']
  omega
end Go.Proofs.Ytaeainkfllfdfaa
