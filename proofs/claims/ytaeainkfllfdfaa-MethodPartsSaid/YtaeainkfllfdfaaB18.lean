/- A call as an argument of a row: opened as data, and read once more behind a call that turns nothing. -/
import Derived.Test.YtaeainkfllfdfaaB17
import Derived.Test.YtaeainkfllfdfaaC2
import Derived.Lib.SmallJoins
namespace Go.Proofs.Ytaeainkfllfdfaa
open Go.RowKit Go.ChangeShapes Go.WideShapes Go.ChangeAt Go.Joins Go.Deep
set_option linter.unusedVariables false
set_option linter.unusedSimpArgs false
set_option maxRecDepth 100000

theorem rec42 : Try.prog.readableRec 42 = true := by kernel_rfl
theorem row42 : 42 < Try.prog.types.size := of_decide_eq_true (by kernel_rfl)
theorem cells42 : Try.prog.cellsOf 42 = 12 := by kernel_rfl
theorem cells40 : Try.prog.cellsOf 40 = 1 := by kernel_rfl
theorem cells4 : Try.prog.cellsOf 4 = 1 := by kernel_rfl
theorem bounds_u64 {n : Int} (h : (Lit.int .u64 n).wf = true) : 0 ≤ n ∧ n < 18446744073709551616 := by
  simp [Lit.wf, IntKind.min, IntKind.max, IntKind.signed, IntKind.bits] at h
  omega

set_option maxHeartbeats 2000000 in
theorem open_meth {H : Type} {enc : TypeId × Value → H} {W : World} {base : Nat} {sp : Nat → Bool} {held : Bool} {v : Value} {d : DataW H} {p : List MemPlace} (hv : Value.okWide Try.prog W .any base 42 v)
    (h : DataW.Trod enc Try.prog W 0 sp held 42 v d p) (hw : ∀ m ∈ d.weights Try.prog 42, m ≤ reachBytes) :
    ∃ (A : Option Addr) (c : Nat) (m : M), v = m.val A c ∧ Sl W (fun b => b < W.heap.size) A m.ar ∧ m.Ok := by
  obtain ⟨cs, rfl, hsz⟩ := okWide_struct Try.underlying42 hv
  obtain ⟨l⟩ := cs
  match l, hsz.trans cells42 with
  | [c0, c1, c2, c3, c4, c5, c6, c7, c8, c9, c10, c11], _ =>
    obtain ⟨fuel, hf⟩ := h
    obtain ⟨xs, n, _, hx, _, hlen, hg⟩ := DataW.trod_struct Try.underlying42 hf
    match xs, hlen with
    | [y0, y1, y2, y3, y4, y5, y6, y7, y8, y9, y10, y11], _ =>
      simp only [Prod.mk.injEq] at hx
      obtain ⟨rfl, _⟩ := hx
      have g0 : DataW.trod enc Try.prog W 0 sp held n 3 [c0] = some y0 := by simpa [Value.cells, cells3] using hg 0 _ rfl
      have g1 : DataW.trod enc Try.prog W 0 sp held n 9 [c1] = some y1 := by simpa [Value.cells, cells9] using hg 1 _ rfl
      have g2 : DataW.trod enc Try.prog W 0 sp held n 9 [c2] = some y2 := by simpa [Value.cells, cells9] using hg 2 _ rfl
      have g3 : DataW.trod enc Try.prog W 0 sp held n 9 [c3] = some y3 := by simpa [Value.cells, cells9] using hg 3 _ rfl
      have g4 : DataW.trod enc Try.prog W 0 sp held n 9 [c4] = some y4 := by simpa [Value.cells, cells9] using hg 4 _ rfl
      have g5 : DataW.trod enc Try.prog W 0 sp held n 9 [c5] = some y5 := by simpa [Value.cells, cells9] using hg 5 _ rfl
      have g6 : DataW.trod enc Try.prog W 0 sp held n 3 [c6] = some y6 := by simpa [Value.cells, cells3] using hg 6 _ rfl
      have g7 : DataW.trod enc Try.prog W 0 sp held n 3 [c7] = some y7 := by simpa [Value.cells, cells3] using hg 7 _ rfl
      have g8 : DataW.trod enc Try.prog W 0 sp held n 40 [c8] = some y8 := by simpa [Value.cells, cells40] using hg 8 _ rfl
      have g9 : DataW.trod enc Try.prog W 0 sp held n 4 [c9] = some y9 := by simpa [Value.cells, cells4] using hg 9 _ rfl
      have g10 : DataW.trod enc Try.prog W 0 sp held n 4 [c10] = some y10 := by simpa [Value.cells, cells4] using hg 10 _ rfl
      have g11 : DataW.trod enc Try.prog W 0 sp held n 22 [c11] = some y11 := by simpa [Value.cells, cells22] using hg 11 _ rfl
      obtain ⟨id, e0, rfl, w0⟩ := DataW.trod_int Try.underlying3 g0
      obtain ⟨nm, e1, rfl, w1⟩ := DataW.trod_string Try.underlying9 g1
      obtain ⟨ty, e2, rfl, w2⟩ := DataW.trod_string Try.underlying9 g2
      obtain ⟨ex, e3, rfl, w3⟩ := DataW.trod_string Try.underlying9 g3
      obtain ⟨ky, e4, rfl, w4⟩ := DataW.trod_string Try.underlying9 g4
      obtain ⟨tx, e5, rfl, w5⟩ := DataW.trod_string Try.underlying9 g5
      obtain ⟨co, e6, rfl, w6⟩ := DataW.trod_int Try.underlying3 g6
      obtain ⟨cn, e7, rfl, w7⟩ := DataW.trod_int Try.underlying3 g7
      obtain ⟨tg, e8, rfl, w8⟩ := DataW.trod_int Try.underlying40 g8
      obtain ⟨fl, e9, rfl⟩ := DataW.trod_bool Try.underlying4 g9
      obtain ⟨bk, e10, rfl⟩ := DataW.trod_bool Try.underlying4 g10
      obtain ⟨A, c, ar, e11, hsl, hok, hle, _, _⟩ := open_items n [c11] y11 g11 (fun m hm => hw m (by simp [DataW.weights, DataW.weightsEach, Try.underlying42]; simp_all))
      obtain rfl := (List.cons.inj e0).1
      obtain rfl := (List.cons.inj e1).1
      obtain rfl := (List.cons.inj e2).1
      obtain rfl := (List.cons.inj e3).1
      obtain rfl := (List.cons.inj e4).1
      obtain rfl := (List.cons.inj e5).1
      obtain rfl := (List.cons.inj e6).1
      obtain rfl := (List.cons.inj e7).1
      obtain rfl := (List.cons.inj e8).1
      obtain rfl := (List.cons.inj e9).1
      obtain rfl := (List.cons.inj e10).1
      obtain rfl := (List.cons.inj e11).1
      have b0 := bounds_i64 w0
      have b6 := bounds_i64 w6
      have b7 := bounds_i64 w7
      have b8 := bounds_u64 w8
      have v1 : nm.data.toList.length ≤ reachBytes := hw _ (by simp [DataW.weights, DataW.weightsEach, Try.underlying42])
      have z1 : nm.data.toList.length = nm.size := Array.length_toList
      have v2 : ty.data.toList.length ≤ reachBytes := hw _ (by simp [DataW.weights, DataW.weightsEach, Try.underlying42])
      have z2 : ty.data.toList.length = ty.size := Array.length_toList
      have v3 : ex.data.toList.length ≤ reachBytes := hw _ (by simp [DataW.weights, DataW.weightsEach, Try.underlying42])
      have z3 : ex.data.toList.length = ex.size := Array.length_toList
      have v4 : ky.data.toList.length ≤ reachBytes := hw _ (by simp [DataW.weights, DataW.weightsEach, Try.underlying42])
      have z4 : ky.data.toList.length = ky.size := Array.length_toList
      have v5 : tx.data.toList.length ≤ reachBytes := hw _ (by simp [DataW.weights, DataW.weightsEach, Try.underlying42])
      have z5 : tx.data.toList.length = tx.size := Array.length_toList
      simp only [reachBytes] at v1 v2 v3 v4 v5
      exact ⟨A, c, ⟨id, nm, ty, ex, ky, tx, co, cn, tg, fl, bk, ar⟩, rfl, hsl, ⟨b0.1, b0.2, by simp only; omega, by simp only; omega, by simp only; omega, by simp only; omega, by simp only; omega, b6.1, b6.2, b7.1, b7.2, b8.1, b8.2, hok, hle⟩⟩
/-- It reads as it did. -/
theorem meth_still {H : Type} {enc : TypeId × Value → H} {W W' : World} {v : Value} {d : DataW H} {p : List MemPlace} (h : DataW.Trod enc Try.prog W 0 (fun _ => true) true 42 v d p) (hb : Still W W') :
    DataW.Trod enc Try.prog W' 0 (fun b => decide (b < W.heap.size)) true 42 v d p :=
  Below.trod laidOut rec42 row42 h hb.below (fun x hx => by obtain ⟨f, hf⟩ := h; exact DataW.trod_lt f 42 _ _ hf x hx)
end Go.Proofs.Ytaeainkfllfdfaa
