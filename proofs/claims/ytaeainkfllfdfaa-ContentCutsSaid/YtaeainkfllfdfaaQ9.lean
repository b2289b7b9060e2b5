/- Contracts of the functions that the statement reaches, each walked once, and the plain laws over them, for every input that their premises name (B18, D0, D1, D2, C3, C4, C5, A9). -/
import Derived.Test.YtaeainkfllfdfaaQ8
import Derived.Lib.SmallJoins
import Derived.RangeFuncNested
import Derived.Maps.OwnIn
import Derived.WalkSpells
import Derived.Lib.SliceRun
import Derived.RangeFuncBound
import Derived.RangeFuncCalls
import Derived.RangeFuncLeaves
import Derived.Shelf.Abstract
import Derived.Shelf.RegionOpen
import Derived.WalkKit
import Derived.OwnWalkIn
import Derived.TacticsInMore
import Derived.LoopNIn
import Derived.LoopIn
/- B18: A call as an argument of a row: opened as data, and read once more behind a call that turns nothing. -/
namespace Go.Proofs.Ytaeainkfllfdfaa
open Go.RowKit Go.ChangeShapes Go.WideShapes Go.ChangeAt Go.Joins Go.Deep
set_option linter.unusedVariables false
set_option linter.unusedSimpArgs false
set_option maxRecDepth 100000

theorem rec42 : Try.prog.readableRec 42 = true := by kernel_rfl
theorem row42 : 42 < Try.prog.types.size := of_decide_eq_true (by kernel_rfl)
theorem cells42 : Try.prog.cellsOf 42 = 12 := by kernel_rfl
theorem cells40 : Try.prog.cellsOf 40 = 1 := by kernel_rfl
theorem cells4 : Try.prog.cellsOf 4 = 1 := by kernel_rfl
theorem bounds_u64 {n : Int} (h : (Lit.int .u64 n).wf = true) : 0 ≤ n ∧ n < 18446744073709551616 := by
  simp [Lit.wf, IntKind.min, IntKind.max, IntKind.signed, IntKind.bits] at h
  omega

set_option maxHeartbeats 2000000 in
theorem open_meth {H : Type} {enc : TypeId × Value → H} {W : World} {base : Nat} {sp : Nat → Bool} {held : Bool} {v : Value} {d : DataW H} {p : List MemPlace} (hv : Value.okWide Try.prog W .any base 42 v)
    (h : DataW.Trod enc Try.prog W 0 sp held 42 v d p) (hw : ∀ m ∈ d.weights Try.prog 42, m ≤ reachBytes) :
    ∃ (A : Option Addr) (c : Nat) (m : M), v = m.val A c ∧ Sl W (fun b => b < W.heap.size) A m.ar ∧ m.Ok := by
  obtain ⟨cs, rfl, hsz⟩ := okWide_struct Try.underlying42 hv
  obtain ⟨l⟩ := cs
  match l, hsz.trans cells42 with
  | [c0, c1, c2, c3, c4, c5, c6, c7, c8, c9, c10, c11], _ =>
    obtain ⟨fuel, hf⟩ := h
    obtain ⟨xs, n, _, hx, _, hlen, hg⟩ := DataW.trod_struct Try.underlying42 hf
    match xs, hlen with
    | [y0, y1, y2, y3, y4, y5, y6, y7, y8, y9, y10, y11], _ =>
      simp only [Prod.mk.injEq] at hx
      obtain ⟨rfl, _⟩ := hx
      have g0 : DataW.trod enc Try.prog W 0 sp held n 3 [c0] = some y0 := by simpa [Value.cells, cells3] using hg 0 _ rfl
      have g1 : DataW.trod enc Try.prog W 0 sp held n 9 [c1] = some y1 := by simpa [Value.cells, cells9] using hg 1 _ rfl
      have g2 : DataW.trod enc Try.prog W 0 sp held n 9 [c2] = some y2 := by simpa [Value.cells, cells9] using hg 2 _ rfl
      have g3 : DataW.trod enc Try.prog W 0 sp held n 9 [c3] = some y3 := by simpa [Value.cells, cells9] using hg 3 _ rfl
      have g4 : DataW.trod enc Try.prog W 0 sp held n 9 [c4] = some y4 := by simpa [Value.cells, cells9] using hg 4 _ rfl
      have g5 : DataW.trod enc Try.prog W 0 sp held n 9 [c5] = some y5 := by simpa [Value.cells, cells9] using hg 5 _ rfl
      have g6 : DataW.trod enc Try.prog W 0 sp held n 3 [c6] = some y6 := by simpa [Value.cells, cells3] using hg 6 _ rfl
      have g7 : DataW.trod enc Try.prog W 0 sp held n 3 [c7] = some y7 := by simpa [Value.cells, cells3] using hg 7 _ rfl
      have g8 : DataW.trod enc Try.prog W 0 sp held n 40 [c8] = some y8 := by simpa [Value.cells, cells40] using hg 8 _ rfl
      have g9 : DataW.trod enc Try.prog W 0 sp held n 4 [c9] = some y9 := by simpa [Value.cells, cells4] using hg 9 _ rfl
      have g10 : DataW.trod enc Try.prog W 0 sp held n 4 [c10] = some y10 := by simpa [Value.cells, cells4] using hg 10 _ rfl
      have g11 : DataW.trod enc Try.prog W 0 sp held n 22 [c11] = some y11 := by simpa [Value.cells, cells22] using hg 11 _ rfl
      obtain ⟨id, e0, rfl, w0⟩ := DataW.trod_int Try.underlying3 g0
      obtain ⟨nm, e1, rfl, w1⟩ := DataW.trod_string Try.underlying9 g1
      obtain ⟨ty, e2, rfl, w2⟩ := DataW.trod_string Try.underlying9 g2
      obtain ⟨ex, e3, rfl, w3⟩ := DataW.trod_string Try.underlying9 g3
      obtain ⟨ky, e4, rfl, w4⟩ := DataW.trod_string Try.underlying9 g4
      obtain ⟨tx, e5, rfl, w5⟩ := DataW.trod_string Try.underlying9 g5
      obtain ⟨co, e6, rfl, w6⟩ := DataW.trod_int Try.underlying3 g6
      obtain ⟨cn, e7, rfl, w7⟩ := DataW.trod_int Try.underlying3 g7
      obtain ⟨tg, e8, rfl, w8⟩ := DataW.trod_int Try.underlying40 g8
      obtain ⟨fl, e9, rfl⟩ := DataW.trod_bool Try.underlying4 g9
      obtain ⟨bk, e10, rfl⟩ := DataW.trod_bool Try.underlying4 g10
      obtain ⟨A, c, ar, e11, hsl, hok, hle, _, _⟩ := open_items n [c11] y11 g11 (fun m hm => hw m (by simp [DataW.weights, DataW.weightsEach, Try.underlying42]; simp_all))
      obtain rfl := (List.cons.inj e0).1
      obtain rfl := (List.cons.inj e1).1
      obtain rfl := (List.cons.inj e2).1
      obtain rfl := (List.cons.inj e3).1
      obtain rfl := (List.cons.inj e4).1
      obtain rfl := (List.cons.inj e5).1
      obtain rfl := (List.cons.inj e6).1
      obtain rfl := (List.cons.inj e7).1
      obtain rfl := (List.cons.inj e8).1
      obtain rfl := (List.cons.inj e9).1
      obtain rfl := (List.cons.inj e10).1
      obtain rfl := (List.cons.inj e11).1
      have b0 := bounds_i64 w0
      have b6 := bounds_i64 w6
      have b7 := bounds_i64 w7
      have b8 := bounds_u64 w8
      have v1 : nm.data.toList.length ≤ reachBytes := hw _ (by simp [DataW.weights, DataW.weightsEach, Try.underlying42])
      have z1 : nm.data.toList.length = nm.size := Array.length_toList
      have v2 : ty.data.toList.length ≤ reachBytes := hw _ (by simp [DataW.weights, DataW.weightsEach, Try.underlying42])
      have z2 : ty.data.toList.length = ty.size := Array.length_toList
      have v3 : ex.data.toList.length ≤ reachBytes := hw _ (by simp [DataW.weights, DataW.weightsEach, Try.underlying42])
      have z3 : ex.data.toList.length = ex.size := Array.length_toList
      have v4 : ky.data.toList.length ≤ reachBytes := hw _ (by simp [DataW.weights, DataW.weightsEach, Try.underlying42])
      have z4 : ky.data.toList.length = ky.size := Array.length_toList
      have v5 : tx.data.toList.length ≤ reachBytes := hw _ (by simp [DataW.weights, DataW.weightsEach, Try.underlying42])
      have z5 : tx.data.toList.length = tx.size := Array.length_toList
      simp only [reachBytes] at v1 v2 v3 v4 v5
      exact ⟨A, c, ⟨id, nm, ty, ex, ky, tx, co, cn, tg, fl, bk, ar⟩, rfl, hsl, ⟨b0.1, b0.2, by simp only; omega, by simp only; omega, by simp only; omega, by simp only; omega, by simp only; omega, b6.1, b6.2, b7.1, b7.2, b8.1, b8.2, hok, hle⟩⟩
/-- It reads as it did. -/
theorem meth_still {H : Type} {enc : TypeId × Value → H} {W W' : World} {v : Value} {d : DataW H} {p : List MemPlace} (h : DataW.Trod enc Try.prog W 0 (fun _ => true) true 42 v d p) (hb : Still W W') :
    DataW.Trod enc Try.prog W' 0 (fun b => decide (b < W.heap.size)) true 42 v d p :=
  Below.trod laidOut rec42 row42 h hb.below (fun x hx => by obtain ⟨f, hf⟩ := h; exact DataW.trod_lt f 42 _ _ hf x hx)
end Go.Proofs.Ytaeainkfllfdfaa
/- D0: Frames: what a slice of frames reads as; rows of frames of the call's own, and appending to them. -/
namespace Go.Proofs.Ytaeainkfllfdfaa
open Go.RowKit
set_option linter.unusedVariables false
set_option linter.unusedSimpArgs false
set_option maxRecDepth 100000

/-- A frame. -/
structure Fr where
  k : Int
  ch : Int
  d : List UInt8
deriving DecidableEq, Inhabited

/-- The cells us hold the frames fs; their bytes lie in blocks of which S holds. -/
def FVals (w : World) (S : Nat → Prop) : List Fr → List Value → Prop
  | [], us => us = []
  | f :: r, us => ∃ A c vs, us = .int .i64 f.k :: .int .i64 f.ch :: .slice A f.d.length c :: vs ∧ (Bs w S A f.d ∧ f.d.length ≤ c ∧ c ≤ 9223372036854775807) ∧ FVals w S r vs

theorem FVals.length {w : World} {S : Nat → Prop} : ∀ {l : List Fr} {us : List Value}, FVals w S l us → us.length = l.length * 3
  | [], us, h => by cases h; rfl
  | f :: r, us, h => by
    obtain ⟨A, c, vs, rfl, _, hr⟩ := h
    have := FVals.length hr
    simp [this]; omega
theorem FVals.imp {w w' : World} {S S' : Nat → Prop} (hS : ∀ b, S b → S' b) (hw : ∀ b o u, S b → w.cell? ⟨b, o, none⟩ = some u → w'.cell? ⟨b, o, none⟩ = some u) :
    ∀ {l : List Fr} {us : List Value}, FVals w S l us → FVals w' S' l us
  | [], us, h => h
  | f :: r, us, h => by
    obtain ⟨A, c, vs, rfl, hi, hr⟩ := h
    exact ⟨A, c, vs, rfl, ⟨hi.1.imp hS hw, hi.2⟩, FVals.imp hS hw hr⟩
theorem FVals.tch {w w' : World} {S T : Nat → Prop} {us : List Value} {l : List Fr} (h : FVals w S l us) (k : Tch T w w') (hd : ∀ b, S b → ¬ T b) : FVals w' S l us :=
  h.imp (fun _ hb => hb) (fun b _ _ hb hc => k.cell hc (hd b hb))
theorem FVals.still {w w' : World} {S : Nat → Prop} {us : List Value} {l : List Fr} (h : FVals w S l us) (k : Still w w') : FVals w' S l us := h.tch k (fun _ _ f => f)
theorem FVals.weak {w : World} {S S' : Nat → Prop} {us : List Value} {l : List Fr} (h : FVals w S l us) (hS : ∀ b, S b → S' b) : FVals w S' l us := h.imp hS (fun _ _ _ _ h => h)
theorem FVals.old {w : World} {S : Nat → Prop} : ∀ {l : List Fr} {us : List Value}, FVals w S l us → FVals w (fun b => S b ∧ b < w.heap.size) l us
  | [], us, h => h
  | f :: r, us, h => by
    obtain ⟨A, c, vs, rfl, hi, hr⟩ := h
    exact ⟨A, c, vs, rfl, ⟨hi.1.old, hi.2⟩, FVals.old hr⟩
theorem FVals.app {w : World} {S : Nat → Prop} : ∀ {l m : List Fr} {us vs : List Value}, FVals w S l us → FVals w S m vs → FVals w S (l ++ m) (us ++ vs)
  | [], m, us, vs, h, k => by cases h; exact k
  | f :: r, m, us, vs, h, hk => by
    obtain ⟨A, c, xs, rfl, hi, hr⟩ := h
    exact ⟨A, c, xs ++ vs, rfl, hi, hr.app hk⟩
theorem FVals.oneCell {w : World} {S : Nat → Prop} : ∀ {l : List Fr} {us : List Value}, FVals w S l us → ∀ u ∈ us, u.oneCell' = true
  | [], us, h => by cases h; intro u hu; cases hu
  | f :: r, us, h => by
    obtain ⟨A, c, vs, rfl, _, hr⟩ := h
    intro u hu
    simp only [List.mem_cons] at hu
    rcases hu with rfl | rfl | rfl | hu <;> first | rfl | exact FVals.oneCell hr u hu
theorem FVals.at {w : World} {S : Nat → Prop} : ∀ {l : List Fr} {us : List Value} (_ : FVals w S l us) (i : Nat) (hi : i < l.length),
    ∃ A c, us[i * 3]? = some (.int .i64 l[i].k) ∧ us[i * 3 + 1]? = some (.int .i64 l[i].ch) ∧ us[i * 3 + 2]? = some (.slice A l[i].d.length c) ∧ Bs w S A l[i].d ∧ l[i].d.length ≤ c ∧ c ≤ 9223372036854775807
  | [], _, _, i, hi => by simp at hi
  | f :: r, _, h, 0, _ => by
    obtain ⟨A, c, vs, rfl, hs, _⟩ := h
    exact ⟨A, c, rfl, rfl, rfl, hs⟩
  | f :: r, _, h, i + 1, hi => by
    obtain ⟨A, c, vs, rfl, _, hr⟩ := h
    obtain ⟨A', c', h0, h1, h2, hs⟩ := FVals.at hr i (by simp at hi; omega)
    refine ⟨A', c', ?_, ?_, ?_, hs⟩
    · rw [show (i + 1) * 3 = (i * 3) + 3 from by omega]; exact h0
    · rw [show (i + 1) * 3 + 1 = (i * 3 + 1) + 3 from by omega]; exact h1
    · rw [show (i + 1) * 3 + 2 = (i * 3 + 2) + 3 from by omega]; exact h2

/-- A slice that begins at A holds the frames l. -/
def Fs (w : World) (S : Nat → Prop) (A : Option Addr) (l : List Fr) : Prop :=
  l = [] ∨ ∃ b o us, A = some ⟨b, o, none⟩ ∧ S b ∧ FVals w S l us ∧ ∀ j u, us[j]? = some u → w.cell? ⟨b, o + j, none⟩ = some u
theorem Fs.tch {w w' : World} {S T : Nat → Prop} {A : Option Addr} {l : List Fr} (h : Fs w S A l) (k : Tch T w w') (hd : ∀ b, S b → ¬ T b) : Fs w' S A l := by
  rcases h with h | ⟨b, o, us, rfl, hb, hx, hc⟩
  · exact .inl h
  · exact .inr ⟨b, o, us, rfl, hb, hx.tch k hd, fun j u hj => k.cell (hc j u hj) (hd b hb)⟩
theorem Fs.still {w w' : World} {S : Nat → Prop} {A : Option Addr} {l : List Fr} (h : Fs w S A l) (k : Still w w') : Fs w' S A l := h.tch k (fun _ _ f => f)
theorem Fs.weak {w : World} {S S' : Nat → Prop} {A : Option Addr} {l : List Fr} (h : Fs w S A l) (hS : ∀ b, S b → S' b) : Fs w S' A l := by
  rcases h with h | ⟨b, o, us, rfl, hb, hx, hc⟩
  · exact .inl h
  · exact .inr ⟨b, o, us, rfl, hS b hb, hx.weak hS, hc⟩
theorem Fs.nil (w : World) (S : Nat → Prop) (A : Option Addr) : Fs w S A [] := .inl rfl
/-- Frame number i: three cells in memory. -/
theorem Fs.at {w : World} {S : Nat → Prop} {A : Option Addr} {l : List Fr} (h : Fs w S A l) (hl : 0 < l.length) :
    ∃ b o, A = some ⟨b, o, none⟩ ∧ S b ∧ ∀ i (hi : i < l.length), ∃ A' c, w.cell? ⟨b, o + i * 3, none⟩ = some (.int .i64 l[i].k) ∧ w.cell? ⟨b, o + i * 3 + 1, none⟩ = some (.int .i64 l[i].ch) ∧
      w.cell? ⟨b, o + i * 3 + 2, none⟩ = some (.slice A' l[i].d.length c) ∧ Bs w S A' l[i].d ∧ l[i].d.length ≤ c ∧ c ≤ 9223372036854775807 := by
  rcases h with rfl | ⟨b, o, us, rfl, hb, hx, hc⟩
  · simp at hl
  · refine ⟨b, o, rfl, hb, fun i hi => ?_⟩
    obtain ⟨A', c, h0, h1, h2, hs⟩ := hx.at i hi
    refine ⟨A', c, hc _ _ h0, ?_, ?_, hs⟩
    · have := hc _ _ h1; rwa [← Nat.add_assoc] at this
    · have := hc _ _ h2; rwa [← Nat.add_assoc] at this

/-- A row of frames of the call's own, from block base on; their bytes lie in blocks of which S holds, and not in its own. -/
def OwnF (w : World) (base : Nat) (S : Nat → Prop) (A : Option Addr) (c : Nat) (l : List Fr) : Prop :=
  ∃ us, w.ownsRow base 52 3 (.slice A l.length c) l.length us ∧ FVals w (fun b => S b ∧ ¬ blk A b) l us
theorem OwnF.base {w : World} {base : Nat} {S : Nat → Prop} {A : Option Addr} {c : Nat} {l : List Fr} (h : OwnF w base S A c l) {b : Nat} (hb : blk A b) : base ≤ b ∧ b < w.heap.size := by
  obtain ⟨us, ho, _⟩ := h
  exact ho.lt b ((ownBlock_iff _ _ _ _).2 hb)
theorem OwnF.tch {w w' : World} {base : Nat} {S T : Nat → Prop} {A : Option Addr} {c : Nat} {l : List Fr} (h : OwnF w base S A c l) (k : Tch T w w') (h1 : ∀ b, blk A b → ¬ T b) (h2 : ∀ b, S b → b < w.heap.size → ¬ T b) : OwnF w' base S A c l := by
  obtain ⟨us, ho, hv⟩ := h
  exact ⟨us, k.own ho (fun g hg => h1 g ((ownBlock_iff _ _ _ _).1 hg)), (hv.old.tch k (fun b hb => h2 b hb.1.1 hb.2)).weak (fun b hb => hb.1)⟩
theorem OwnF.still {w w' : World} {base : Nat} {S : Nat → Prop} {A : Option Addr} {c : Nat} {l : List Fr} (h : OwnF w base S A c l) (k : Still w w') : OwnF w' base S A c l := h.tch k (fun _ _ f => f) (fun _ _ _ f => f)
theorem OwnF.fs {w : World} {base : Nat} {S T : Nat → Prop} {A : Option Addr} {c : Nat} {l : List Fr} (h : OwnF w base S A c l) (h1 : ∀ b, base ≤ b → T b) (h2 : ∀ b, S b → T b) : Fs w T A l := by
  obtain ⟨us, ho, hv⟩ := h
  by_cases hz : l.length = 0
  · exact .inl (List.eq_nil_of_length_eq_zero hz)
  · have hlt := ho.lt
    have hcells := @World.ownsRow.cells _ _ _ _ _ _ _ ho
    rcases ho.2 with ⟨hv', hn⟩ | ⟨g, cap, cur, hv', hg, hh, r⟩
    · exact absurd hn hz
    · have hA : A = some ⟨g, 0, none⟩ := by simp at hv'; exact hv'.1
      subst hA
      refine .inr ⟨g, 0, us, rfl, h1 g hg, hv.weak (fun b hb => h2 b hb.1), fun j u hj => ?_⟩
      have := hcells (g := g) rfl j u hj
      rw [Addr.add_lit] at this
      exact this
theorem info52 : (Try.prog.info? 52).map (fun i => (i.zero, i.size, i.bytes)) = some (some (.agg #[.int .i64 0, .int .i64 0, .slice none 0 0]), 3, 40) := by kernel_rfl

/-- A row that a literal has laid. -/
theorem OwnF.lit {w : World} {base g : Nat} {S : Nat → Prop} {l : List Fr} {us : List Value} (hg : w.heap[g]? = some (.cells us.toArray 52)) (hb : base ≤ g) (hv : FVals w (fun b => S b ∧ b ≠ g) l us) (hl : l.length ≤ maxLen) : OwnF w base S (some ⟨g, 0, none⟩) l.length l := by
  have hlen := hv.length
  refine ⟨us, ⟨by rw [hlen], .inr ⟨g, l.length, us.toArray, rfl, hb, hg, Nat.le_refl _, hl, by simp [hlen], by simp [← hlen]⟩⟩, hv.weak (fun b hb => ⟨hb.1, fun ⟨a, ha, e⟩ => ?_⟩)⟩
  simp only [Option.some.injEq] at ha
  subst ha
  exact hb.2 e.symm

/-- 'append(s, f)', s a row of frames of the call's own, in a round of a range over a function. -/
theorem wpListIn_appF {F : Fence} {nF : Nat} {ops : Array Oper} {rest : List Oper} {o : Oper} {a : Act} {Q : Exit → Act → World → Prop} (w : World) (hg : o.guard = none) (s x : Operand)
    (hop : o.op = Op.call { callee := Callee.builtin Builtin.append, args := #[s, x], argTypes := #[44, 44] })
    (base : Nat) (S : Nat → Prop) (A : Option Addr) (c n : Nat) (l : List Fr) (hs : a.eval s = .slice A n c) (hn : n = l.length) (ho : OwnF w base S A c l) (b off cB : Nat) (f : Fr) (B : Option Addr) (cD : Nat)
    (hx : a.eval x = .slice (some ⟨b, off, none⟩) 1 cB) (h0 : w.cell? ⟨b, off, none⟩ = some (.int .i64 f.k)) (h1 : w.cell? ⟨b, off + 1, none⟩ = some (.int .i64 f.ch)) (h2 : w.cell? ⟨b, off + 2, none⟩ = some (.slice B f.d.length cD)) (hv : Bs w (fun b => S b ∧ ¬ blk A b) B f.d) (hc1 : f.d.length ≤ cD) (hc2 : cD ≤ 9223372036854775807)
    (hlen : l.length + 1 ≤ 1099511627776) (hbase : base ≤ w.heap.size)
    (hK : ∀ A' c' w', OwnF w' base S A' c' (l ++ [f]) → Tch (blk A) w w' → (∀ b, blk A' b → blk A b ∨ w.heap.size ≤ b) → wpListIn F nF Try.prog ops Q rest (a.put o.dst (.slice A' (n + 1) c')) w') : wpListIn F nF Try.prog ops Q (o :: rest) a w := by
  subst hn
  obtain ⟨us, ho1, hv1⟩ := ho
  obtain ⟨i, hi, hz0, hz1, hz2⟩ := info_parts info52
  refine wpListIn_append_own_at w hg s x 44 hop base 52 i _ 3 40 Try.underlying44 hi hz0 hz1 hz2 rfl (by decide) (.slice A l.length c) l.length us hs ho1 ⟨b, off, none⟩ 1 cB [.int .i64 f.k, .int .i64 f.ch, .slice B f.d.length cD] hx rfl (fun j u hj => ?_) (fun u hu => ?_) (by unfold maxLen; omega) (by omega) hbase ?_
  · rw [Addr.add_lit]
    match j, hj with
    | 0, hj => cases hj; exact h0
    | 1, hj => cases hj; exact h1
    | 2, hj => cases hj; exact h2
    | (j + 3), hj => simp at hj
  · simp only [List.mem_cons, List.not_mem_nil, or_false] at hu
    rcases hu with rfl | rfl | rfl <;> rfl
  · intro v' w' hown hgrow _ hat
    obtain ⟨A', c', rfl⟩ := own_form hown
    have hT2 : Tch (blk A) w w' := (Tch.refl _ w).grown hgrow (fun k hk _ => (ownBlock_iff _ _ _ _).1 hk)
    have hat' : ∀ b, blk A' b → blk A b ∨ w.heap.size ≤ b := fun b hb => by
      have hb' := (ownBlock_iff A' (l.length + 1) c' b).2 hb
      rcases hat with h | h
      · rw [h] at hb'; exact .inl ((ownBlock_iff _ _ _ _).1 hb')
      · rw [h] at hb'; cases hb'; exact .inr (Nat.le_refl _)
    refine hK A' c' w' ⟨us ++ [.int .i64 f.k, .int .i64 f.ch, .slice B f.d.length cD], by rw [List.length_append]; exact hown, FVals.app ?_ ⟨B, cD, [], rfl, ⟨?_, hc1, hc2⟩, rfl⟩⟩ hT2 hat'
    · exact (hv1.old.tch hT2 (fun b hb => hb.1.2)).weak (fun b hb => ⟨hb.1.1, fun h => (hat' b h).elim hb.1.2 (fun h => by omega)⟩)
    · exact (hv.old.tch hT2 (fun b hb => hb.1.2)).weak (fun b hb => ⟨hb.1.1, fun h => (hat' b h).elim hb.1.2 (fun h => by omega)⟩)
end Go.Proofs.Ytaeainkfllfdfaa
/- D1: content.has, bytes.Clone, slices.Clone. -/
namespace Go.Proofs.Ytaeainkfllfdfaa
open Go.RowKit
set_option linter.unusedVariables false
set_option linter.unusedSimpArgs false
set_option maxRecDepth 100000

/-- Has a call content? -/
def bearsB (id : Int) : Bool := id == 6040 || id == 6050 || id == 6060 || id == 6071
set_option maxHeartbeats 1000000 in
theorem has50 (id : Int) (w : World) : Calls Try.prog 50 #[.int .i64 id] w fun e w' => e = .returned (.bool (bearsB id)) ∧ Still w w' := by
  go_enter Try.func50, Try.ntmps50
  cases h1 : (id == 6040) <;> cases h2 : (id == 6050) <;> cases h3 : (id == 6060) <;> cases h4 : (id == 6071)
  all_goals
    go_wp2_with fail
    go_ret
    exact ⟨by simp [bearsB, h1, h2, h3, h4], by repeat' (first | exact Tch.refl _ _ | refine Tch.drew ?_)⟩

/-- A slice of bytes of the call's own. -/
def RetBs (w : World) (bs : List UInt8) (e : Ending) (w' : World) : Prop :=
  ∃ A c, e = .returned (.slice A bs.length c) ∧ Kp (Bs w' (fun b => w.heap.size ≤ b) A bs ∧ bs.length ≤ c ∧ c ≤ 9223372036854775807) ∧ Kp (Still w w')

set_option maxHeartbeats 1000000 in
theorem clone52 (bs : List UInt8) (A : Option Addr) (c : Nat) (w : World) (S : Nat → Prop) (hB : Bs w S A bs) (hl : bs.length ≤ 140737488351232) :
    Calls Try.prog 52 #[.slice A bs.length c] w (RetBs w bs) := by
  have HB := Kp.mk hB
  have hA : A = none → bs = [] := fun h => by
    rcases hB with h' | ⟨b, o, h', _⟩
    · exact h'
    · rw [h] at h'; cases h'
  clear hB
  have qT : ∀ (w : World) (a : Option Addr) (n c n' c' : Nat), (binOp .eql 25 (.slice a n c) (.slice none n' c')).run Try.prog w = .ok (.bool a.isNone) w := fun w a n c n' c' => Lib.run_eql_slice_nil w 25 _ a n c n' c' Try.underlying25
  go_enter Try.func52, Try.ntmps52
  cases A with
  | none =>
    have hb0 := hA rfl
    subst hb0
    go_wp2_with fail
    go_ret
    exact ⟨none, 0, rfl, ⟨Bs.nil _ _ _, by simp⟩, ⟨by repeat' (first | exact Tch.refl _ _ | refine Tch.drew ?_ | refine Tch.alloc ?_ _)⟩⟩
  | some a =>
    clear hA
    go_wp2_with (at_builtin; (refine wpList_appB _ rfl _ _ rfl w.heap.size _ 0 0 _ [] rfl rfl (OwnB.made ?_ (Nat.le_refl _)) (some a) c bs rfl rfl S (HB.out.still ?_) ?_ ?_ ?_); (first | exact hn1 _ _ | exact heap_alloc_new _ _); (repeat' (first | exact Tch.refl _ _ | refine Tch.alloc ?_ _ | refine Tch.drew ?_)); (simp; omega); (simp); intro A2 c2 w2 ho2 ht2 hat2; have HO2 := Kp.mk ho2; have HT2 := Kp.mk (app_still (W := w) (by (repeat' (first | exact Tch.refl _ _ | refine Tch.alloc ?_ _ | refine Tch.drew ?_))) (Nat.le_refl _) ht2); clear ho2 ht2 hat2)
    go_ret
    simp only [List.nil_append] at HO2
    exact ⟨A2, c2, by simp, ⟨HO2.out.bs.weak (fun b hb => hb.1), HO2.out.caps⟩, HT2⟩

theorem Sl.vals {w : World} {S : Nat → Prop} {A : Option Addr} {l : L} (h : Sl w S A l) : ∃ us, Vals w S l us ∧ (l.len = 0 ∨ ∃ b o, A = some ⟨b, o, none⟩ ∧ ∀ j u, us[j]? = some u → w.cell? ⟨b, o + j, none⟩ = some u) := by
  rcases h with h | ⟨b, o, us, rfl, _, hv, hc⟩
  · have := L.len_zero h
    subst this
    exact ⟨[], rfl, .inl rfl⟩
  · exact ⟨us, hv, .inr ⟨b, o, rfl, hc⟩⟩

def RetSl (w : World) (l : L) (e : Ending) (w' : World) : Prop :=
  ∃ A c, e = .returned (.slice A l.len c) ∧ Kp (Sl w' (fun _ => True) A l) ∧ Kp (Still w w')

set_option maxHeartbeats 1000000 in
theorem clone57 (l : L) (A : Option Addr) (c : Nat) (w : World) (S : Nat → Prop) (hB : Sl w S A l) (hl : l.len ≤ 1099511627776) :
    Calls Try.prog 57 #[.slice A l.len c] w (RetSl w l) := by
  obtain ⟨us, hv0, hc0⟩ := hB.old.vals
  have HV := Kp.mk hv0
  have HC := Kp.mk (show ∀ W, Still w W → l.len = 0 ∨ ∃ b o, A = some ⟨b, o, none⟩ ∧ ∀ j u, us[j]? = some u → W.cell? ⟨b, o + j, none⟩ = some u from fun W h => hc0.imp id (fun ⟨b, o, e, hc⟩ => ⟨b, o, e, fun j u hj => h.scell (hc j u hj)⟩))
  have hA : A = none → l.len = 0 := fun h => by
    rcases hB with h' | ⟨b, o, us, h', _⟩
    · exact h'
    · rw [h] at h'; cases h'
  clear hB hc0 hv0
  have qT : ∀ (w : World) (a : Option Addr) (n c n' c' : Nat), (binOp .eql 22 (.slice a n c) (.slice none n' c')).run Try.prog w = .ok (.bool a.isNone) w := fun w a n c n' c' => Lib.run_eql_slice_nil w 22 _ a n c n' c' Try.underlying22
  go_enter Try.func57, Try.ntmps57
  cases A with
  | none =>
    have hb0 := L.len_zero (hA rfl)
    subst hb0
    go_wp2_with fail
    go_ret
    exact ⟨none, 0, rfl, ⟨Sl.nil _ _ _⟩, ⟨by repeat' (first | exact Tch.refl _ _ | refine Tch.drew ?_ | refine Tch.alloc ?_ _)⟩⟩
  | some a =>
    clear hA
    go_wp2_with (at_builtin; (refine wpList_appI _ rfl _ _ rfl w.heap.size (fun b => b < w.heap.size) (fun b => S b ∧ b < w.heap.size) _ 0 0 _ .nil l rfl rfl (OwnI.made _ ?_ (Nat.le_refl _)) (some a) c us rfl rfl (HC.out _ ?_) (HV.out.still ?_) ?_ ?_ ?_ ?_); (first | exact hn1 _ _ | exact heap_alloc_new _ _); (repeat' (first | exact Tch.refl _ _ | refine Tch.alloc ?_ _ | refine Tch.drew ?_)); (repeat' (first | exact Tch.refl _ _ | refine Tch.alloc ?_ _ | refine Tch.drew ?_)); (intro x hx _; refine ⟨hx.2, fun ⟨y, hy, e⟩ => ?_⟩; simp only [Option.some.injEq] at hy; subst hy; have := hx.2; (try dsimp only at e); omega); (simp only [L.len]; omega); (simp); intro A2 c2 w2 ho2 ht2 hat2; have HO2 := Kp.mk ho2; have HT2 := Kp.mk (app_still (W := w) (by (repeat' (first | exact Tch.refl _ _ | refine Tch.alloc ?_ _ | refine Tch.drew ?_))) (Nat.le_refl _) ht2); clear ho2 ht2 hat2)
    go_ret
    exact ⟨A2, c2, by simp, ⟨HO2.out.sl (fun _ _ => trivial) (fun _ _ => trivial)⟩, HT2⟩
end Go.Proofs.Ytaeainkfllfdfaa
/- D2: slices.Chunk: the iterator's contract. -/
namespace Go.Proofs.Ytaeainkfllfdfaa
open Go.RowKit Go.Shelf
set_option linter.unusedVariables false
set_option linter.unusedSimpArgs false
set_option maxRecDepth 100000
attribute [local go_sem] Oper.semAt_some

/-- Chunk number k of n bytes each. -/
def chunkV (b off len n k : Nat) : Value := .slice (some ⟨b, off + k * n, none⟩) (min n (len - k * n)) (min n (len - k * n))

/-- Two boxes hold what they held. -/
def Box2 (B1 B2 : Nat) (W W' : World) : Prop := (∀ v, W.cell? ⟨B1, 0, none⟩ = some v → W'.cell? ⟨B1, 0, none⟩ = some v) ∧ (∀ v, W.cell? ⟨B2, 0, none⟩ = some v → W'.cell? ⟨B2, 0, none⟩ = some v)
theorem Box2.refl (B1 B2 : Nat) (W : World) : Box2 B1 B2 W W := ⟨fun _ h => h, fun _ h => h⟩
theorem Box2.trans {B1 B2 : Nat} {A B C : World} (h : Box2 B1 B2 A B) (k : Box2 B1 B2 B C) : Box2 B1 B2 A C := ⟨fun v e => k.1 v (h.1 v e), fun v e => k.2 v (h.2 v e)⟩

set_option maxHeartbeats 2000000 in
theorem chunk81 (F : Fence) (nn : Nat) (h81 : F.fn 81) (hro : F.round = none) (hn1 : 1 ≤ nn) (l B1 B2 b off len cap n : Nat) (hn : 1 ≤ n) (hn2 : n ≤ 4096) (hlen : len ≤ 140737488351232) (hcap : len ≤ cap) (J Jx : List Nat → World → Prop)
    (hY : ∀ pre x W, J pre W → pre.length < len → YieldAt F (nn - 1) Try.prog l #[chunkV b off len n x] W fun e W' =>
      (e = .returned (.bool true) ∧ J (pre ++ [x]) W' ∧ Box2 B1 B2 W W') ∨ (e = .returned (.bool false) ∧ Jx (pre ++ [x]) W'))
    (W : World) (hB1 : W.cell? ⟨B1, 0, none⟩ = some (.slice (some ⟨b, off, none⟩) len cap)) (hB2 : W.cell? ⟨B2, 0, none⟩ = some (.int .i64 n)) (h0 : J [] W) (hJa : ∀ xs W, J xs W → J xs W.drew) :
    CallsIn F nn Try.prog 81 #[.func (.yield l) #[] #[], .pointer (some ⟨B1, 0, none⟩), .pointer (some ⟨B2, 0, none⟩)] W fun e W' => (∃ v, e = .returned v) ∧
      ((∃ xs, (∃ m, xs = List.range m ∧ len ≤ m * n ∧ ∀ k, k < m → k * n < len) ∧ J xs W') ∨ (∃ pre, True ∧ Jx pre W')) := by
  refine callsIn_of_wp Try.func81 rfl h81 ?_ hro
  simp only [Try.ntmps81, List.size_toArray, List.length_cons, List.length_nil, Nat.reduceAdd, Nat.reduceSub, Array.replicate_succ, Array.replicate_zero, List.push_toArray, List.append_toArray, List.nil_append, List.cons_append]
  gi_wp2
  gi_loopw [4] (fun i wr => ∃ k p : Nat, p = k * n ∧ i = .int .i64 p ∧ (∀ j, j < k → j * n < len) ∧ k ≤ p ∧ J (List.range k) wr ∧ Box2 B1 B2 W wr)
    (fun i _ => len + 4096 - (intOf i).toNat)
  case atStart => exact ⟨0, 0, by simp, rfl, fun j h => by omega, Nat.le_refl _, h0, Box2.refl _ _ _⟩
  case round =>
    obtain ⟨k, p, hp, rfl, hj, hkp, hJs, hbx⟩ := hrel
    have c1 := hbx.1 _ hB1
    have c2 := hbx.2 _ hB2
    by_cases hlt : p < len
    · obtain ⟨fn, tmps, assign, body, hy, hR⟩ := hY _ k wr.drew (hJa _ _ hJs) (by rw [List.length_range]; omega)
      have hmin : ∃ m, m = min n (len - p) ∧ 1 ≤ m ∧ m ≤ n ∧ p + m ≤ len := ⟨_, rfl, by omega, by omega, by omega⟩
      obtain ⟨m, hm, hm1, hm2, hm3⟩ := hmin
      simp only [chunkV, ← hp, ← hm] at hy
      have HP := Kp.mk hp
      have HM : (if len - p < n then ((len - p : Nat) : Int) else (n : Int)) = (m : Int) := by split <;> omega
      clear hp hm
      gi_wp2
      gi_region
      all_goals
        gi_wp2
        refine hR.mono ?_
        rintro e W3 (⟨rfl, hJ3, hk3⟩ | ⟨rfl, hJx3⟩)
        · have c3 := hk3.2 _ ((show wr.drew.cell? ⟨B2, 0, none⟩ = wr.cell? ⟨B2, 0, none⟩ from rfl).trans c2)
          gi_wp2
          go_roundw
          case rel => exact ⟨k + 1, p + n, by rw [HP.out, Nat.succ_mul], by go_num, fun j h => by
            rcases Nat.lt_succ_iff_lt_or_eq.1 h with h | rfl
            · exact hj j h
            · rw [← HP.out]; exact hlt, by omega, by rw [List.range_succ]; exact hJ3, hbx.trans hk3⟩
          case measure => simp [intOf]; omega
        · gi_wp2
          refine bodyPost_ret (results_none rfl _ _ _) rfl ?_
          exact ⟨⟨_, rfl⟩, .inr ⟨_, trivial, hJx3⟩⟩
    · gi_wp2
      go_end0
      exact ⟨⟨_, rfl⟩, .inl ⟨_, ⟨k, rfl, by omega, hj⟩, hJs⟩⟩

/-- .. at no bytes: no round. -/
theorem chunk81_nil (F : Fence) (nn : Nat) (h81 : F.fn 81) (hro : F.round = none) (l B1 B2 cap : Nat) (A : Option Addr) (J : List Nat → World → Prop) (W : World) (hB1 : W.cell? ⟨B1, 0, none⟩ = some (.slice A 0 cap)) (h0 : J [] W) :
    CallsIn F nn Try.prog 81 #[.func (.yield l) #[] #[], .pointer (some ⟨B1, 0, none⟩), .pointer (some ⟨B2, 0, none⟩)] W fun e W' => (∃ v, e = .returned v) ∧ J [] W' := by
  refine callsIn_of_wp Try.func81 rfl h81 ?_ hro
  simp only [Try.ntmps81, List.size_toArray, List.length_cons, List.length_nil, Nat.reduceAdd, Nat.reduceSub, Array.replicate_succ, Array.replicate_zero, List.push_toArray, List.append_toArray, List.nil_append, List.cons_append]
  gi_wp2
  gi_loopw [4] (fun i wr => i = .int .i64 0 ∧ J [] wr ∧ wr.cell? ⟨B1, 0, none⟩ = some (.slice A 0 cap)) (fun _ _ => 0)
  case atStart => exact ⟨rfl, h0, hB1⟩
  case round =>
    obtain ⟨rfl, hJs, c1⟩ := hrel
    gi_wp2
    go_end0
    exact ⟨⟨_, rfl⟩, hJs⟩

/-- What chunk number k is, of a slice that begins at A. -/
def chunkA (A : Option Addr) (len n k : Nat) : Value := .slice (A.map fun a => a.add (k * n)) (min n (len - k * n)) (min n (len - k * n))
/-- All chunks. -/
def AllChunks (len n : Nat) (xs : List Nat) : Prop := ∃ m, xs = List.range m ∧ len ≤ m * n ∧ ∀ k, k < m → k * n < len

theorem chunk_stops (F : Fence) (nn : Nat) (h81 : F.fn 81) (hro : F.round = none) (hn1 : 1 ≤ nn) (B1 B2 len cap n : Nat) (A : Option Addr) (hA : len = 0 ∨ ∃ b o, A = some ⟨b, o, none⟩) (hn : 1 ≤ n) (hn2 : n ≤ 4096) (hlen : len ≤ 140737488351232) (hcap : len ≤ cap)
    (w : World) (h1 : B1 < w.heap.size) (h2 : B2 < w.heap.size) (hB1 : w.cell? ⟨B1, 0, none⟩ = some (.slice A len cap)) (hB2 : w.cell? ⟨B2, 0, none⟩ = some (.int .i64 n)) :
    SeqStopsK F nn Try.prog 81 #[.pointer (some ⟨B1, 0, none⟩), .pointer (some ⟨B2, 0, none⟩)] (fun k : Nat => #[chunkA A len n k]) (Box2 B1 B2) (AllChunks len n) (fun _ => True) len w := fun l J Jx W hW hJ _ hY h0 => by
  have c1 := (hW.cell (p := ⟨B1, 0, none⟩) h1).trans hB1
  have c2 := (hW.cell (p := ⟨B2, 0, none⟩) h2).trans hB2
  by_cases hz : len = 0
  · subst hz
    exact (chunk81_nil F nn h81 hro l B1 B2 cap A J W c1 h0).mono fun e W' ⟨he, hj⟩ => ⟨he, .inl ⟨[], ⟨0, rfl, by omega, fun k h => by omega⟩, hj⟩⟩
  · obtain ⟨b, o, rfl⟩ := hA.resolve_left hz
    have hv : ∀ k, chunkA (some ⟨b, o, none⟩) len n k = chunkV b o len n k := fun k => by simp [chunkA, chunkV, Addr.add_lit]
    refine (chunk81 F nn h81 hro hn1 l B1 B2 b o len cap n hn hn2 hlen hcap J Jx (fun pre x W1 hj hp => by rw [← hv]; exact hY pre x W1 hj hp) W c1 c2 h0 (fun xs W hj => hJ xs W W.drew none hj ⟨rfl, rfl, rfl, Nat.le_refl _, fun k _ _ => rfl⟩ (fun r e => by cases e))).mono fun e W' ⟨he, h⟩ => ⟨he, h⟩

/-- slices.Chunk(s, n). -/
theorem chunk51 (A : Option Addr) (len cap n : Nat) (hn : 1 ≤ n) (w : World) :
    Calls Try.prog 51 #[.slice A len cap, .int .i64 n] w fun e w' => e = .returned (.func (.func 81) #[] #[.pointer (some ⟨w.heap.size, 0, none⟩), .pointer (some ⟨w.heap.size + 1, 0, none⟩)]) ∧ w' = (w.alloc (.cells #[.slice A len cap] 25)).alloc (.cells #[.int .i64 n] 3) := by
  go_enter Try.func51, Try.ntmps51
  go_wp2
  go_ret
  exact ⟨rfl, rfl⟩
end Go.Proofs.Ytaeainkfllfdfaa
/- C3: The contract of method.Put: the bytes of a call. -/
namespace Go.Proofs.Ytaeainkfllfdfaa
open Go.RowKit
set_option linter.unusedVariables false
set_option linter.unusedSimpArgs false
set_option maxRecDepth 100000

/-- The bytes ahead of part number i. -/
def M.enc0 (m : M) (i : Nat) : List UInt8 := be (u64w (m.id.tdiv 100)) 2 ++ be (u64w (m.id.tmod 100)) 2 ++ m.encPs ((partsL m.id).take i)
/-- What holds of Put's loop at its label, ahead of part number i. -/
structure PutInv (w : World) (base : Nat) (m : M) (A : Option Addr) (n : Nat) (AA : Option Addr) (la : Nat) (args : List UInt8) (i : Nat) (A' : Option Addr) (c' l4 : Nat) (wr : World) : Prop where
  len : l4 = (m.enc0 i).length
  le : i ≤ (partsL m.id).length
  own : OwnB wr base A' c' (m.enc0 i)
  at_ : MAt wr (fun b => b < w.heap.size) w.heap.size A n m
  arg : Bs wr (fun b => b < base) AA args
  argl : la = args.length
  arga : hasA m.id = true → args = m.ar.enc
  tch : Still w wr
  hb : w.heap.size < base
  hb2 : base ≤ wr.heap.size
  ok : m.putE = 0
/-- The frame there. -/
def PutJ (w : World) (m : M) (A : Option Addr) (n : Nat) (a' : Act) (wr : World) : Prop :=
  ∃ (base : Nat) (AA : Option Addr) (la ca : Nat) (args : List UInt8) (i : Nat) (A' : Option Addr) (c' l4 : Nat) (u : Nat → Value), Kp (PutInv w base m A n AA la args i A' c' l4 wr) ∧
    a' = { tmps := #[m.val A n, .pointer (some ⟨w.heap.size, 0, none⟩), .slice none 0 0, .int .i64 0, .slice A' l4 c', .slice AA la ca, .string (ps (partsL m.id)), .int .i64 (i : Int), .int .i64 0, (u 9), (u 10), (u 11), (u 12), (u 13), (u 14), (u 15), (u 16), (u 17), (u 18), (u 19), (u 20), (u 21), (u 22), (u 23), (u 24), (u 25), (u 26), (u 27), (u 28), (u 29), (u 30), (u 31), (u 32), (u 33), (u 34), (u 35), (u 36), (u 37), (u 38), (u 39), (u 40), (u 41), (u 42), (u 43), (u 44), (u 45), (u 46), (u 47), (u 48), (u 49), (u 50), (u 51), (u 52), (u 53), (u 54), (u 55), (u 56), (u 57), (u 58), (u 59), (u 60), (u 61), (u 62), (u 63), (u 64), (u 65), (u 66), (u 67), (u 68), (u 69), (u 70), (u 71), (u 72), (u 73), (u 74), (u 75), (u 76), (u 77), (u 78), (u 79), (u 80), (u 81), (u 82), (u 83), (u 84), (u 85), (u 86), (u 87), (u 88), (u 89), (u 90), (u 91), (u 92), (u 93), (u 94), (u 95), (u 96), (u 97), (u 98), (u 99), (u 100), (u 101)], defers := [] }
theorem PutJ.mk {w : World} {m : M} {A : Option Addr} {n : Nat} {a : Act} {wr : World} (base : Nat) (AA : Option Addr) (la ca : Nat) (args : List UInt8) (i : Nat) (A' : Option Addr) (c' l4 : Nat) (h : Kp (PutInv w base m A n AA la args i A' c' l4 wr))
    (e : a = { tmps := #[m.val A n, .pointer (some ⟨w.heap.size, 0, none⟩), .slice none 0 0, .int .i64 0, .slice A' l4 c', .slice AA la ca, .string (ps (partsL m.id)), .int .i64 (i : Int), .int .i64 0, a.tmps.getD 9 undef, a.tmps.getD 10 undef, a.tmps.getD 11 undef, a.tmps.getD 12 undef, a.tmps.getD 13 undef, a.tmps.getD 14 undef, a.tmps.getD 15 undef, a.tmps.getD 16 undef, a.tmps.getD 17 undef, a.tmps.getD 18 undef, a.tmps.getD 19 undef, a.tmps.getD 20 undef, a.tmps.getD 21 undef, a.tmps.getD 22 undef, a.tmps.getD 23 undef, a.tmps.getD 24 undef, a.tmps.getD 25 undef, a.tmps.getD 26 undef, a.tmps.getD 27 undef, a.tmps.getD 28 undef, a.tmps.getD 29 undef, a.tmps.getD 30 undef, a.tmps.getD 31 undef, a.tmps.getD 32 undef, a.tmps.getD 33 undef, a.tmps.getD 34 undef, a.tmps.getD 35 undef, a.tmps.getD 36 undef, a.tmps.getD 37 undef, a.tmps.getD 38 undef, a.tmps.getD 39 undef, a.tmps.getD 40 undef, a.tmps.getD 41 undef, a.tmps.getD 42 undef, a.tmps.getD 43 undef, a.tmps.getD 44 undef, a.tmps.getD 45 undef, a.tmps.getD 46 undef, a.tmps.getD 47 undef, a.tmps.getD 48 undef, a.tmps.getD 49 undef, a.tmps.getD 50 undef, a.tmps.getD 51 undef, a.tmps.getD 52 undef, a.tmps.getD 53 undef, a.tmps.getD 54 undef, a.tmps.getD 55 undef, a.tmps.getD 56 undef, a.tmps.getD 57 undef, a.tmps.getD 58 undef, a.tmps.getD 59 undef, a.tmps.getD 60 undef, a.tmps.getD 61 undef, a.tmps.getD 62 undef, a.tmps.getD 63 undef, a.tmps.getD 64 undef, a.tmps.getD 65 undef, a.tmps.getD 66 undef, a.tmps.getD 67 undef, a.tmps.getD 68 undef, a.tmps.getD 69 undef, a.tmps.getD 70 undef, a.tmps.getD 71 undef, a.tmps.getD 72 undef, a.tmps.getD 73 undef, a.tmps.getD 74 undef, a.tmps.getD 75 undef, a.tmps.getD 76 undef, a.tmps.getD 77 undef, a.tmps.getD 78 undef, a.tmps.getD 79 undef, a.tmps.getD 80 undef, a.tmps.getD 81 undef, a.tmps.getD 82 undef, a.tmps.getD 83 undef, a.tmps.getD 84 undef, a.tmps.getD 85 undef, a.tmps.getD 86 undef, a.tmps.getD 87 undef, a.tmps.getD 88 undef, a.tmps.getD 89 undef, a.tmps.getD 90 undef, a.tmps.getD 91 undef, a.tmps.getD 92 undef, a.tmps.getD 93 undef, a.tmps.getD 94 undef, a.tmps.getD 95 undef, a.tmps.getD 96 undef, a.tmps.getD 97 undef, a.tmps.getD 98 undef, a.tmps.getD 99 undef, a.tmps.getD 100 undef, a.tmps.getD 101 undef], defers := [] }) : PutJ w m A n a wr := ⟨base, AA, la, ca, args, i, A', c', l4, fun k => a.tmps.getD k undef, h, e⟩
/-- The place in the parts. -/
def placeOf : Value → Nat | .int _ i => i.toNat | _ => 0

theorem M.enc0_succ (m : M) (i : Nat) (h : i < (partsL m.id).length) : m.enc0 (i + 1) = m.enc0 i ++ m.encP (partsL m.id)[i] := by
  unfold M.enc0
  rw [List.take_succ_eq_append_getElem h, M.encPs_app, M.encPs, M.encPs, List.append_nil]
  simp only [List.append_assoc]
theorem M.enc0_zero (m : M) : m.enc0 0 = be (u64w (m.id.tdiv 100)) 2 ++ be (u64w (m.id.tmod 100)) 2 := by simp [M.enc0, M.encPs]
theorem M.enc0_all (m : M) (i : Nat) (h : (partsL m.id).length ≤ i) : m.enc0 i = m.enc := by
  unfold M.enc0 M.enc
  rw [List.take_of_length_le h]
theorem encP_le (m : M) (hm : m.mayB = true) (hput : m.putE = 0) (c : UInt8) (hc : c ∈ partsL m.id) : (m.encP c).length ≤ 3000 := by
  obtain ⟨h1, h2⟩ := (M.mayB_iff m).1 hm
  obtain ⟨g1, g2, g3, g4, _⟩ := parts_a m.id h1
  have hr := h2 c (g1 c hc)
  simp only [M.okAt, Bool.and_eq_true] at hr
  unfold M.encP
  split
  · simp [be_length]
  split
  · simp [be_length]
  split
  · simp [be_length]
  split
  · simp
  split
  · simp
  split
  · rename_i h97
    subst h97
    cases ha : hasA m.id with
    | false => exact absurd hc (g4 ha)
    | true =>
      unfold M.putE at hput
      rw [hm, ha] at hput
      simp only [if_true] at hput
      by_cases hl : 3000 < m.ar.enc.length
      · rw [if_pos hl] at hput; cases hput
      · omega
  · rename_i x1 x2 x3 x4 x5 x6
    have hr2 := hr.2
    unfold M.rightB at hr2
    rw [if_neg x1, if_neg x2, if_neg (by simp [x3, x4, x5]), if_neg x6] at hr2
    have := of_decide_eq_true hr2
    have e : (m.txt c).data.size = (m.txt c).size := rfl
    simp
    omega
theorem enc0_le (m : M) (hm : m.mayB = true) (hput : m.putE = 0) (hn : (partsL m.id).length ≤ 5) : ∀ i, i ≤ (partsL m.id).length → (m.enc0 i).length ≤ 4 + 3000 * i
  | 0, _ => by simp [M.enc0, be_length, M.encPs]
  | i + 1, h => by
    have := enc0_le m hm hput hn i (by omega)
    have h2 := encP_le m hm hput _ (List.getElem_mem (show i < (partsL m.id).length by omega))
    rw [M.enc0_succ m i (by omega), List.length_append]
    omega
theorem id_wraps {id : Int} (h1 : 2010 ≤ id) (h2 : id ≤ 9031) : IntKind.i64.wrap (id.tdiv 100) = id / 100 ∧ IntKind.i64.wrap (id.tmod 100) = id % 100 ∧ id.tmod 100 = id % 100 ∧ IntKind.u64.wrap (id / 100) = id / 100 ∧ IntKind.u64.wrap (id % 100) = id % 100 := by
  rw [Int.tdiv_eq_ediv_of_nonneg (by omega), Int.tmod_eq_emod_of_nonneg (by omega)]
  simp only [IntKind.wrap, IntKind.signed, IntKind.bits]
  simp
  omega
theorem OwnB.mono' {w : World} {base base' : Nat} {A : Option Addr} {c : Nat} {bs : List UInt8} (h : OwnB w base A c bs) (hb : base' ≤ base) : OwnB w base' A c bs := h.mono (fun b hk => Nat.le_trans hb (h.base hk).1)
theorem id_bytes {id : Int} (h1 : 2010 ≤ id) (h2 : id ≤ 9031) : u64w (id.tdiv 100) = (id / 100).toNat ∧ u64w (id.tmod 100) = (id % 100).toNat := by
  have e1 : id.tdiv 100 = id / 100 := Int.tdiv_eq_ediv_of_nonneg (by omega)
  have e2 : id.tmod 100 = id % 100 := Int.tmod_eq_emod_of_nonneg (by omega)
  rw [e1, e2]
  have k1 := u64w_mod (id / 100)
  have k2 := u64w_mod (id % 100)
  constructor <;> omega

set_option maxHeartbeats 8000000 in
theorem put35 (m : M) (hO : m.Ok) (S : Nat → Prop) (A : Option Addr) (n : Nat) (w : World) (hS : Sl w S A m.ar) :
    Calls Try.prog 35 #[m.val A n] w (RetPut w m.putB m.putE) := by
  have HM := Kp.mk (MAt.new (c := n) m (hS.old.weak (fun b hb => hb.2)))
  have HO := Kp.mk hO; clear hO
  have HS := Kp.mk hS; clear hS
  cases hm : m.mayB with
  | false =>
    have HE := Kp.mk (show m.putE = 1 ∧ m.putB = [] by simp [M.putE, M.putB, hm])
    go_enter Try.func35, Try.ntmps35
    go_wp2_with fail
    refine wp_scope_loop 0 (fun _ _ => False) (fun _ _ => 0) rfl (fun _ _ h => h.elim) (fun _ => ?_)
    go_wp2_with fail
    refine (may32 m HO.out S A n _ (HS.out.still ((Still.refl _).alloc _))).mono ?_
    rintro e w1 ⟨rfl, ht1⟩
    rw [hm]
    have HT1 := Kp.mk (((Still.refl w).alloc _).strans ht1); clear ht1 hm
    go_wp2_with fail
    simp only [Exit.jump]
    go_ret2
    rw [HE.out.1, HE.out.2]
    exact ⟨none, 0, rfl, OwnB.nil _ _, HT1.out⟩
  | true =>
    have hne := ((M.mayB_iff m).1 hm).1
    obtain ⟨g1, g2, g3, g4, g5, g6, g7, g8⟩ := parts_a m.id hne
    have HG := Kp.mk g1; have HG3 := Kp.mk g3; have HG4 := Kp.mk g4
    have HNE := Kp.mk hne
    have HMB := Kp.mk hm
    have hlen := g2
    clear g1 g3 g4 hne
    go_enter Try.func35, Try.ntmps35
    go_wp2_with fail
    refine wp_scope_loop 0 (PutJ w m A n) (fun a' _ => 6 - placeOf (a'.tmps.getD 7 undef)) rfl ?_ ?_
    · rintro a' wr ⟨base, AA, la, ca, args, i, A', c', l4, u, ⟨HI⟩, rfl⟩
      obtain rfl := HI.len
      by_cases hlt : i < (partsL m.id).length
      · obtain ⟨c, hc⟩ : ∃ c, (partsL m.id)[i] = c := ⟨_, rfl⟩
        have hcl : c ∈ lettersL := HG.out c (by rw [← hc]; exact List.getElem_mem _)
        have hcp : c ∈ partsL m.id := by rw [← hc]; exact List.getElem_mem _
        have HE1 := Kp.mk (show m.enc0 (i + 1) = m.enc0 i ++ m.encP c by rw [M.enc0_succ m i hlt, hc])
        have hl0 := enc0_le m HMB.out HI.ok hlen i (by omega)
        have hps := ps_size (partsL m.id)
        have hib : i < (ps (partsL m.id)).size := by omega
        have hne : ((i : Int) == ((ps (partsL m.id)).size : Int)) = false := by rw [beq_eq_false_iff_ne]; omega
        have hci : (ps (partsL m.id))[i]'hib = c := by rw [← hc]; rfl
        have HRT := Kp.mk (show m.okAt (partsL m.id) c = true from ((M.mayB_iff m).1 HMB.out).2 c hcl)
        have HCP := Kp.mk hcp
        have hb2 := HI.hb2; have hbw := HI.hb
        have HOW := Kp.mk HI.own
        have HARG := Kp.mk HI.arg; have HAL := Kp.mk HI.argl; have HARGA := Kp.mk HI.arga
        have HF := Kp.mk (show ∀ A2 c2 l4 w2, l4 = (m.enc0 (i + 1)).length → OwnB w2 base A2 c2 (m.enc0 i ++ m.encP c) → Tch (blk A') wr w2 → (∀ b, blk A2 b → blk A' b ∨ wr.heap.size ≤ b) → Kp (PutInv w base m A n AA la args (i + 1) A2 c2 l4 w2) from fun A2 c2 l4 w2 h0 h1 h2 h3 =>
          ⟨⟨h0, by omega, by rw [HE1.out]; exact h1, HI.at_.tch h2 (fun h => by have := (HI.own.base h).1; omega) (fun b hb h => by have := (HI.own.base h).1; omega), HI.arg.tch h2 (fun b hb h => by have := (HI.own.base h).1; omega), HI.argl, HI.arga, HI.tch.trans h2 (fun b hb h => by have := (HI.own.base h).1; omega), HI.hb, Nat.le_trans HI.hb2 h2.size, HI.ok⟩⟩)
        clear hps hc
        have hcl2 := letters_five hcl
        clear hcl hcp
        rcases hcl2 with rfl | rfl | rfl | rfl | rfl | rfl | rfl | rfl | rfl | rfl | rfl
        · have h0 := HI.at_.co
          have HV := Kp.mk (show 0 ≤ IntKind.u64.wrap m.co ∧ IntKind.u64.wrap m.co < 18446744073709551616 by rw [u64w_eq]; exact ⟨by omega, u64w_lt _⟩)
          clear HI
          go_wp2_with fail
          refine (num63 A' c' (m.enc0 i) _ 2 _ base _ wr rfl rfl (by omega) ?_ ?_ HOW.out hb2 (by omega)).mono ?_
          · exact HV.out.1
          · exact HV.out.2
          rintro e w2 ⟨A2, c2, rfl, ho2, ht2, hat2⟩
          have HO2 := Kp.mk (show OwnB w2 base A2 c2 (m.enc0 i ++ m.encP 99) from ho2); have HT2 := Kp.mk ht2; have HA2 := Kp.mk hat2
          have HLN := Kp.mk (show (m.enc0 (i + 1)).length = (m.enc0 i).length + (be (u64w m.co) 2).length by rw [HE1.out, List.length_append]; rfl)
          clear ho2 ht2 hat2
          go_wp2_with fail
          go_step3
          show _ ∧ _
          exact ⟨rfl, PutJ.mk base AA _ ca _ (i + 1) A2 c2 _ (HF.out A2 c2 _ w2 HLN.out.symm HO2.out HT2.out HA2.out) rfl, (by show 6 - ((i : Int) + 1).toNat < 6 - (i : Int).toNat; omega)⟩
        · have h0 := HI.at_.cn
          have HV := Kp.mk (show 0 ≤ IntKind.u64.wrap m.cn ∧ IntKind.u64.wrap m.cn < 18446744073709551616 by rw [u64w_eq]; exact ⟨by omega, u64w_lt _⟩)
          clear HI
          go_wp2_with fail
          refine (num63 A' c' (m.enc0 i) _ 4 _ base _ wr rfl rfl (by omega) ?_ ?_ HOW.out hb2 (by omega)).mono ?_
          · exact HV.out.1
          · exact HV.out.2
          rintro e w2 ⟨A2, c2, rfl, ho2, ht2, hat2⟩
          have HO2 := Kp.mk (show OwnB w2 base A2 c2 (m.enc0 i ++ m.encP 117) from ho2); have HT2 := Kp.mk ht2; have HA2 := Kp.mk hat2
          have HLN := Kp.mk (show (m.enc0 (i + 1)).length = (m.enc0 i).length + (be (u64w m.cn) 4).length by rw [HE1.out, List.length_append]; rfl)
          clear ho2 ht2 hat2
          go_wp2_with fail
          go_step3
          show _ ∧ _
          exact ⟨rfl, PutJ.mk base AA _ ca _ (i + 1) A2 c2 _ (HF.out A2 c2 _ w2 HLN.out.symm HO2.out HT2.out HA2.out) rfl, (by show 6 - ((i : Int) + 1).toNat < 6 - (i : Int).toNat; omega)⟩
        · have h0 := HI.at_.tg
          have HV := Kp.mk (show 0 ≤ m.tg ∧ m.tg < 18446744073709551616 from ⟨HO.out.tg1, HO.out.tg2⟩)
          clear HI
          go_wp2_with fail
          refine (num63 A' c' (m.enc0 i) _ 8 _ base _ wr rfl rfl (by omega) ?_ ?_ HOW.out hb2 (by omega)).mono ?_
          · exact HV.out.1
          · exact HV.out.2
          rintro e w2 ⟨A2, c2, rfl, ho2, ht2, hat2⟩
          have HO2 := Kp.mk (show OwnB w2 base A2 c2 (m.enc0 i ++ m.encP 116) from ho2); have HT2 := Kp.mk ht2; have HA2 := Kp.mk hat2
          have HLN := Kp.mk (show (m.enc0 (i + 1)).length = (m.enc0 i).length + (be m.tg.toNat 8).length by rw [HE1.out, List.length_append]; rfl)
          clear ho2 ht2 hat2
          go_wp2_with fail
          go_step3
          show _ ∧ _
          exact ⟨rfl, PutJ.mk base AA _ ca _ (i + 1) A2 c2 _ (HF.out A2 c2 _ w2 HLN.out.symm HO2.out HT2.out HA2.out) rfl, (by show 6 - ((i : Int) + 1).toNat < 6 - (i : Int).toNat; omega)⟩
        · have h0 := HI.at_.fl
          clear HI
          go_wp2_with fail
          refine (flag64 m.fl wr).mono ?_
          rintro e w2 ⟨rfl, rfl⟩
          obtain ⟨fb, hfb⟩ : ∃ fb : UInt8, (if m.fl then 1 else 0 : UInt8) = fb := ⟨_, rfl⟩
          rw [hfb]
          have HFB := Kp.mk hfb; clear hfb
          go_wp2_with (at_builtin; (refine wpList_appB _ rfl _ _ rfl base A' c' _ 1 (m.enc0 i) rfl rfl (HOW.out.still ((Still.refl _).alloc _)) (some ⟨wr.heap.size, 0, none⟩) 1 [fb] rfl rfl (fun _ => True) (Bs.one _ _ _ trivial (new_one _ _ _)) ?_ ?_ ?_); (simp only [List.length_cons, List.length_nil]; omega); (simp only [World.size_alloc]; omega); intro A2 c2 w2 ho2 ht2 hat2; have HO2 := Kp.mk (show OwnB w2 base A2 c2 (m.enc0 i ++ m.encP 102) by rw [show m.encP 102 = [fb] by rw [← HFB.out]; rfl]; exact ho2); have HT2 := Kp.mk (show Tch (blk A') wr w2 from ((Still.refl wr).alloc _).of_still.trans ht2 (fun b _ h => h)); have HA2 := Kp.mk (show ∀ b, blk A2 b → blk A' b ∨ wr.heap.size ≤ b from fun b hb => (hat2 b hb).imp id (fun h => by simp only [World.size_alloc] at h; omega)); have HLN := Kp.mk (show (m.enc0 (i + 1)).length = (m.enc0 i).length + 1 by rw [HE1.out, List.length_append]; rfl); clear ho2 ht2 hat2)
          go_step3
          show _ ∧ _
          exact ⟨rfl, PutJ.mk base AA _ ca _ (i + 1) A2 c2 _ (HF.out A2 c2 _ w2 HLN.out.symm HO2.out HT2.out HA2.out) rfl, (by show 6 - ((i : Int) + 1).toNat < 6 - (i : Int).toNat; omega)⟩
        · have h0 := HI.at_.bk
          clear HI
          go_wp2_with fail
          refine (flag64 m.bk wr).mono ?_
          rintro e w2 ⟨rfl, rfl⟩
          obtain ⟨fb, hfb⟩ : ∃ fb : UInt8, (if m.bk then 1 else 0 : UInt8) = fb := ⟨_, rfl⟩
          rw [hfb]
          have HFB := Kp.mk hfb; clear hfb
          go_wp2_with (at_builtin; (refine wpList_appB _ rfl _ _ rfl base A' c' _ 1 (m.enc0 i) rfl rfl (HOW.out.still ((Still.refl _).alloc _)) (some ⟨wr.heap.size, 0, none⟩) 1 [fb] rfl rfl (fun _ => True) (Bs.one _ _ _ trivial (new_one _ _ _)) ?_ ?_ ?_); (simp only [List.length_cons, List.length_nil]; omega); (simp only [World.size_alloc]; omega); intro A2 c2 w2 ho2 ht2 hat2; have HO2 := Kp.mk (show OwnB w2 base A2 c2 (m.enc0 i ++ m.encP 98) by rw [show m.encP 98 = [fb] by rw [← HFB.out]; rfl]; exact ho2); have HT2 := Kp.mk (show Tch (blk A') wr w2 from ((Still.refl wr).alloc _).of_still.trans ht2 (fun b _ h => h)); have HA2 := Kp.mk (show ∀ b, blk A2 b → blk A' b ∨ wr.heap.size ≤ b from fun b hb => (hat2 b hb).imp id (fun h => by simp only [World.size_alloc] at h; omega)); have HLN := Kp.mk (show (m.enc0 (i + 1)).length = (m.enc0 i).length + 1 by rw [HE1.out, List.length_append]; rfl); clear ho2 ht2 hat2)
          go_step3
          show _ ∧ _
          exact ⟨rfl, PutJ.mk base AA _ ca _ (i + 1) A2 c2 _ (HF.out A2 c2 _ w2 HLN.out.symm HO2.out HT2.out HA2.out) rfl, (by show 6 - ((i : Int) + 1).toNat < 6 - (i : Int).toNat; omega)⟩
        · have hha : hasA m.id = true := by
            cases h : hasA m.id with
            | true => rfl
            | false => exact absurd HCP.out (HG4.out h)
          have hael := HARGA.out hha
          have hle3 := encP_le m HMB.out HI.ok 97 HCP.out
          change m.ar.enc.length ≤ 3000 at hle3
          subst hael
          clear HI hha
          go_wp2_with (at_builtin; (refine wpList_appB _ rfl _ _ rfl base A' c' _ _ (m.enc0 i) rfl rfl HOW.out AA ca m.ar.enc rfl HAL.out _ HARG.out ?_ ?_ ?_); (omega); (omega); intro A2 c2 w2 ho2 ht2 hat2; have HO2 := Kp.mk (show OwnB w2 base A2 c2 (m.enc0 i ++ m.encP 97) from ho2); have HT2 := Kp.mk ht2; have HA2 := Kp.mk hat2; have HLN := Kp.mk (show (m.enc0 (i + 1)).length = (m.enc0 i).length + la by rw [HE1.out, List.length_append, HAL.out]; rfl); clear ho2 ht2 hat2)
          go_step3
          show _ ∧ _
          exact ⟨rfl, PutJ.mk base AA _ ca _ (i + 1) A2 c2 _ (HF.out A2 c2 _ w2 HLN.out.symm HO2.out HT2.out HA2.out) rfl, (by show 6 - ((i : Int) + 1).toNat < 6 - (i : Int).toNat; omega)⟩
        · have h0 := HI.at_.nm
          clear HI
          have hs255 := HRT.out
          replace hs255 : m.nm.size ≤ 255 := by simp [M.okAt, M.rightB, M.txt] at hs255; exact hs255.2
          have HU8 := Kp.mk (show ((UInt8.ofNat m.nm.size).toNat : Int) = (m.nm.size : Int) by rw [UInt8.toNat_ofNat', Nat.mod_eq_of_lt (by omega)])
          go_wp2_with fail
          refine (part65 w.heap.size 110 wr (by decide)).mono ?_
          rintro e w2 ⟨rfl, rfl⟩
          rw [show fieldOf 110 = 1 from rfl]
          go_wp2_with (first
            | (at_builtin; (refine wpList_appB _ rfl (.tmp 51) (.tmp 55) rfl base A' c' _ 1 (m.enc0 i) rfl rfl (HOW.out.still ((Still.refl _).alloc _)) (some ⟨wr.heap.size, 0, none⟩) 1 [UInt8.ofNat m.nm.size] rfl rfl (fun _ => True) (Bs.one _ _ _ trivial ?_) ?_ ?_ ?_); (rw [HU8.out]; exact new_one _ _ _); (simp only [List.length_cons, List.length_nil]; omega); (simp only [World.size_alloc]; omega); intro A5 c5 w5 ho5 ht5 hat5; have HO5 := Kp.mk ho5; have HT5 := Kp.mk (show Tch (blk A') wr w5 from ((Still.refl wr).alloc _).of_still.trans ht5 (fun b _ h => h)); have HA5 := Kp.mk (show ∀ b, blk A5 b → blk A' b ∨ wr.heap.size ≤ b from fun b hb => (hat5 b hb).imp id (fun h => by simp only [World.size_alloc] at h; omega)); clear ho5 ht5 hat5)
            | (at_builtin; (refine wpList_appS _ rfl (.tmp 56) (.tmp 57) rfl base A5 c5 _ (m.enc0 i ++ [UInt8.ofNat m.nm.size]) rfl ?_ HO5.out m.nm rfl ?_ ?_ ?_); (simp); (simp only [List.length_append, List.length_cons, List.length_nil]; omega); (have := HT5.out.size; omega); intro A2 c2 w2 ho2 ht2 hat2; have HO2 := Kp.mk (show OwnB w2 base A2 c2 (m.enc0 i ++ m.encP 110) by rw [show m.enc0 i ++ m.encP 110 = m.enc0 i ++ [UInt8.ofNat m.nm.size] ++ m.nm.data.toList by rw [List.append_assoc]; rfl]; exact ho2); have HT2 := Kp.mk (show Tch (blk A') wr w2 from HT5.out.trans ht2 (fun b hb h => (HA5.out b h).resolve_right (by omega))); have HA2 := Kp.mk (show ∀ b, blk A2 b → blk A' b ∨ wr.heap.size ≤ b from fun b hb => by { have hz5 := HT5.out.size; rcases hat2 b hb with h | h; exact HA5.out b h; exact .inr (by omega) }); have HLN := Kp.mk (show (m.enc0 (i + 1)).length = (m.enc0 i).length + 1 + m.nm.size by rw [HE1.out, List.length_append, Nat.add_assoc]; congr 1; show (UInt8.ofNat m.nm.size :: m.nm.data.toList).length = 1 + m.nm.size; rw [List.length_cons, Array.length_toList]; exact Nat.add_comm _ _); clear ho2 ht2 hat2))
          go_step3
          show _ ∧ _
          exact ⟨rfl, PutJ.mk base AA _ ca _ (i + 1) A2 c2 _ (HF.out A2 c2 _ w2 HLN.out.symm HO2.out HT2.out HA2.out) rfl, (by show 6 - ((i : Int) + 1).toNat < 6 - (i : Int).toNat; omega)⟩
        · have h0 := HI.at_.ty
          clear HI
          have hs255 := HRT.out
          replace hs255 : m.ty.size ≤ 255 := by simp [M.okAt, M.rightB, M.txt] at hs255; exact hs255.2
          have HU8 := Kp.mk (show ((UInt8.ofNat m.ty.size).toNat : Int) = (m.ty.size : Int) by rw [UInt8.toNat_ofNat', Nat.mod_eq_of_lt (by omega)])
          go_wp2_with fail
          refine (part65 w.heap.size 121 wr (by decide)).mono ?_
          rintro e w2 ⟨rfl, rfl⟩
          rw [show fieldOf 121 = 2 from rfl]
          go_wp2_with (first
            | (at_builtin; (refine wpList_appB _ rfl (.tmp 51) (.tmp 55) rfl base A' c' _ 1 (m.enc0 i) rfl rfl (HOW.out.still ((Still.refl _).alloc _)) (some ⟨wr.heap.size, 0, none⟩) 1 [UInt8.ofNat m.ty.size] rfl rfl (fun _ => True) (Bs.one _ _ _ trivial ?_) ?_ ?_ ?_); (rw [HU8.out]; exact new_one _ _ _); (simp only [List.length_cons, List.length_nil]; omega); (simp only [World.size_alloc]; omega); intro A5 c5 w5 ho5 ht5 hat5; have HO5 := Kp.mk ho5; have HT5 := Kp.mk (show Tch (blk A') wr w5 from ((Still.refl wr).alloc _).of_still.trans ht5 (fun b _ h => h)); have HA5 := Kp.mk (show ∀ b, blk A5 b → blk A' b ∨ wr.heap.size ≤ b from fun b hb => (hat5 b hb).imp id (fun h => by simp only [World.size_alloc] at h; omega)); clear ho5 ht5 hat5)
            | (at_builtin; (refine wpList_appS _ rfl (.tmp 56) (.tmp 57) rfl base A5 c5 _ (m.enc0 i ++ [UInt8.ofNat m.ty.size]) rfl ?_ HO5.out m.ty rfl ?_ ?_ ?_); (simp); (simp only [List.length_append, List.length_cons, List.length_nil]; omega); (have := HT5.out.size; omega); intro A2 c2 w2 ho2 ht2 hat2; have HO2 := Kp.mk (show OwnB w2 base A2 c2 (m.enc0 i ++ m.encP 121) by rw [show m.enc0 i ++ m.encP 121 = m.enc0 i ++ [UInt8.ofNat m.ty.size] ++ m.ty.data.toList by rw [List.append_assoc]; rfl]; exact ho2); have HT2 := Kp.mk (show Tch (blk A') wr w2 from HT5.out.trans ht2 (fun b hb h => (HA5.out b h).resolve_right (by omega))); have HA2 := Kp.mk (show ∀ b, blk A2 b → blk A' b ∨ wr.heap.size ≤ b from fun b hb => by { have hz5 := HT5.out.size; rcases hat2 b hb with h | h; exact HA5.out b h; exact .inr (by omega) }); have HLN := Kp.mk (show (m.enc0 (i + 1)).length = (m.enc0 i).length + 1 + m.ty.size by rw [HE1.out, List.length_append, Nat.add_assoc]; congr 1; show (UInt8.ofNat m.ty.size :: m.ty.data.toList).length = 1 + m.ty.size; rw [List.length_cons, Array.length_toList]; exact Nat.add_comm _ _); clear ho2 ht2 hat2))
          go_step3
          show _ ∧ _
          exact ⟨rfl, PutJ.mk base AA _ ca _ (i + 1) A2 c2 _ (HF.out A2 c2 _ w2 HLN.out.symm HO2.out HT2.out HA2.out) rfl, (by show 6 - ((i : Int) + 1).toNat < 6 - (i : Int).toNat; omega)⟩
        · have h0 := HI.at_.ex
          clear HI
          have hs255 := HRT.out
          replace hs255 : m.ex.size ≤ 255 := by simp [M.okAt, M.rightB, M.txt] at hs255; exact hs255.2
          have HU8 := Kp.mk (show ((UInt8.ofNat m.ex.size).toNat : Int) = (m.ex.size : Int) by rw [UInt8.toNat_ofNat', Nat.mod_eq_of_lt (by omega)])
          go_wp2_with fail
          refine (part65 w.heap.size 101 wr (by decide)).mono ?_
          rintro e w2 ⟨rfl, rfl⟩
          rw [show fieldOf 101 = 3 from rfl]
          go_wp2_with (first
            | (at_builtin; (refine wpList_appB _ rfl (.tmp 51) (.tmp 55) rfl base A' c' _ 1 (m.enc0 i) rfl rfl (HOW.out.still ((Still.refl _).alloc _)) (some ⟨wr.heap.size, 0, none⟩) 1 [UInt8.ofNat m.ex.size] rfl rfl (fun _ => True) (Bs.one _ _ _ trivial ?_) ?_ ?_ ?_); (rw [HU8.out]; exact new_one _ _ _); (simp only [List.length_cons, List.length_nil]; omega); (simp only [World.size_alloc]; omega); intro A5 c5 w5 ho5 ht5 hat5; have HO5 := Kp.mk ho5; have HT5 := Kp.mk (show Tch (blk A') wr w5 from ((Still.refl wr).alloc _).of_still.trans ht5 (fun b _ h => h)); have HA5 := Kp.mk (show ∀ b, blk A5 b → blk A' b ∨ wr.heap.size ≤ b from fun b hb => (hat5 b hb).imp id (fun h => by simp only [World.size_alloc] at h; omega)); clear ho5 ht5 hat5)
            | (at_builtin; (refine wpList_appS _ rfl (.tmp 56) (.tmp 57) rfl base A5 c5 _ (m.enc0 i ++ [UInt8.ofNat m.ex.size]) rfl ?_ HO5.out m.ex rfl ?_ ?_ ?_); (simp); (simp only [List.length_append, List.length_cons, List.length_nil]; omega); (have := HT5.out.size; omega); intro A2 c2 w2 ho2 ht2 hat2; have HO2 := Kp.mk (show OwnB w2 base A2 c2 (m.enc0 i ++ m.encP 101) by rw [show m.enc0 i ++ m.encP 101 = m.enc0 i ++ [UInt8.ofNat m.ex.size] ++ m.ex.data.toList by rw [List.append_assoc]; rfl]; exact ho2); have HT2 := Kp.mk (show Tch (blk A') wr w2 from HT5.out.trans ht2 (fun b hb h => (HA5.out b h).resolve_right (by omega))); have HA2 := Kp.mk (show ∀ b, blk A2 b → blk A' b ∨ wr.heap.size ≤ b from fun b hb => by { have hz5 := HT5.out.size; rcases hat2 b hb with h | h; exact HA5.out b h; exact .inr (by omega) }); have HLN := Kp.mk (show (m.enc0 (i + 1)).length = (m.enc0 i).length + 1 + m.ex.size by rw [HE1.out, List.length_append, Nat.add_assoc]; congr 1; show (UInt8.ofNat m.ex.size :: m.ex.data.toList).length = 1 + m.ex.size; rw [List.length_cons, Array.length_toList]; exact Nat.add_comm _ _); clear ho2 ht2 hat2))
          go_step3
          show _ ∧ _
          exact ⟨rfl, PutJ.mk base AA _ ca _ (i + 1) A2 c2 _ (HF.out A2 c2 _ w2 HLN.out.symm HO2.out HT2.out HA2.out) rfl, (by show 6 - ((i : Int) + 1).toNat < 6 - (i : Int).toNat; omega)⟩
        · have h0 := HI.at_.ky
          clear HI
          have hs255 := HRT.out
          replace hs255 : m.ky.size ≤ 255 := by simp [M.okAt, M.rightB, M.txt] at hs255; exact hs255.2
          have HU8 := Kp.mk (show ((UInt8.ofNat m.ky.size).toNat : Int) = (m.ky.size : Int) by rw [UInt8.toNat_ofNat', Nat.mod_eq_of_lt (by omega)])
          go_wp2_with fail
          refine (part65 w.heap.size 107 wr (by decide)).mono ?_
          rintro e w2 ⟨rfl, rfl⟩
          rw [show fieldOf 107 = 4 from rfl]
          go_wp2_with (first
            | (at_builtin; (refine wpList_appB _ rfl (.tmp 51) (.tmp 55) rfl base A' c' _ 1 (m.enc0 i) rfl rfl (HOW.out.still ((Still.refl _).alloc _)) (some ⟨wr.heap.size, 0, none⟩) 1 [UInt8.ofNat m.ky.size] rfl rfl (fun _ => True) (Bs.one _ _ _ trivial ?_) ?_ ?_ ?_); (rw [HU8.out]; exact new_one _ _ _); (simp only [List.length_cons, List.length_nil]; omega); (simp only [World.size_alloc]; omega); intro A5 c5 w5 ho5 ht5 hat5; have HO5 := Kp.mk ho5; have HT5 := Kp.mk (show Tch (blk A') wr w5 from ((Still.refl wr).alloc _).of_still.trans ht5 (fun b _ h => h)); have HA5 := Kp.mk (show ∀ b, blk A5 b → blk A' b ∨ wr.heap.size ≤ b from fun b hb => (hat5 b hb).imp id (fun h => by simp only [World.size_alloc] at h; omega)); clear ho5 ht5 hat5)
            | (at_builtin; (refine wpList_appS _ rfl (.tmp 56) (.tmp 57) rfl base A5 c5 _ (m.enc0 i ++ [UInt8.ofNat m.ky.size]) rfl ?_ HO5.out m.ky rfl ?_ ?_ ?_); (simp); (simp only [List.length_append, List.length_cons, List.length_nil]; omega); (have := HT5.out.size; omega); intro A2 c2 w2 ho2 ht2 hat2; have HO2 := Kp.mk (show OwnB w2 base A2 c2 (m.enc0 i ++ m.encP 107) by rw [show m.enc0 i ++ m.encP 107 = m.enc0 i ++ [UInt8.ofNat m.ky.size] ++ m.ky.data.toList by rw [List.append_assoc]; rfl]; exact ho2); have HT2 := Kp.mk (show Tch (blk A') wr w2 from HT5.out.trans ht2 (fun b hb h => (HA5.out b h).resolve_right (by omega))); have HA2 := Kp.mk (show ∀ b, blk A2 b → blk A' b ∨ wr.heap.size ≤ b from fun b hb => by { have hz5 := HT5.out.size; rcases hat2 b hb with h | h; exact HA5.out b h; exact .inr (by omega) }); have HLN := Kp.mk (show (m.enc0 (i + 1)).length = (m.enc0 i).length + 1 + m.ky.size by rw [HE1.out, List.length_append, Nat.add_assoc]; congr 1; show (UInt8.ofNat m.ky.size :: m.ky.data.toList).length = 1 + m.ky.size; rw [List.length_cons, Array.length_toList]; exact Nat.add_comm _ _); clear ho2 ht2 hat2))
          go_step3
          show _ ∧ _
          exact ⟨rfl, PutJ.mk base AA _ ca _ (i + 1) A2 c2 _ (HF.out A2 c2 _ w2 HLN.out.symm HO2.out HT2.out HA2.out) rfl, (by show 6 - ((i : Int) + 1).toNat < 6 - (i : Int).toNat; omega)⟩
        · have h0 := HI.at_.tx
          clear HI
          have hs255 := HRT.out
          replace hs255 : m.tx.size ≤ 255 := by simp [M.okAt, M.rightB, M.txt] at hs255; exact hs255.2
          have HU8 := Kp.mk (show ((UInt8.ofNat m.tx.size).toNat : Int) = (m.tx.size : Int) by rw [UInt8.toNat_ofNat', Nat.mod_eq_of_lt (by omega)])
          go_wp2_with fail
          refine (part65 w.heap.size 120 wr (by decide)).mono ?_
          rintro e w2 ⟨rfl, rfl⟩
          rw [show fieldOf 120 = 5 from rfl]
          go_wp2_with (first
            | (at_builtin; (refine wpList_appB _ rfl (.tmp 51) (.tmp 55) rfl base A' c' _ 1 (m.enc0 i) rfl rfl (HOW.out.still ((Still.refl _).alloc _)) (some ⟨wr.heap.size, 0, none⟩) 1 [UInt8.ofNat m.tx.size] rfl rfl (fun _ => True) (Bs.one _ _ _ trivial ?_) ?_ ?_ ?_); (rw [HU8.out]; exact new_one _ _ _); (simp only [List.length_cons, List.length_nil]; omega); (simp only [World.size_alloc]; omega); intro A5 c5 w5 ho5 ht5 hat5; have HO5 := Kp.mk ho5; have HT5 := Kp.mk (show Tch (blk A') wr w5 from ((Still.refl wr).alloc _).of_still.trans ht5 (fun b _ h => h)); have HA5 := Kp.mk (show ∀ b, blk A5 b → blk A' b ∨ wr.heap.size ≤ b from fun b hb => (hat5 b hb).imp id (fun h => by simp only [World.size_alloc] at h; omega)); clear ho5 ht5 hat5)
            | (at_builtin; (refine wpList_appS _ rfl (.tmp 56) (.tmp 57) rfl base A5 c5 _ (m.enc0 i ++ [UInt8.ofNat m.tx.size]) rfl ?_ HO5.out m.tx rfl ?_ ?_ ?_); (simp); (simp only [List.length_append, List.length_cons, List.length_nil]; omega); (have := HT5.out.size; omega); intro A2 c2 w2 ho2 ht2 hat2; have HO2 := Kp.mk (show OwnB w2 base A2 c2 (m.enc0 i ++ m.encP 120) by rw [show m.enc0 i ++ m.encP 120 = m.enc0 i ++ [UInt8.ofNat m.tx.size] ++ m.tx.data.toList by rw [List.append_assoc]; rfl]; exact ho2); have HT2 := Kp.mk (show Tch (blk A') wr w2 from HT5.out.trans ht2 (fun b hb h => (HA5.out b h).resolve_right (by omega))); have HA2 := Kp.mk (show ∀ b, blk A2 b → blk A' b ∨ wr.heap.size ≤ b from fun b hb => by { have hz5 := HT5.out.size; rcases hat2 b hb with h | h; exact HA5.out b h; exact .inr (by omega) }); have HLN := Kp.mk (show (m.enc0 (i + 1)).length = (m.enc0 i).length + 1 + m.tx.size by rw [HE1.out, List.length_append, Nat.add_assoc]; congr 1; show (UInt8.ofNat m.tx.size :: m.tx.data.toList).length = 1 + m.tx.size; rw [List.length_cons, Array.length_toList]; exact Nat.add_comm _ _); clear ho2 ht2 hat2))
          go_step3
          show _ ∧ _
          exact ⟨rfl, PutJ.mk base AA _ ca _ (i + 1) A2 c2 _ (HF.out A2 c2 _ w2 HLN.out.symm HO2.out HT2.out HA2.out) rfl, (by show 6 - ((i : Int) + 1).toNat < 6 - (i : Int).toNat; omega)⟩
      · obtain rfl : i = (partsL m.id).length := by have := HI.le; omega
        have hps := ps_size (partsL m.id)
        have hne : (((partsL m.id).length : Int) == ((ps (partsL m.id)).size : Int)) = true := by rw [hps]; simp
        have HEA := Kp.mk (m.enc0_all _ (Nat.le_refl _))
        have HB := Kp.mk (show m.putB = m.enc by simp [M.putB, HI.ok])
        go_wp2_with fail
        simp only [Exit.jump]
        go_ret2
        rw [HI.ok, HB.out, ← HEA.out]
        exact ⟨A', c', rfl, HI.own.mono (fun b hb => by have := (HI.own.base hb).1; have := HI.hb; omega), HI.tch⟩
    · intro hJ
      have HJ := Kp.mk hJ; clear hJ
      go_wp2_with fail
      refine (may32 m HO.out S A n _ (HS.out.still ((Still.refl _).alloc _))).mono ?_
      rintro e w1 ⟨rfl, ht1⟩
      rw [hm]
      have HT1 := Kp.mk (((Still.refl w).alloc _).strans ht1)
      have HM1 := Kp.mk (HM.out.still ht1)
      have q0 := HM1.out.id
      have hz1 := ht1.size
      simp only [World.size_alloc] at hz1
      clear ht1 hm
      go_wp2_with fail
      refine (parts33 m.id _).mono ?_
      rintro e w2 ⟨rfl, rfl⟩
      go_wp2_with fail
      refine (suffix62 (partsL m.id) _ (by omega)).mono ?_
      rintro e w2 ⟨rfl, rfl⟩
      cases ha : ((partsL m.id).getLast? == some 97) with
      | false =>
        have HPE := Kp.mk (show m.putE = 0 by simp [M.putE, HMB.out, show hasA m.id = false from ha])
        have HHA := Kp.mk (show hasA m.id = false from ha)
        obtain ⟨W0, hW0⟩ : ∃ W0, W0 = w1 := ⟨_, rfl⟩
        subst hW0
        have hq0 : W0.drew.cell? ⟨w.heap.size, 0, none⟩ = some (.int .i64 m.id) := q0
        have HID := Kp.mk (id_bytes g5 g6)
        obtain ⟨e1, e2, e3, e4, e5⟩ := id_wraps g5 g6
        go_wp2_with fail
        go_region_held3 (fun W => W.cell? ⟨w.heap.size, 0, none⟩ = some (.int .i64 m.id))
          (first | exact hq0 | exact hq5 | exact hq6)
          (first
           | (go_at_call 63; ((with_reducible refine (num63 none 0 [] _ 2 2 W0.heap.size 0 _ ?_ ?_ ?_ ?_ ?_ (OwnB.nil _ _) ?_ ?_).mono ?_)); (exact rfl); (exact rfl); (omega); (omega); (omega); (simp only [World.size_drew]; omega); (simp); rintro e w5 ⟨A5, c5, rfl, ho5, ht5, hat5⟩; have HO5 := Kp.mk (show OwnB w5 W0.heap.size A5 c5 (be (m.id / 100).toNat 2) from ho5); have HT5 := Kp.mk (show Still W0 w5 from ((Still.refl _).drew).trans ht5 (fun b _ h => by obtain ⟨_, h, _⟩ := h; cases h)); have hq5 := HT5.out.scell q0; clear ho5 ht5 hat5)
           | (go_at_call 63; (refine (num63 A5 c5 (be (m.id / 100).toNat 2) _ 2 2 W0.heap.size _ _ ?_ ?_ ?_ ?_ ?_ HO5.out ?_ ?_).mono ?_); (exact rfl); (exact rfl); (omega); (omega); (omega); (exact HT5.out.size); (simp [be_length]); rintro e w6 ⟨A6, c6, rfl, ho6, ht6, hat6⟩; have HO6 := Kp.mk (show OwnB w6 W0.heap.size A6 c6 (m.enc0 0) by rw [M.enc0_zero, HID.out.1, HID.out.2]; exact ho6); have HT6 := Kp.mk (show Still W0 w6 from HT5.out.trans ht6 (fun b hb h => by have := (HO5.out.base h).1; omega)); have hq6 := HT6.out.scell q0; clear ho6 ht6 hat6))
        go_wp2_with fail
        go_step3
        simp only [Exit.then]
        refine ‹∀ (a : Act) (w : World), Code.wp _ _ _ a w → _› _ _ (HJ.out _ _ ?_)
        clear HJ
        exact PutJ.mk W0.heap.size none 0 0 [] 0 A6 c6 _ ⟨⟨by rw [M.enc0_zero, HID.out.1, HID.out.2, List.length_append], Nat.zero_le _, HO6.out, HM1.out.still HT6.out, Bs.nil _ _ _, rfl, (fun h => by rw [HHA.out] at h; cases h), HT1.out.strans HT6.out, hz1, HT6.out.size, HPE.out⟩⟩ rfl
      | true =>
        have HHA := Kp.mk (show hasA m.id = true from ha)
        have q11 := HM1.out.ar
        go_wp2_with fail
        refine (put_ok m.ar A n _ w1 HO.out.arl HO.out.ar HM1.out.sl).mono ?_
        rintro e w2 ⟨AA, ca, rfl, ho2, ht2⟩
        have HT1' := HT1
        clear HT1
        have HT1 := Kp.mk (HT1'.out.strans ht2)
        have HM2 := Kp.mk (HM1.out.still ht2)
        have q0 := HM2.out.id
        have hz2 := ht2.size
        have HARG := Kp.mk ho2
        have hmt : m.ar.mayTab 1 = true := by
          have := ((M.mayB_iff m).1 HMB.out).2 97 (by decide)
          simp only [M.okAt, Bool.and_eq_true] at this
          exact this.2
        clear ho2 ht2 HT1' q11 ha
        by_cases hlong : 3000 < m.ar.enc.length
        · have HE := Kp.mk (show m.putE = 502 ∧ m.putB = [] by simp [M.putE, M.putB, HMB.out, HHA.out, hlong])
          rw [show m.ar.putE = 502 by unfold L.putE; rw [if_pos hmt, if_pos hlong]]
          clear hmt
          go_wp2_with fail
          simp only [Exit.jump]
          go_ret2
          rw [HE.out.1, HE.out.2]
          exact ⟨none, 0, rfl, OwnB.nil _ _, HT1.out⟩
        · have HPE := Kp.mk (show m.putE = 0 by simp [M.putE, HMB.out, HHA.out, hlong])
          have hpb : m.ar.putB = m.ar.enc := by unfold L.putB; rw [if_pos hmt, if_neg hlong]
          rw [show m.ar.putE = 0 by unfold L.putE; rw [if_pos hmt, if_neg hlong]]
          rw [hpb] at HARG ⊢
          clear hmt hpb
          obtain ⟨W0, hW0⟩ : ∃ W0, W0 = w2 := ⟨_, rfl⟩
          subst hW0
          have hq0 : W0.drew.cell? ⟨w.heap.size, 0, none⟩ = some (.int .i64 m.id) := q0
          have HID := Kp.mk (id_bytes g5 g6)
          obtain ⟨e1, e2, e3, e4, e5⟩ := id_wraps g5 g6
          go_wp2_with fail
          go_region_held3 (fun W => W.cell? ⟨w.heap.size, 0, none⟩ = some (.int .i64 m.id))
            (first | exact hq0 | exact hq5 | exact hq6)
            (first
             | (go_at_call 63; ((with_reducible refine (num63 none 0 [] _ 2 2 W0.heap.size 0 _ ?_ ?_ ?_ ?_ ?_ (OwnB.nil _ _) ?_ ?_).mono ?_)); (exact rfl); (exact rfl); (omega); (omega); (omega); (simp only [World.size_drew]; omega); (simp); rintro e w5 ⟨A5, c5, rfl, ho5, ht5, hat5⟩; have HO5 := Kp.mk (show OwnB w5 W0.heap.size A5 c5 (be (m.id / 100).toNat 2) from ho5); have HT5 := Kp.mk (show Still W0 w5 from ((Still.refl _).drew).trans ht5 (fun b _ h => by obtain ⟨_, h, _⟩ := h; cases h)); have hq5 := HT5.out.scell q0; clear ho5 ht5 hat5)
             | (go_at_call 63; (refine (num63 A5 c5 (be (m.id / 100).toNat 2) _ 2 2 W0.heap.size _ _ ?_ ?_ ?_ ?_ ?_ HO5.out ?_ ?_).mono ?_); (exact rfl); (exact rfl); (omega); (omega); (omega); (exact HT5.out.size); (simp [be_length]); rintro e w6 ⟨A6, c6, rfl, ho6, ht6, hat6⟩; have HO6 := Kp.mk (show OwnB w6 W0.heap.size A6 c6 (m.enc0 0) by rw [M.enc0_zero, HID.out.1, HID.out.2]; exact ho6); have HT6 := Kp.mk (show Still W0 w6 from HT5.out.trans ht6 (fun b hb h => by have := (HO5.out.base h).1; omega)); have hq6 := HT6.out.scell q0; clear ho6 ht6 hat6))
          go_wp2_with fail
          go_step3
          simp only [Exit.then]
          refine ‹∀ (a : Act) (w : World), Code.wp _ _ _ a w → _› _ _ (HJ.out _ _ ?_)
          clear HJ
          exact PutJ.mk W0.heap.size AA _ ca m.ar.enc 0 A6 c6 _ ⟨⟨by rw [M.enc0_zero, HID.out.1, HID.out.2, List.length_append], Nat.zero_le _, HO6.out, HM2.out.still HT6.out, (HARG.out.bs.still HT6.out).weak (fun b hb => hb.2.1), rfl, (fun _ => rfl), HT1.out.strans HT6.out, by omega, HT6.out.size, HPE.out⟩⟩ rfl
end Go.Proofs.Ytaeainkfllfdfaa
/- C4: The contracts of method.reader's raw, num and read: the parts of a call. -/
namespace Go.Proofs.Ytaeainkfllfdfaa
open Go.RowKit
set_option linter.unusedVariables false
set_option linter.unusedSimpArgs false
set_option maxRecDepth 100000

set_option maxHeartbeats 1000000 in
theorem raw84 (R : Nat) (S : Nat → Prop) (r : Rd) (n : Nat) (N : Int) (w : World) (hN : N = n) (hn : n ≤ 9223372036854775807) (hr : RdAt w R S r) (hS : ¬ S R) :
    Calls Try.prog 84 #[.pointer (some ⟨R, 0, none⟩), .int .i64 N] w (RetRaw w R S (r.raw n)) := by
  subst hN
  have HR := Kp.mk hr
  have HS := Kp.mk hS; clear hS
  obtain ⟨A, c, h0, h1, f0, f1, hB, hc, hc2⟩ := hr
  have HB := Kp.mk hB; clear hB
  by_cases hbad : r.bad = true
  · have e : r.raw n = ([], ⟨r.b, true⟩) := by simp [Rd.raw, hbad]
    rw [e]; clear e
    rw [hbad] at h1
    have HBAD := Kp.mk hbad; clear hbad
    go_enter Try.func84, Try.ntmps84
    go_wp2_with fail
    go_ret
    exact ⟨none, 0, rfl, Bs.nil _ _ _, HR.out.setBad HS.out, (Tch.refl _ w).setCell _ _ (fun _ => rfl), Nat.le_refl _, Nat.zero_le _⟩
  have hbad : r.bad = false := by simpa using hbad
  by_cases hlong : r.b.length < n
  · have e : r.raw n = ([], ⟨r.b, true⟩) := by simp [Rd.raw, hlong]
    rw [e]; clear e
    rw [hbad] at h1
    have HBAD := Kp.mk hbad; clear hbad
    go_enter Try.func84, Try.ntmps84
    go_wp2_with fail
    go_ret
    exact ⟨none, 0, rfl, Bs.nil _ _ _, HR.out.setBad HS.out, (Tch.refl _ w).setCell _ _ (fun _ => rfl), Nat.le_refl _, Nat.zero_le _⟩
  · have e : r.raw n = (r.b.take n, ⟨r.b.drop n, false⟩) := by simp [Rd.raw, hbad, hlong]
    rw [e]; clear e
    rw [hbad] at h1
    have HBAD := Kp.mk hbad; clear hbad
    have hle : n ≤ c := by omega
    have ht := Kp.mk (show (r.b.take n).length = n by rw [List.length_take, Nat.min_eq_left (by omega)])
    by_cases hcn : c = n
    · subst hcn
      have hle := hle
      go_enter Try.func84, Try.ntmps84
      go_wp2_with fail
      go_ret
      refine ⟨A, c, by rw [ht.out]; rfl, ?_, ?_, (Tch.refl _ w).setCell _ _ (fun _ => rfl), by rw [ht.out]; exact hle, hc2⟩
      · exact (HB.out.take c).tch (T := (· = R)) ((Tch.refl _ w).setCell _ _ (fun _ => rfl)) (fun b hb e => HS.out (e ▸ hb))
      · have := HR.out.setB HS.out A 0 (r.b.length - c) (r.b.drop c) (by simp) (by have := HB.out.drop c c hc; rwa [if_pos rfl] at this) (by simp; omega) (by omega)
        rw [HBAD.out, show r.b.length - c = 0 from by omega] at this
        exact this
    · go_enter Try.func84, Try.ntmps84
      go_wp2_with fail
      go_ret
      refine ⟨A, c, by rw [ht.out]; rfl, ?_, ?_, (Tch.refl _ w).setCell _ _ (fun _ => rfl), by rw [ht.out]; exact hle, hc2⟩
      · exact (HB.out.take n).tch (T := (· = R)) ((Tch.refl _ w).setCell _ _ (fun _ => rfl)) (fun b hb e => HS.out (e ▸ hb))
      · have := HR.out.setB HS.out (A.map (·.add n)) (c - n) (r.b.length - n) (r.b.drop n) (by simp) (by have := HB.out.drop n c hc; rwa [if_neg hcn] at this) (by simp; omega) (by omega)
        rw [HBAD.out] at this
        exact this

set_option maxHeartbeats 1000000 in
theorem rnum66 (R : Nat) (S : Nat → Prop) (r : Rd) (k : Nat) (K : Int) (w : World) (hK : K = k) (hk : k ≤ 8) (hr : RdAt w R S r) (hS : ¬ S R) :
    Calls Try.prog 66 #[.pointer (some ⟨R, 0, none⟩), .int .i64 K] w (RetNum w R S (r.num k)) := by
  subst hK
  have HR := Kp.mk hr; clear hr
  have HS := Kp.mk hS; clear hS
  go_enter Try.func66, Try.ntmps66
  go_wp2_with fail
  refine (raw84 R S r k _ w rfl (by omega) HR.out HS.out).mono ?_
  rintro e w1 ⟨A, c, rfl, hB, hR1, hT1, _⟩
  have hxl : (r.raw k).1.length ≤ 8 := by have : (r.raw k).1.length ≤ k := by { unfold Rd.raw; split <;> simp; omega }; omega
  have HV := Kp.mk (show (r.num k).1 = val (r.raw k).1 ∧ (r.num k).2 = (r.raw k).2 from ⟨rfl, rfl⟩)
  generalize (r.raw k).1 = x at *
  generalize (r.raw k).2 = r1 at *
  have HB := Kp.mk hB; clear hB
  have HR1 := Kp.mk hR1; clear hR1
  have HT1 := Kp.mk hT1; clear hT1
  go_wp2_with fail
  go_loopw [5, 12] (fun v i wr => ∃ j : Nat, j ≤ x.length ∧ i = .int .i64 j ∧ v = .int .u64 (val (x.take j)) ∧ wr = w1) (fun _ i _ => x.length - (intOf i).toNat)
  case atStart => exact ⟨0, by omega, rfl, rfl, rfl⟩
  case round =>
    obtain ⟨j, hj, rfl, rfl, rfl⟩ := hrel
    by_cases hlt : j < x.length
    · rcases HB.out with rfl | ⟨b, o, rfl, hb, hc⟩
      · simp at hlt
      have hcj := hc j hlt
      clear hc
      have hor := shl_or (val (x.take j)) x[j].toNat (val_small _ (by simp; omega)) (x[j].toNat_lt)
      have HOR := Kp.mk hor; clear hor
      go_wp2_with fail
      go_light
      rw [HOR.out]
      refine ⟨⟨j + 1, by omega, by go_num, ?_, trivial⟩, by simp only [intOf]; omega⟩
      rw [List.take_succ_eq_append_getElem hlt, val_snoc]
    · have hjl : j = x.length := by omega
      subst hjl
      go_wp2_with fail
      go_ret
      rw [List.take_length]
      exact ⟨by rw [HV.out.1]; rfl, by rw [HV.out.2]; exact HR1.out, HT1.out⟩

theorem num_lt' (r : Rd) (k : Nat) : (r.num k).1 < 256 ^ k := by
  have h1 : (r.raw k).1.length ≤ k := by unfold Rd.raw; split <;> simp; omega
  exact Nat.lt_of_lt_of_le (val_lt _) (Nat.pow_le_pow_right (by omega) h1)
/-- A part read. -/
def Rd.part (m : M) (c : UInt8) (r : Rd) : M × Rd :=
  if c = 99 then ({ m with co := (r.num 2).1 }, (r.num 2).2)
  else if c = 117 then ({ m with cn := (r.num 4).1 }, (r.num 4).2)
  else if c = 116 then ({ m with tg := (r.num 8).1 }, (r.num 8).2)
  else if c = 102 then ({ m with fl := decide ((r.num 1).1 = 1) }, (r.num 1).2)
  else if c = 98 then ({ m with bk := decide ((r.num 1).1 = 1) }, (r.num 1).2)
  else if c = 97 then ({ m with ar := getL (r.raw r.b.length).1 }, ⟨(r.raw r.b.length).2.b, (r.raw r.b.length).2.bad || decide (getE (r.raw r.b.length).1 ≠ 0)⟩)
  else
    let s := (r.num 1).2.raw (r.num 1).1
    let t : ByteArray := ⟨s.1.toArray⟩
    ((if c = 110 then { m with nm := t } else if c = 121 then { m with ty := t } else if c = 101 then { m with ex := t } else if c = 107 then { m with ky := t } else { m with tx := t }), s.2)
theorem MAt.set_co {w : World} {S : Nat → Prop} {b : Nat} {A : Option Addr} {c : Nat} {m : M} (h : MAt w S b A c m) (hS : ¬ S b) (x : Int) : MAt (w.setCell ⟨b, 6, none⟩ (.int .i64 x)) S b A c { m with co := x } := by
  refine ⟨?_, ?_, ?_, ?_, ?_, ?_, ?_, ?_, ?_, ?_, ?_, ?_, h.sl.tch (T := (· = b)) ((Tch.refl _ w).setCell _ _ (fun _ => rfl)) (fun k hk e => hS (e ▸ hk))⟩
  · exact (World.cell?_setCell_other w _ _ _ (by simp)).trans h.id
  · exact (World.cell?_setCell_other w _ _ _ (by simp)).trans h.nm
  · exact (World.cell?_setCell_other w _ _ _ (by simp)).trans h.ty
  · exact (World.cell?_setCell_other w _ _ _ (by simp)).trans h.ex
  · exact (World.cell?_setCell_other w _ _ _ (by simp)).trans h.ky
  · exact (World.cell?_setCell_other w _ _ _ (by simp)).trans h.tx
  · exact World.cell?_setCell_same w _ _ h.co
  · exact (World.cell?_setCell_other w _ _ _ (by simp)).trans h.cn
  · exact (World.cell?_setCell_other w _ _ _ (by simp)).trans h.tg
  · exact (World.cell?_setCell_other w _ _ _ (by simp)).trans h.fl
  · exact (World.cell?_setCell_other w _ _ _ (by simp)).trans h.bk
  · exact (World.cell?_setCell_other w _ _ _ (by simp)).trans h.ar
theorem MAt.set_cn {w : World} {S : Nat → Prop} {b : Nat} {A : Option Addr} {c : Nat} {m : M} (h : MAt w S b A c m) (hS : ¬ S b) (x : Int) : MAt (w.setCell ⟨b, 7, none⟩ (.int .i64 x)) S b A c { m with cn := x } := by
  refine ⟨?_, ?_, ?_, ?_, ?_, ?_, ?_, ?_, ?_, ?_, ?_, ?_, h.sl.tch (T := (· = b)) ((Tch.refl _ w).setCell _ _ (fun _ => rfl)) (fun k hk e => hS (e ▸ hk))⟩
  · exact (World.cell?_setCell_other w _ _ _ (by simp)).trans h.id
  · exact (World.cell?_setCell_other w _ _ _ (by simp)).trans h.nm
  · exact (World.cell?_setCell_other w _ _ _ (by simp)).trans h.ty
  · exact (World.cell?_setCell_other w _ _ _ (by simp)).trans h.ex
  · exact (World.cell?_setCell_other w _ _ _ (by simp)).trans h.ky
  · exact (World.cell?_setCell_other w _ _ _ (by simp)).trans h.tx
  · exact (World.cell?_setCell_other w _ _ _ (by simp)).trans h.co
  · exact World.cell?_setCell_same w _ _ h.cn
  · exact (World.cell?_setCell_other w _ _ _ (by simp)).trans h.tg
  · exact (World.cell?_setCell_other w _ _ _ (by simp)).trans h.fl
  · exact (World.cell?_setCell_other w _ _ _ (by simp)).trans h.bk
  · exact (World.cell?_setCell_other w _ _ _ (by simp)).trans h.ar
theorem MAt.set_tg {w : World} {S : Nat → Prop} {b : Nat} {A : Option Addr} {c : Nat} {m : M} (h : MAt w S b A c m) (hS : ¬ S b) (x : Int) : MAt (w.setCell ⟨b, 8, none⟩ (.int .u64 x)) S b A c { m with tg := x } := by
  refine ⟨?_, ?_, ?_, ?_, ?_, ?_, ?_, ?_, ?_, ?_, ?_, ?_, h.sl.tch (T := (· = b)) ((Tch.refl _ w).setCell _ _ (fun _ => rfl)) (fun k hk e => hS (e ▸ hk))⟩
  · exact (World.cell?_setCell_other w _ _ _ (by simp)).trans h.id
  · exact (World.cell?_setCell_other w _ _ _ (by simp)).trans h.nm
  · exact (World.cell?_setCell_other w _ _ _ (by simp)).trans h.ty
  · exact (World.cell?_setCell_other w _ _ _ (by simp)).trans h.ex
  · exact (World.cell?_setCell_other w _ _ _ (by simp)).trans h.ky
  · exact (World.cell?_setCell_other w _ _ _ (by simp)).trans h.tx
  · exact (World.cell?_setCell_other w _ _ _ (by simp)).trans h.co
  · exact (World.cell?_setCell_other w _ _ _ (by simp)).trans h.cn
  · exact World.cell?_setCell_same w _ _ h.tg
  · exact (World.cell?_setCell_other w _ _ _ (by simp)).trans h.fl
  · exact (World.cell?_setCell_other w _ _ _ (by simp)).trans h.bk
  · exact (World.cell?_setCell_other w _ _ _ (by simp)).trans h.ar
theorem MAt.set_fl {w : World} {S : Nat → Prop} {b : Nat} {A : Option Addr} {c : Nat} {m : M} (h : MAt w S b A c m) (hS : ¬ S b) (x : Bool) : MAt (w.setCell ⟨b, 9, none⟩ (.bool x)) S b A c { m with fl := x } := by
  refine ⟨?_, ?_, ?_, ?_, ?_, ?_, ?_, ?_, ?_, ?_, ?_, ?_, h.sl.tch (T := (· = b)) ((Tch.refl _ w).setCell _ _ (fun _ => rfl)) (fun k hk e => hS (e ▸ hk))⟩
  · exact (World.cell?_setCell_other w _ _ _ (by simp)).trans h.id
  · exact (World.cell?_setCell_other w _ _ _ (by simp)).trans h.nm
  · exact (World.cell?_setCell_other w _ _ _ (by simp)).trans h.ty
  · exact (World.cell?_setCell_other w _ _ _ (by simp)).trans h.ex
  · exact (World.cell?_setCell_other w _ _ _ (by simp)).trans h.ky
  · exact (World.cell?_setCell_other w _ _ _ (by simp)).trans h.tx
  · exact (World.cell?_setCell_other w _ _ _ (by simp)).trans h.co
  · exact (World.cell?_setCell_other w _ _ _ (by simp)).trans h.cn
  · exact (World.cell?_setCell_other w _ _ _ (by simp)).trans h.tg
  · exact World.cell?_setCell_same w _ _ h.fl
  · exact (World.cell?_setCell_other w _ _ _ (by simp)).trans h.bk
  · exact (World.cell?_setCell_other w _ _ _ (by simp)).trans h.ar
theorem MAt.set_bk {w : World} {S : Nat → Prop} {b : Nat} {A : Option Addr} {c : Nat} {m : M} (h : MAt w S b A c m) (hS : ¬ S b) (x : Bool) : MAt (w.setCell ⟨b, 10, none⟩ (.bool x)) S b A c { m with bk := x } := by
  refine ⟨?_, ?_, ?_, ?_, ?_, ?_, ?_, ?_, ?_, ?_, ?_, ?_, h.sl.tch (T := (· = b)) ((Tch.refl _ w).setCell _ _ (fun _ => rfl)) (fun k hk e => hS (e ▸ hk))⟩
  · exact (World.cell?_setCell_other w _ _ _ (by simp)).trans h.id
  · exact (World.cell?_setCell_other w _ _ _ (by simp)).trans h.nm
  · exact (World.cell?_setCell_other w _ _ _ (by simp)).trans h.ty
  · exact (World.cell?_setCell_other w _ _ _ (by simp)).trans h.ex
  · exact (World.cell?_setCell_other w _ _ _ (by simp)).trans h.ky
  · exact (World.cell?_setCell_other w _ _ _ (by simp)).trans h.tx
  · exact (World.cell?_setCell_other w _ _ _ (by simp)).trans h.co
  · exact (World.cell?_setCell_other w _ _ _ (by simp)).trans h.cn
  · exact (World.cell?_setCell_other w _ _ _ (by simp)).trans h.tg
  · exact (World.cell?_setCell_other w _ _ _ (by simp)).trans h.fl
  · exact World.cell?_setCell_same w _ _ h.bk
  · exact (World.cell?_setCell_other w _ _ _ (by simp)).trans h.ar
theorem MAt.set_nm {w : World} {S : Nat → Prop} {b : Nat} {A : Option Addr} {c : Nat} {m : M} (h : MAt w S b A c m) (hS : ¬ S b) (x : ByteArray) : MAt (w.setCell ⟨b, 1, none⟩ (.string x)) S b A c { m with nm := x } := by
  refine ⟨?_, ?_, ?_, ?_, ?_, ?_, ?_, ?_, ?_, ?_, ?_, ?_, h.sl.tch (T := (· = b)) ((Tch.refl _ w).setCell _ _ (fun _ => rfl)) (fun k hk e => hS (e ▸ hk))⟩
  · exact (World.cell?_setCell_other w _ _ _ (by simp)).trans h.id
  · exact World.cell?_setCell_same w _ _ h.nm
  · exact (World.cell?_setCell_other w _ _ _ (by simp)).trans h.ty
  · exact (World.cell?_setCell_other w _ _ _ (by simp)).trans h.ex
  · exact (World.cell?_setCell_other w _ _ _ (by simp)).trans h.ky
  · exact (World.cell?_setCell_other w _ _ _ (by simp)).trans h.tx
  · exact (World.cell?_setCell_other w _ _ _ (by simp)).trans h.co
  · exact (World.cell?_setCell_other w _ _ _ (by simp)).trans h.cn
  · exact (World.cell?_setCell_other w _ _ _ (by simp)).trans h.tg
  · exact (World.cell?_setCell_other w _ _ _ (by simp)).trans h.fl
  · exact (World.cell?_setCell_other w _ _ _ (by simp)).trans h.bk
  · exact (World.cell?_setCell_other w _ _ _ (by simp)).trans h.ar
theorem MAt.set_ty {w : World} {S : Nat → Prop} {b : Nat} {A : Option Addr} {c : Nat} {m : M} (h : MAt w S b A c m) (hS : ¬ S b) (x : ByteArray) : MAt (w.setCell ⟨b, 2, none⟩ (.string x)) S b A c { m with ty := x } := by
  refine ⟨?_, ?_, ?_, ?_, ?_, ?_, ?_, ?_, ?_, ?_, ?_, ?_, h.sl.tch (T := (· = b)) ((Tch.refl _ w).setCell _ _ (fun _ => rfl)) (fun k hk e => hS (e ▸ hk))⟩
  · exact (World.cell?_setCell_other w _ _ _ (by simp)).trans h.id
  · exact (World.cell?_setCell_other w _ _ _ (by simp)).trans h.nm
  · exact World.cell?_setCell_same w _ _ h.ty
  · exact (World.cell?_setCell_other w _ _ _ (by simp)).trans h.ex
  · exact (World.cell?_setCell_other w _ _ _ (by simp)).trans h.ky
  · exact (World.cell?_setCell_other w _ _ _ (by simp)).trans h.tx
  · exact (World.cell?_setCell_other w _ _ _ (by simp)).trans h.co
  · exact (World.cell?_setCell_other w _ _ _ (by simp)).trans h.cn
  · exact (World.cell?_setCell_other w _ _ _ (by simp)).trans h.tg
  · exact (World.cell?_setCell_other w _ _ _ (by simp)).trans h.fl
  · exact (World.cell?_setCell_other w _ _ _ (by simp)).trans h.bk
  · exact (World.cell?_setCell_other w _ _ _ (by simp)).trans h.ar
theorem MAt.set_ex {w : World} {S : Nat → Prop} {b : Nat} {A : Option Addr} {c : Nat} {m : M} (h : MAt w S b A c m) (hS : ¬ S b) (x : ByteArray) : MAt (w.setCell ⟨b, 3, none⟩ (.string x)) S b A c { m with ex := x } := by
  refine ⟨?_, ?_, ?_, ?_, ?_, ?_, ?_, ?_, ?_, ?_, ?_, ?_, h.sl.tch (T := (· = b)) ((Tch.refl _ w).setCell _ _ (fun _ => rfl)) (fun k hk e => hS (e ▸ hk))⟩
  · exact (World.cell?_setCell_other w _ _ _ (by simp)).trans h.id
  · exact (World.cell?_setCell_other w _ _ _ (by simp)).trans h.nm
  · exact (World.cell?_setCell_other w _ _ _ (by simp)).trans h.ty
  · exact World.cell?_setCell_same w _ _ h.ex
  · exact (World.cell?_setCell_other w _ _ _ (by simp)).trans h.ky
  · exact (World.cell?_setCell_other w _ _ _ (by simp)).trans h.tx
  · exact (World.cell?_setCell_other w _ _ _ (by simp)).trans h.co
  · exact (World.cell?_setCell_other w _ _ _ (by simp)).trans h.cn
  · exact (World.cell?_setCell_other w _ _ _ (by simp)).trans h.tg
  · exact (World.cell?_setCell_other w _ _ _ (by simp)).trans h.fl
  · exact (World.cell?_setCell_other w _ _ _ (by simp)).trans h.bk
  · exact (World.cell?_setCell_other w _ _ _ (by simp)).trans h.ar
theorem MAt.set_ky {w : World} {S : Nat → Prop} {b : Nat} {A : Option Addr} {c : Nat} {m : M} (h : MAt w S b A c m) (hS : ¬ S b) (x : ByteArray) : MAt (w.setCell ⟨b, 4, none⟩ (.string x)) S b A c { m with ky := x } := by
  refine ⟨?_, ?_, ?_, ?_, ?_, ?_, ?_, ?_, ?_, ?_, ?_, ?_, h.sl.tch (T := (· = b)) ((Tch.refl _ w).setCell _ _ (fun _ => rfl)) (fun k hk e => hS (e ▸ hk))⟩
  · exact (World.cell?_setCell_other w _ _ _ (by simp)).trans h.id
  · exact (World.cell?_setCell_other w _ _ _ (by simp)).trans h.nm
  · exact (World.cell?_setCell_other w _ _ _ (by simp)).trans h.ty
  · exact (World.cell?_setCell_other w _ _ _ (by simp)).trans h.ex
  · exact World.cell?_setCell_same w _ _ h.ky
  · exact (World.cell?_setCell_other w _ _ _ (by simp)).trans h.tx
  · exact (World.cell?_setCell_other w _ _ _ (by simp)).trans h.co
  · exact (World.cell?_setCell_other w _ _ _ (by simp)).trans h.cn
  · exact (World.cell?_setCell_other w _ _ _ (by simp)).trans h.tg
  · exact (World.cell?_setCell_other w _ _ _ (by simp)).trans h.fl
  · exact (World.cell?_setCell_other w _ _ _ (by simp)).trans h.bk
  · exact (World.cell?_setCell_other w _ _ _ (by simp)).trans h.ar
theorem MAt.set_tx {w : World} {S : Nat → Prop} {b : Nat} {A : Option Addr} {c : Nat} {m : M} (h : MAt w S b A c m) (hS : ¬ S b) (x : ByteArray) : MAt (w.setCell ⟨b, 5, none⟩ (.string x)) S b A c { m with tx := x } := by
  refine ⟨?_, ?_, ?_, ?_, ?_, ?_, ?_, ?_, ?_, ?_, ?_, ?_, h.sl.tch (T := (· = b)) ((Tch.refl _ w).setCell _ _ (fun _ => rfl)) (fun k hk e => hS (e ▸ hk))⟩
  · exact (World.cell?_setCell_other w _ _ _ (by simp)).trans h.id
  · exact (World.cell?_setCell_other w _ _ _ (by simp)).trans h.nm
  · exact (World.cell?_setCell_other w _ _ _ (by simp)).trans h.ty
  · exact (World.cell?_setCell_other w _ _ _ (by simp)).trans h.ex
  · exact (World.cell?_setCell_other w _ _ _ (by simp)).trans h.ky
  · exact World.cell?_setCell_same w _ _ h.tx
  · exact (World.cell?_setCell_other w _ _ _ (by simp)).trans h.co
  · exact (World.cell?_setCell_other w _ _ _ (by simp)).trans h.cn
  · exact (World.cell?_setCell_other w _ _ _ (by simp)).trans h.tg
  · exact (World.cell?_setCell_other w _ _ _ (by simp)).trans h.fl
  · exact (World.cell?_setCell_other w _ _ _ (by simp)).trans h.bk
  · exact (World.cell?_setCell_other w _ _ _ (by simp)).trans h.ar
theorem MAt.set_ar {w : World} {S : Nat → Prop} {b : Nat} {A A' : Option Addr} {c c' : Nat} {m : M} (h : MAt w S b A c m) (hS : ¬ S b) (x : L) (hx : Sl w S A' x) : MAt (w.setCell ⟨b, 11, none⟩ (.slice A' x.len c')) S b A' c' { m with ar := x } := by
  refine ⟨?_, ?_, ?_, ?_, ?_, ?_, ?_, ?_, ?_, ?_, ?_, ?_, hx.tch (T := (· = b)) ((Tch.refl _ w).setCell _ _ (fun _ => rfl)) (fun k hk e => hS (e ▸ hk))⟩
  · exact (World.cell?_setCell_other w _ _ _ (by simp)).trans h.id
  · exact (World.cell?_setCell_other w _ _ _ (by simp)).trans h.nm
  · exact (World.cell?_setCell_other w _ _ _ (by simp)).trans h.ty
  · exact (World.cell?_setCell_other w _ _ _ (by simp)).trans h.ex
  · exact (World.cell?_setCell_other w _ _ _ (by simp)).trans h.ky
  · exact (World.cell?_setCell_other w _ _ _ (by simp)).trans h.tx
  · exact (World.cell?_setCell_other w _ _ _ (by simp)).trans h.co
  · exact (World.cell?_setCell_other w _ _ _ (by simp)).trans h.cn
  · exact (World.cell?_setCell_other w _ _ _ (by simp)).trans h.tg
  · exact (World.cell?_setCell_other w _ _ _ (by simp)).trans h.fl
  · exact (World.cell?_setCell_other w _ _ _ (by simp)).trans h.bk
  · exact World.cell?_setCell_same w _ _ h.ar
end Go.Proofs.Ytaeainkfllfdfaa
/- C5: The contract of method.reader's read: one part of a call. -/
namespace Go.Proofs.Ytaeainkfllfdfaa
open Go.RowKit
set_option linter.unusedVariables false
set_option linter.unusedSimpArgs false
set_option maxRecDepth 100000

/-- What read has left. -/
def RetRead (w : World) (R B : Nat) (S SM : Nat → Prop) (x : M × Rd) (e : Ending) (w' : World) : Prop :=
  e = .returned (.tuple #[]) ∧ ∃ A n, MAt w' SM B A n x.1 ∧ RdAt w' R S x.2 ∧ Tch (fun b => b = R ∨ b = B) w w' ∧ ∀ o, w'.frozen? ⟨B, o, none⟩ = false
theorem RdAt.setFar {w : World} {R B o : Nat} {S : Nat → Prop} {r : Rd} {v : Value} (h : RdAt w R S r) (hR : R ≠ B) (hS : ¬ S B) : RdAt (w.setCell ⟨B, o, none⟩ v) R S r :=
  h.tch (T := (· = B)) ((Tch.refl _ w).setCell _ _ (fun _ => rfl)) hR (fun b hb e => hS (e ▸ hb))
theorem frozen_set {w : World} {B o : Nat} {v : Value} (h : ∀ o, w.frozen? ⟨B, o, none⟩ = false) : ∀ p, (w.setCell ⟨B, o, none⟩ v).frozen? ⟨B, p, none⟩ = false := fun p => by
  have := h p
  go_simp

set_option maxHeartbeats 8000000 in
theorem read67 (R B : Nat) (S SM : Nat → Prop) (r : Rd) (m : M) (A : Option Addr) (n : Nat) (c : UInt8) (w : World) (hc : c ∈ lettersL) (hr : RdAt w R S r) (hS : ¬ S R) (hSB : ¬ S B) (hRB : R ≠ B) (hm : MAt w SM B A n m) (hMR : ¬ SM R) (hMB : ¬ SM B)
    (hfz : ∀ o, w.frozen? ⟨B, o, none⟩ = false) (hSM : ∀ k, w.heap.size ≤ k → SM k) (hlen : r.b.length ≤ 140737488351232) :
    Calls Try.prog 67 #[.pointer (some ⟨R, 0, none⟩), .pointer (some ⟨B, 0, none⟩), .int .u8 c.toNat] w (RetRead w R B S SM (Rd.part m c r)) := by
  have hBl : B < w.heap.size := World.block_lt_of_cell? w _ hm.id
  have HR := Kp.mk hr; have HM := Kp.mk hm
  have HS := Kp.mk (And.intro hS hSB); have HMS := Kp.mk (And.intro hMR hMB)
  have HFZ := Kp.mk hfz; have HSM := Kp.mk hSM
  have hcl := letters_five hc
  clear hr hm hS hSB hMR hMB hfz hSM hc
  rcases hcl with rfl | rfl | rfl | rfl | rfl | rfl | rfl | rfl | rfl | rfl | rfl
  · have hv : (r.num 2).1 < 65536 := num_lt' r 2
    have HV := Kp.mk (show Rd.part m 99 r = ({ m with co := ((r.num 2).1 : Int) }, (r.num 2).2) from rfl)
    go_enter Try.func67, Try.ntmps67
    go_wp2_with fail
    refine (rnum66 R S r 2 2 _ rfl (by omega) HR.out HS.out.1).mono ?_
    rintro e w1 ⟨rfl, hr1, ht1⟩
    have hm1 := HM.out.tch ht1 (fun e => hRB e.symm) (fun b hb e => HMS.out.1 (e ▸ hb))
    have hf1 : ∀ o, w1.frozen? ⟨B, o, none⟩ = false := fun o => (ht1.frozen (a := ⟨B, o, none⟩) hBl (fun e => hRB e.symm)).trans (HFZ.out o)
    have x0 := hm1.co
    have HM1 := Kp.mk hm1; have HR1 := Kp.mk hr1; have HF1 := Kp.mk hf1; have HT1 := Kp.mk ht1
    have f0 := hf1 6
    clear hm1 hr1 hf1 ht1
    go_wp2_with fail
    go_end0
    rw [HV.out]
    refine ⟨rfl, A, n, HM1.out.set_co HMS.out.2 _, HR1.out.setFar hRB HS.out.2, ?_, frozen_set HF1.out⟩
    exact (HT1.out.mono (fun b _ h => .inl h)).setCell _ _ (fun _ => .inr rfl)
  · have hv : (r.num 4).1 < 4294967296 := num_lt' r 4
    have HV := Kp.mk (show Rd.part m 117 r = ({ m with cn := ((r.num 4).1 : Int) }, (r.num 4).2) from rfl)
    go_enter Try.func67, Try.ntmps67
    go_wp2_with fail
    refine (rnum66 R S r 4 4 _ rfl (by omega) HR.out HS.out.1).mono ?_
    rintro e w1 ⟨rfl, hr1, ht1⟩
    have hm1 := HM.out.tch ht1 (fun e => hRB e.symm) (fun b hb e => HMS.out.1 (e ▸ hb))
    have hf1 : ∀ o, w1.frozen? ⟨B, o, none⟩ = false := fun o => (ht1.frozen (a := ⟨B, o, none⟩) hBl (fun e => hRB e.symm)).trans (HFZ.out o)
    have x0 := hm1.cn
    have HM1 := Kp.mk hm1; have HR1 := Kp.mk hr1; have HF1 := Kp.mk hf1; have HT1 := Kp.mk ht1
    have f0 := hf1 7
    clear hm1 hr1 hf1 ht1
    go_wp2_with fail
    go_end0
    rw [HV.out]
    refine ⟨rfl, A, n, HM1.out.set_cn HMS.out.2 _, HR1.out.setFar hRB HS.out.2, ?_, frozen_set HF1.out⟩
    exact (HT1.out.mono (fun b _ h => .inl h)).setCell _ _ (fun _ => .inr rfl)
  · have hv : (r.num 8).1 < 18446744073709551616 := num_lt' r 8
    have HV := Kp.mk (show Rd.part m 116 r = ({ m with tg := ((r.num 8).1 : Int) }, (r.num 8).2) from rfl)
    go_enter Try.func67, Try.ntmps67
    go_wp2_with fail
    refine (rnum66 R S r 8 8 _ rfl (by omega) HR.out HS.out.1).mono ?_
    rintro e w1 ⟨rfl, hr1, ht1⟩
    have hm1 := HM.out.tch ht1 (fun e => hRB e.symm) (fun b hb e => HMS.out.1 (e ▸ hb))
    have hf1 : ∀ o, w1.frozen? ⟨B, o, none⟩ = false := fun o => (ht1.frozen (a := ⟨B, o, none⟩) hBl (fun e => hRB e.symm)).trans (HFZ.out o)
    have x0 := hm1.tg
    have HM1 := Kp.mk hm1; have HR1 := Kp.mk hr1; have HF1 := Kp.mk hf1; have HT1 := Kp.mk ht1
    have f0 := hf1 8
    clear hm1 hr1 hf1 ht1
    go_wp2_with fail
    go_end0
    rw [HV.out]
    refine ⟨rfl, A, n, HM1.out.set_tg HMS.out.2 _, HR1.out.setFar hRB HS.out.2, ?_, frozen_set HF1.out⟩
    exact (HT1.out.mono (fun b _ h => .inl h)).setCell _ _ (fun _ => .inr rfl)
  · have hv : (r.num 1).1 < 256 := num_lt' r 1
    have HV := Kp.mk (show Rd.part m 102 r = ({ m with fl := decide ((r.num 1).1 = 1) }, (r.num 1).2) from rfl)
    go_enter Try.func67, Try.ntmps67
    go_wp2_with fail
    refine (rnum66 R S r 1 1 _ rfl (by omega) HR.out HS.out.1).mono ?_
    rintro e w1 ⟨rfl, hr1, ht1⟩
    have hm1 := HM.out.tch ht1 (fun e => hRB e.symm) (fun b hb e => HMS.out.1 (e ▸ hb))
    have hf1 : ∀ o, w1.frozen? ⟨B, o, none⟩ = false := fun o => (ht1.frozen (a := ⟨B, o, none⟩) hBl (fun e => hRB e.symm)).trans (HFZ.out o)
    have x0 := hm1.fl
    have HM1 := Kp.mk hm1; have HR1 := Kp.mk hr1; have HF1 := Kp.mk hf1; have HT1 := Kp.mk ht1
    have f0 := hf1 9
    clear hm1 hr1 hf1 ht1
    go_wp2_with fail
    go_end0
    rw [show (((r.num 1).1 : Int) == 1) = decide ((r.num 1).1 = 1) by rw [Bool.eq_iff_iff]; simp; omega]
    rw [HV.out]
    refine ⟨rfl, A, n, HM1.out.set_fl HMS.out.2 _, HR1.out.setFar hRB HS.out.2, ?_, frozen_set HF1.out⟩
    exact (HT1.out.mono (fun b _ h => .inl h)).setCell _ _ (fun _ => .inr rfl)
  · have hv : (r.num 1).1 < 256 := num_lt' r 1
    have HV := Kp.mk (show Rd.part m 98 r = ({ m with bk := decide ((r.num 1).1 = 1) }, (r.num 1).2) from rfl)
    go_enter Try.func67, Try.ntmps67
    go_wp2_with fail
    refine (rnum66 R S r 1 1 _ rfl (by omega) HR.out HS.out.1).mono ?_
    rintro e w1 ⟨rfl, hr1, ht1⟩
    have hm1 := HM.out.tch ht1 (fun e => hRB e.symm) (fun b hb e => HMS.out.1 (e ▸ hb))
    have hf1 : ∀ o, w1.frozen? ⟨B, o, none⟩ = false := fun o => (ht1.frozen (a := ⟨B, o, none⟩) hBl (fun e => hRB e.symm)).trans (HFZ.out o)
    have x0 := hm1.bk
    have HM1 := Kp.mk hm1; have HR1 := Kp.mk hr1; have HF1 := Kp.mk hf1; have HT1 := Kp.mk ht1
    have f0 := hf1 10
    clear hm1 hr1 hf1 ht1
    go_wp2_with fail
    go_end0
    rw [show (((r.num 1).1 : Int) == 1) = decide ((r.num 1).1 = 1) by rw [Bool.eq_iff_iff]; simp; omega]
    rw [HV.out]
    refine ⟨rfl, A, n, HM1.out.set_bk HMS.out.2 _, HR1.out.setFar hRB HS.out.2, ?_, frozen_set HF1.out⟩
    exact (HT1.out.mono (fun b _ h => .inl h)).setCell _ _ (fun _ => .inr rfl)
  · have HV := Kp.mk (show Rd.part m 97 r = ({ m with ar := getL (r.raw r.b.length).1 }, ⟨(r.raw r.b.length).2.b, (r.raw r.b.length).2.bad || decide (getE (r.raw r.b.length).1 ≠ 0)⟩) from rfl)
    obtain ⟨A0, c0, i0, i1, fi0, fi1, _, _, _⟩ := HR.out
    have HXL := Kp.mk (r.raw_le r.b.length).1
    go_enter Try.func67, Try.ntmps67
    go_wp2_with fail
    refine (raw84 R S r r.b.length _ _ rfl (by omega) HR.out HS.out.1).mono ?_
    rintro e w1 ⟨AX, cX, rfl, hbx, hr1, ht1, hc1, hc2⟩
    generalize r.raw r.b.length = x at *
    have HBX := Kp.mk hbx
    have hm1 := HM.out.tch ht1 (fun e => hRB e.symm) (fun b hb e => HMS.out.1 (e ▸ hb))
    have hf1 : ∀ o, w1.frozen? ⟨B, o, none⟩ = false := fun o => (ht1.frozen (a := ⟨B, o, none⟩) hBl (fun e => hRB e.symm)).trans (HFZ.out o)
    have hz1 := ht1.size
    have HM1 := Kp.mk hm1; have HR1 := Kp.mk hr1; have HF1 := Kp.mk hf1; have HT1 := Kp.mk ht1
    clear hm1 hr1 hf1 ht1 hbx
    go_wp2_with fail
    refine (get_okn x.1 AX cX _ _ w1 rfl (by have := HXL.out; omega) hc1 hc2 HBX.out).mono ?_
    rintro e w2 ⟨A2, c2, rfl, hs2, ht2⟩
    have HS2 := Kp.mk (hs2.weak (fun b hb => HSM.out b (by omega)))
    have HM2 := Kp.mk (HM1.out.still ht2)
    have HR2 := Kp.mk (HR1.out.still ht2)
    have HF2 := Kp.mk (show ∀ o, w2.frozen? ⟨B, o, none⟩ = false from fun o => (ht2.frozen (a := ⟨B, o, none⟩) (show B < w1.heap.size by omega) (fun f => f)).trans (HF1.out o))
    have HT2 := Kp.mk (HT1.out.trans ht2 (S := (· = R)) (fun _ _ f => f.elim))
    have x0 := HM2.out.ar
    have f0 := HF2.out 11
    have hfr := HR2.out
    obtain ⟨A3, c3, j0, j1, fj0, fj1, _, _, _⟩ := HR2.out
    have hfin : ∀ b, b = (x.2.bad || decide (getE x.1 ≠ 0)) → RetRead w R B S SM (Rd.part m 97 r) (.returned (.tuple #[])) ((w2.setCell ⟨B, 11, none⟩ (.slice A2 (getL x.1).len c2)).setCell ⟨R, 1, none⟩ (.bool b)) := fun b hb => by
      subst hb
      rw [HV.out]
      have hR3 : RdAt (w2.setCell ⟨B, 11, none⟩ (.slice A2 (getL x.1).len c2)) R S x.2 := HR2.out.setFar hRB HS.out.2
      refine ⟨rfl, A2, c2, (HM2.out.set_ar HMS.out.2 _ HS2.out).tch (T := (· = R)) ((Tch.refl _ _).setCell _ _ (fun _ => rfl)) (fun e => hRB e.symm) (fun k hk e => HMS.out.1 (e ▸ hk)), hR3.setBit HS.out.1 _, ?_, fun o => ?_⟩
      · exact ((HT2.out.mono (fun b _ h => .inl h)).setCell _ _ (fun _ => .inr rfl)).setCell _ _ (fun _ => .inl rfl)
      · exact (((Tch.refl (· = R) _).setCell _ _ (fun _ => rfl)).frozen (a := ⟨B, o, none⟩) (by show B < (w2.setCell ⟨B, 11, none⟩ (.slice A2 (getL x.1).len c2)).heap.size; have := HT2.out.size; simp only [World.setCell]; simp; omega) (fun e => hRB e.symm)).trans (frozen_set HF2.out o)
    have HFIN := Kp.mk hfin
    have hRB2 : B ≠ R := fun e => hRB e.symm
    clear hs2 ht2 hfr hfin i0 i1 fi0 fi1
    cases hb : x.2.bad with
    | true =>
      rw [hb] at j1 HFIN
      clear hb
      go_wp2_with fail
      go_end0
      exact HFIN.out true rfl
    | false =>
      rw [hb] at j1 HFIN
      clear hb
      by_cases he : getE x.1 = 0
      · rw [he] at HFIN ⊢
        clear he
        go_wp2_with fail
        go_end0
        exact HFIN.out false rfl
      · have hne : (getE x.1 != 0) = true := by simpa using he
        have HE := Kp.mk he; clear he
        go_wp2_with fail
        go_end0
        exact HFIN.out true (by simp [HE.out])
  · have hv : (r.num 1).1 < 256 := num_lt' r 1
    have HV := Kp.mk (show Rd.part m 110 r = ({ m with nm := ⟨((r.num 1).2.raw (r.num 1).1).1.toArray⟩ }, ((r.num 1).2.raw (r.num 1).1).2) from rfl)
    go_enter Try.func67, Try.ntmps67
    go_wp2_with fail
    refine (part65 B 110 w (by decide)).mono ?_
    rintro e w0 ⟨rfl, rfl⟩
    rw [show fieldOf 110 = 1 from rfl]
    go_wp2_with fail
    refine (rnum66 R S r 1 1 _ rfl (by omega) HR.out HS.out.1).mono ?_
    rintro e w1 ⟨rfl, hr1, ht1⟩
    have HR1 := Kp.mk hr1; have HT1 := Kp.mk ht1; clear hr1 ht1
    go_wp2_with fail
    refine (raw84 R S (r.num 1).2 _ _ w1 rfl (by omega) HR1.out HS.out.1).mono ?_
    rintro e w2 ⟨AX, cX, rfl, hbx, hr1, ht2, hc1, hc2⟩
    have ht1 : Tch (· = R) w w2 := HT1.out.trans ht2 (fun b _ h => h)
    have hcv := run_conv (c := cX) hbx _ rfl
    clear HR1 HT1 ht2 hbx
    have hm1 := HM.out.tch ht1 (fun e => hRB e.symm) (fun b hb e => HMS.out.1 (e ▸ hb))
    have hf1 : ∀ o, w2.frozen? ⟨B, o, none⟩ = false := fun o => (ht1.frozen (a := ⟨B, o, none⟩) hBl (fun e => hRB e.symm)).trans (HFZ.out o)
    have x0 := hm1.nm
    have HM1 := Kp.mk hm1; have HR1 := Kp.mk hr1; have HF1 := Kp.mk hf1; have HT1 := Kp.mk ht1
    have f0 := hf1 1
    clear hm1 hr1 hf1 ht1
    go_wp2_with fail
    go_end0
    rw [HV.out]
    refine ⟨rfl, A, n, HM1.out.set_nm HMS.out.2 _, HR1.out.setFar hRB HS.out.2, ?_, frozen_set HF1.out⟩
    exact (HT1.out.mono (fun b _ h => .inl h)).setCell _ _ (fun _ => .inr rfl)
  · have hv : (r.num 1).1 < 256 := num_lt' r 1
    have HV := Kp.mk (show Rd.part m 121 r = ({ m with ty := ⟨((r.num 1).2.raw (r.num 1).1).1.toArray⟩ }, ((r.num 1).2.raw (r.num 1).1).2) from rfl)
    go_enter Try.func67, Try.ntmps67
    go_wp2_with fail
    refine (part65 B 121 w (by decide)).mono ?_
    rintro e w0 ⟨rfl, rfl⟩
    rw [show fieldOf 121 = 2 from rfl]
    go_wp2_with fail
    refine (rnum66 R S r 1 1 _ rfl (by omega) HR.out HS.out.1).mono ?_
    rintro e w1 ⟨rfl, hr1, ht1⟩
    have HR1 := Kp.mk hr1; have HT1 := Kp.mk ht1; clear hr1 ht1
    go_wp2_with fail
    refine (raw84 R S (r.num 1).2 _ _ w1 rfl (by omega) HR1.out HS.out.1).mono ?_
    rintro e w2 ⟨AX, cX, rfl, hbx, hr1, ht2, hc1, hc2⟩
    have ht1 : Tch (· = R) w w2 := HT1.out.trans ht2 (fun b _ h => h)
    have hcv := run_conv (c := cX) hbx _ rfl
    clear HR1 HT1 ht2 hbx
    have hm1 := HM.out.tch ht1 (fun e => hRB e.symm) (fun b hb e => HMS.out.1 (e ▸ hb))
    have hf1 : ∀ o, w2.frozen? ⟨B, o, none⟩ = false := fun o => (ht1.frozen (a := ⟨B, o, none⟩) hBl (fun e => hRB e.symm)).trans (HFZ.out o)
    have x0 := hm1.ty
    have HM1 := Kp.mk hm1; have HR1 := Kp.mk hr1; have HF1 := Kp.mk hf1; have HT1 := Kp.mk ht1
    have f0 := hf1 2
    clear hm1 hr1 hf1 ht1
    go_wp2_with fail
    go_end0
    rw [HV.out]
    refine ⟨rfl, A, n, HM1.out.set_ty HMS.out.2 _, HR1.out.setFar hRB HS.out.2, ?_, frozen_set HF1.out⟩
    exact (HT1.out.mono (fun b _ h => .inl h)).setCell _ _ (fun _ => .inr rfl)
  · have hv : (r.num 1).1 < 256 := num_lt' r 1
    have HV := Kp.mk (show Rd.part m 101 r = ({ m with ex := ⟨((r.num 1).2.raw (r.num 1).1).1.toArray⟩ }, ((r.num 1).2.raw (r.num 1).1).2) from rfl)
    go_enter Try.func67, Try.ntmps67
    go_wp2_with fail
    refine (part65 B 101 w (by decide)).mono ?_
    rintro e w0 ⟨rfl, rfl⟩
    rw [show fieldOf 101 = 3 from rfl]
    go_wp2_with fail
    refine (rnum66 R S r 1 1 _ rfl (by omega) HR.out HS.out.1).mono ?_
    rintro e w1 ⟨rfl, hr1, ht1⟩
    have HR1 := Kp.mk hr1; have HT1 := Kp.mk ht1; clear hr1 ht1
    go_wp2_with fail
    refine (raw84 R S (r.num 1).2 _ _ w1 rfl (by omega) HR1.out HS.out.1).mono ?_
    rintro e w2 ⟨AX, cX, rfl, hbx, hr1, ht2, hc1, hc2⟩
    have ht1 : Tch (· = R) w w2 := HT1.out.trans ht2 (fun b _ h => h)
    have hcv := run_conv (c := cX) hbx _ rfl
    clear HR1 HT1 ht2 hbx
    have hm1 := HM.out.tch ht1 (fun e => hRB e.symm) (fun b hb e => HMS.out.1 (e ▸ hb))
    have hf1 : ∀ o, w2.frozen? ⟨B, o, none⟩ = false := fun o => (ht1.frozen (a := ⟨B, o, none⟩) hBl (fun e => hRB e.symm)).trans (HFZ.out o)
    have x0 := hm1.ex
    have HM1 := Kp.mk hm1; have HR1 := Kp.mk hr1; have HF1 := Kp.mk hf1; have HT1 := Kp.mk ht1
    have f0 := hf1 3
    clear hm1 hr1 hf1 ht1
    go_wp2_with fail
    go_end0
    rw [HV.out]
    refine ⟨rfl, A, n, HM1.out.set_ex HMS.out.2 _, HR1.out.setFar hRB HS.out.2, ?_, frozen_set HF1.out⟩
    exact (HT1.out.mono (fun b _ h => .inl h)).setCell _ _ (fun _ => .inr rfl)
  · have hv : (r.num 1).1 < 256 := num_lt' r 1
    have HV := Kp.mk (show Rd.part m 107 r = ({ m with ky := ⟨((r.num 1).2.raw (r.num 1).1).1.toArray⟩ }, ((r.num 1).2.raw (r.num 1).1).2) from rfl)
    go_enter Try.func67, Try.ntmps67
    go_wp2_with fail
    refine (part65 B 107 w (by decide)).mono ?_
    rintro e w0 ⟨rfl, rfl⟩
    rw [show fieldOf 107 = 4 from rfl]
    go_wp2_with fail
    refine (rnum66 R S r 1 1 _ rfl (by omega) HR.out HS.out.1).mono ?_
    rintro e w1 ⟨rfl, hr1, ht1⟩
    have HR1 := Kp.mk hr1; have HT1 := Kp.mk ht1; clear hr1 ht1
    go_wp2_with fail
    refine (raw84 R S (r.num 1).2 _ _ w1 rfl (by omega) HR1.out HS.out.1).mono ?_
    rintro e w2 ⟨AX, cX, rfl, hbx, hr1, ht2, hc1, hc2⟩
    have ht1 : Tch (· = R) w w2 := HT1.out.trans ht2 (fun b _ h => h)
    have hcv := run_conv (c := cX) hbx _ rfl
    clear HR1 HT1 ht2 hbx
    have hm1 := HM.out.tch ht1 (fun e => hRB e.symm) (fun b hb e => HMS.out.1 (e ▸ hb))
    have hf1 : ∀ o, w2.frozen? ⟨B, o, none⟩ = false := fun o => (ht1.frozen (a := ⟨B, o, none⟩) hBl (fun e => hRB e.symm)).trans (HFZ.out o)
    have x0 := hm1.ky
    have HM1 := Kp.mk hm1; have HR1 := Kp.mk hr1; have HF1 := Kp.mk hf1; have HT1 := Kp.mk ht1
    have f0 := hf1 4
    clear hm1 hr1 hf1 ht1
    go_wp2_with fail
    go_end0
    rw [HV.out]
    refine ⟨rfl, A, n, HM1.out.set_ky HMS.out.2 _, HR1.out.setFar hRB HS.out.2, ?_, frozen_set HF1.out⟩
    exact (HT1.out.mono (fun b _ h => .inl h)).setCell _ _ (fun _ => .inr rfl)
  · have hv : (r.num 1).1 < 256 := num_lt' r 1
    have HV := Kp.mk (show Rd.part m 120 r = ({ m with tx := ⟨((r.num 1).2.raw (r.num 1).1).1.toArray⟩ }, ((r.num 1).2.raw (r.num 1).1).2) from rfl)
    go_enter Try.func67, Try.ntmps67
    go_wp2_with fail
    refine (part65 B 120 w (by decide)).mono ?_
    rintro e w0 ⟨rfl, rfl⟩
    rw [show fieldOf 120 = 5 from rfl]
    go_wp2_with fail
    refine (rnum66 R S r 1 1 _ rfl (by omega) HR.out HS.out.1).mono ?_
    rintro e w1 ⟨rfl, hr1, ht1⟩
    have HR1 := Kp.mk hr1; have HT1 := Kp.mk ht1; clear hr1 ht1
    go_wp2_with fail
    refine (raw84 R S (r.num 1).2 _ _ w1 rfl (by omega) HR1.out HS.out.1).mono ?_
    rintro e w2 ⟨AX, cX, rfl, hbx, hr1, ht2, hc1, hc2⟩
    have ht1 : Tch (· = R) w w2 := HT1.out.trans ht2 (fun b _ h => h)
    have hcv := run_conv (c := cX) hbx _ rfl
    clear HR1 HT1 ht2 hbx
    have hm1 := HM.out.tch ht1 (fun e => hRB e.symm) (fun b hb e => HMS.out.1 (e ▸ hb))
    have hf1 : ∀ o, w2.frozen? ⟨B, o, none⟩ = false := fun o => (ht1.frozen (a := ⟨B, o, none⟩) hBl (fun e => hRB e.symm)).trans (HFZ.out o)
    have x0 := hm1.tx
    have HM1 := Kp.mk hm1; have HR1 := Kp.mk hr1; have HF1 := Kp.mk hf1; have HT1 := Kp.mk ht1
    have f0 := hf1 5
    clear hm1 hr1 hf1 ht1
    go_wp2_with fail
    go_end0
    rw [HV.out]
    refine ⟨rfl, A, n, HM1.out.set_tx HMS.out.2 _, HR1.out.setFar hRB HS.out.2, ?_, frozen_set HF1.out⟩
    exact (HT1.out.mono (fun b _ h => .inl h)).setCell _ _ (fun _ => .inr rfl)
end Go.Proofs.Ytaeainkfllfdfaa
/- A9: Reading a call (chapter 5) as a plain function. No program in sight. -/
namespace Go.Proofs.Ytaeainkfllfdfaa
open Go.RowKit
set_option linter.unusedVariables false
set_option linter.unusedSimpArgs false

def M.zero : M := ⟨0, .empty, .empty, .empty, .empty, .empty, 0, 0, 0, false, false, .nil⟩
/-- The parts, one behind the other. -/
def Rd.partsR : List UInt8 → M → Rd → M × Rd
  | [], m, r => (m, r)
  | c :: cs, m, r => Rd.partsR cs (Rd.part m c r).1 (Rd.part m c r).2
/-- The class, the number, and what is behind them. -/
def mgC (b : List UInt8) : Nat := (Rd.num ⟨b, false⟩ 2).1
def mgI (b : List UInt8) : Nat := ((Rd.num ⟨b, false⟩ 2).2.num 2).1
def mgR (b : List UInt8) : Rd := ((Rd.num ⟨b, false⟩ 2).2.num 2).2
def mgId (b : List UInt8) : Int := (mgC b : Int) * 100 + (mgI b : Int)
/-- The call that was read. -/
def mgX (b : List UInt8) : M × Rd := Rd.partsR (partsL (mgId b)) { M.zero with id := mgId b } (mgR b)
def mgOk (b : List UInt8) : Bool := !(mgX b).2.bad && (decide ((mgX b).1.putE = 0) && decide ((mgX b).1.putB = b))
/-- What Get tells, and the call. -/
def mgE (b : List UInt8) : Int := if (mgR b).bad then 502 else if 99 < mgI b ∨ partsL (mgId b) = [45] then 503 else if mgOk b then 0 else 502
def mgM (b : List UInt8) : M := if mgE b = 0 then (mgX b).1 else M.zero

theorem M.zero_ok : M.zero.Ok := ⟨by decide, by decide, by decide, by decide, by decide, by decide, by decide, by decide, by decide, by decide, by decide, by decide, by decide, trivial, by decide⟩
theorem num_lt2 (r : Rd) : (r.num 2).1 < 65536 := num_lt' r 2
theorem mgId_le (b : List UInt8) : 0 ≤ mgId b ∧ mgId b ≤ 6619035 := by
  have h1 : mgC b < 65536 := num_lt2 _
  have h2 : mgI b < 65536 := num_lt2 _
  unfold mgId
  omega
theorem Rd.part_le (m : M) (c : UInt8) (r : Rd) : (Rd.part m c r).2.b.length ≤ r.b.length := by
  unfold Rd.part
  (repeat' split) <;> first | exact Rd.num_le _ _ | exact (r.raw_le _).2 | exact Nat.le_trans ((r.num 1).2.raw_le _).2 (Rd.num_le _ _)
theorem Rd.part_ok {m : M} (h : m.Ok) (c : UInt8) (r : Rd) (hr : r.b.length ≤ 140737488351232) : (Rd.part m c r).1.Ok := by
  have n2 := num_lt2 r
  have n4 : (r.num 4).1 < 4294967296 := num_lt' r 4
  have n8 : (r.num 8).1 < 18446744073709551616 := num_lt' r 8
  have hl := ((r.num 1).2.raw_le (r.num 1).1).1
  have hl2 := r.num_le 1
  have ht : (⟨((r.num 1).2.raw (r.num 1).1).1.toArray⟩ : ByteArray).size ≤ 140737488351232 := by rw [ba_size]; omega
  obtain ⟨a1, a2, a3, a4, a5, a6, a7, a8, a9, a10, a11, a12, a13, a14, a15⟩ := h
  unfold Rd.part
  split
  · exact ⟨a1, a2, a3, a4, a5, a6, a7, by simp only; omega, by simp only; omega, a10, a11, a12, a13, a14, a15⟩
  split
  · exact ⟨a1, a2, a3, a4, a5, a6, a7, a8, a9, by simp only; omega, by simp only; omega, a12, a13, a14, a15⟩
  split
  · exact ⟨a1, a2, a3, a4, a5, a6, a7, a8, a9, a10, a11, by simp only; omega, by simp only; omega, a14, a15⟩
  split
  · exact ⟨a1, a2, a3, a4, a5, a6, a7, a8, a9, a10, a11, a12, a13, a14, a15⟩
  split
  · exact ⟨a1, a2, a3, a4, a5, a6, a7, a8, a9, a10, a11, a12, a13, a14, a15⟩
  split
  · have hg := getL_ok (r.raw r.b.length).1 (by have := (r.raw_le r.b.length).1; omega)
    exact ⟨a1, a2, a3, a4, a5, a6, a7, a8, a9, a10, a11, a12, a13, hg.1, by have := hg.2; simp only; omega⟩
  · simp only
    split
    · exact ⟨a1, a2, ht, a4, a5, a6, a7, a8, a9, a10, a11, a12, a13, a14, a15⟩
    split
    · exact ⟨a1, a2, a3, ht, a5, a6, a7, a8, a9, a10, a11, a12, a13, a14, a15⟩
    split
    · exact ⟨a1, a2, a3, a4, ht, a6, a7, a8, a9, a10, a11, a12, a13, a14, a15⟩
    split
    · exact ⟨a1, a2, a3, a4, a5, ht, a7, a8, a9, a10, a11, a12, a13, a14, a15⟩
    · exact ⟨a1, a2, a3, a4, a5, a6, ht, a8, a9, a10, a11, a12, a13, a14, a15⟩
theorem Rd.partsR_ok : ∀ (cs : List UInt8) {m : M} (h : m.Ok) (r : Rd) (hr : r.b.length ≤ 140737488351232), (Rd.partsR cs m r).1.Ok
  | [], m, h, r, hr => h
  | c :: cs, m, h, r, hr => Rd.partsR_ok cs (Rd.part_ok h c r hr) _ (Nat.le_trans (Rd.part_le m c r) hr)
theorem mgR_le (b : List UInt8) : (mgR b).b.length ≤ b.length := Nat.le_trans (Rd.num_le _ _) (Rd.num_le ⟨b, false⟩ 2)
theorem mgX_ok (b : List UInt8) (hb : b.length ≤ 140737488351232) : (mgX b).1.Ok := by
  have h := mgId_le b
  obtain ⟨a1, a2, a3, a4, a5, a6, a7, a8, a9, a10, a11, a12, a13, a14, a15⟩ := M.zero_ok
  have hok : ({ M.zero with id := mgId b } : M).Ok := ⟨by show _ ≤ mgId b; omega, by show mgId b ≤ _; omega, a3, a4, a5, a6, a7, a8, a9, a10, a11, a12, a13, a14, a15⟩
  exact Rd.partsR_ok _ hok _ (Nat.le_trans (mgR_le b) hb)
theorem mgM_ok (b : List UInt8) (hb : b.length ≤ 140737488351232) : (mgM b).Ok := by
  unfold mgM
  split
  · exact mgX_ok b hb
  · exact M.zero_ok
end Go.Proofs.Ytaeainkfllfdfaa
