/- Contracts of the functions that the statement reaches, each walked once, and the plain laws over them, for every input that their premises name (B15, B17, B16, A5, F4). -/
import Derived.Test.YtaeainkfllfdfaaQ5
import Derived.ProofKit
import Derived.OpenShut
import Derived.Carry
import Derived.Deep.RegionHeld3
import Derived.Outline
import Derived.Deep.DeepCutAuto
/- B15: A table among the arguments: what its reading as data says of the slice and of what it leads to. -/
namespace Go.Proofs.Ytaeainkfllfdfaa
open Go.RowKit Go.ChangeShapes Go.WideShapes Go.ChangeAt
set_option linter.unusedVariables false
set_option linter.unusedSimpArgs false
set_option maxRecDepth 100000

theorem cells37 : Try.prog.cellsOf 37 = 5 := by kernel_rfl
theorem cells34 : Try.prog.cellsOf 34 = 4 := by kernel_rfl
theorem cells9 : Try.prog.cellsOf 9 = 1 := by kernel_rfl
theorem cells3 : Try.prog.cellsOf 3 = 1 := by kernel_rfl
theorem cells2 : Try.prog.cellsOf 2 = 1 := by kernel_rfl
theorem cells22 : Try.prog.cellsOf 22 = 1 := by kernel_rfl
theorem bytes37 : Try.prog.bytesOf 37 = 72 := by kernel_rfl

theorem weightsAll_mem {H : Type} {P : Program} {e : TypeId} : ∀ {l : List (DataW H)} {d : DataW H}, d ∈ l → ∀ n ∈ d.weights P e, n ∈ DataW.weightsAll P e l
  | x :: r, d, h, n, hn => by
    simp only [DataW.weightsAll, List.mem_append]
    rcases List.mem_cons.1 h with rfl | h
    · exact .inl hn
    · exact .inr (weightsAll_mem h n hn)

/-- Items one behind the other make a table. -/
theorem build_items {w : World} {S : Nat → Prop} (b off : Nat) : ∀ len, (∀ i, i < len → ∃ (x : It) (A : Option Addr) (c : Nat), x.Ok ∧ Sl w S A x.it ∧
      ∀ j u, [Value.string x.nm, .int .i64 x.k, .int .i64 x.n, .string x.s, .slice A x.it.len c][j]? = some u → w.cell? ⟨b, off + (i * 5 + j), none⟩ = some u) →
    ∃ (l : L) (us : List Value), l.len = len ∧ l.Ok ∧ Vals w S l us ∧ ∀ j u, us[j]? = some u → w.cell? ⟨b, off + j, none⟩ = some u
  | 0, _ => ⟨.nil, [], rfl, trivial, rfl, fun j u h => by simp at h⟩
  | len + 1, h => by
    obtain ⟨l, us, h1, h2, h3, h4⟩ := build_items b off len (fun i hi => h i (by omega))
    obtain ⟨x, A, c, hx, hs, hc⟩ := h len (by omega)
    refine ⟨l.app (L.one x), us ++ [.string x.nm, .int .i64 x.k, .int .i64 x.n, .string x.s, .slice A x.it.len c], by rw [L.len_app, L.len_one, h1], h2.app ⟨hx.1, hx.2, trivial⟩, Vals.app h3 ⟨A, c, [], rfl, hs, rfl⟩, fun j u hj => ?_⟩
    have hl : us.length = len * 5 := by rw [h3.length, h1]
    by_cases hlt : j < us.length
    · rw [List.getElem?_append_left hlt] at hj
      exact h4 j u hj
    · rw [List.getElem?_append_right (by omega)] at hj
      have := hc (j - us.length) u hj
      rwa [show off + (len * 5 + (j - us.length)) = off + j from by omega] at this

section
variable {H : Type} {enc : TypeId × Value → H} {w : World} {sp : Nat → Bool} {held : Bool}

/-- What a reading of a table's cells says. -/
def Opens (w : World) (cs : List Value) : Prop :=
  ∃ (A : Option Addr) (c : Nat) (l : L), cs = [.slice A l.len c] ∧ Sl w (fun b => b < w.heap.size) A l ∧ l.Ok ∧ l.len ≤ 140737488351232 ∧ l.len ≤ c ∧ c ≤ maxLen

theorem open_item (f : Nat) (ih : ∀ g, g < f → ∀ (cs : List Value) (x : DataW H × List MemPlace), DataW.trod enc Try.prog w 0 sp held g 22 cs = some x → (∀ m ∈ x.1.weights Try.prog 22, m ≤ reachBytes) → Opens w cs)
    (cs : List Value) (x : DataW H × List MemPlace) (h : DataW.trod enc Try.prog w 0 sp held f 37 cs = some x) (hw : ∀ m ∈ x.1.weights Try.prog 37, m ≤ reachBytes) :
    ∃ (y : It) (A : Option Addr) (c : Nat), y.Ok ∧ Sl w (fun b => b < w.heap.size) A y.it ∧ cs = [Value.string y.nm, .int .i64 y.k, .int .i64 y.n, .string y.s, .slice A y.it.len c] := by
  obtain ⟨xs, n, rfl, rfl, hl, hxl, hf⟩ := DataW.trod_struct Try.underlying37 h
  rw [cells37] at hl
  have hf0 : DataW.trod enc Try.prog w 0 sp held n 9 ((cs.drop 0).take (Try.prog.cellsOf 9)) = xs[0]? := hf 0 _ rfl
  have hf1 : DataW.trod enc Try.prog w 0 sp held n 34 ((cs.drop 1).take (Try.prog.cellsOf 34)) = xs[1]? := hf 1 _ rfl
  rw [cells9] at hf0
  rw [cells34] at hf1
  obtain ⟨x0, x1, rfl⟩ : ∃ x0 x1, xs = [x0, x1] := by
    match xs, hxl with
    | [x0, x1], _ => exact ⟨x0, x1, rfl⟩
  simp only [List.getElem?_cons_zero, List.getElem?_cons_succ] at hf0 hf1
  obtain ⟨nm, c0, r0, hnm⟩ := DataW.trod_string Try.underlying9 hf0
  obtain ⟨ys, n2, rfl, rfl, hl2, hyl, hg⟩ := DataW.trod_struct Try.underlying34 hf1
  have hg0 : DataW.trod enc Try.prog w 0 sp held n2 3 ((((cs.drop 1).take 4).drop 0).take (Try.prog.cellsOf 3)) = ys[0]? := hg 0 _ rfl
  have hg1 : DataW.trod enc Try.prog w 0 sp held n2 2 ((((cs.drop 1).take 4).drop 1).take (Try.prog.cellsOf 2)) = ys[1]? := hg 1 _ rfl
  have hg2 : DataW.trod enc Try.prog w 0 sp held n2 9 ((((cs.drop 1).take 4).drop 2).take (Try.prog.cellsOf 9)) = ys[2]? := hg 2 _ rfl
  have hg3 : DataW.trod enc Try.prog w 0 sp held n2 22 ((((cs.drop 1).take 4).drop 3).take (Try.prog.cellsOf 22)) = ys[3]? := hg 3 _ rfl
  rw [cells3] at hg0
  rw [cells2] at hg1
  rw [cells9] at hg2
  rw [cells22] at hg3
  obtain ⟨y0, y1, y2, y3, rfl⟩ : ∃ y0 y1 y2 y3, ys = [y0, y1, y2, y3] := by
    match ys, hyl with
    | [y0, y1, y2, y3], _ => exact ⟨y0, y1, y2, y3, rfl⟩
  simp only [List.getElem?_cons_zero, List.getElem?_cons_succ] at hg0 hg1 hg2 hg3
  obtain ⟨k, d0, q0, hk⟩ := DataW.trod_int Try.underlying3 hg0
  obtain ⟨m, d1, q1, hm⟩ := DataW.trod_int Try.underlying2 hg1
  obtain ⟨s, d2, q2, hs⟩ := DataW.trod_string Try.underlying9 hg2
  subst r0; subst q0; subst q1; subst q2
  obtain ⟨A, c, it, d3, hsl, hok, hle, _, _⟩ := ih n2 (by omega) _ _ hg3 (fun m hm => hw m (by
    simp [DataW.weights, DataW.weightsEach, Try.underlying37, Try.underlying34]
    exact .inr (.inr hm)))
  have wn : nm.data.toList.length ≤ reachBytes := hw _ (by simp [DataW.weights, DataW.weightsEach, Try.underlying37, Try.underlying34])
  have ws : s.data.toList.length ≤ reachBytes := hw _ (by simp [DataW.weights, DataW.weightsEach, Try.underlying37, Try.underlying34])
  have hkb := bounds_i64 hk
  have hmb := bounds_i64 hm
  have e1 : nm.data.toList.length = nm.size := Array.length_toList
  have e2 : s.data.toList.length = s.size := Array.length_toList
  refine ⟨⟨nm, k, m, s, it⟩, A, c, ⟨⟨?_, ?_, hle, hkb.1, hkb.2, hmb.1, hmb.2⟩, hok⟩, hsl, ?_⟩
  · simp only [reachBytes] at wn; simp only; omega
  · simp only [reachBytes] at ws; simp only; omega
  · match cs, hl with
    | [v0, v1, v2, v3, v4], _ =>
      simp at c0 d0 d1 d2 d3
      simp [c0, d0, d1, d2, d3]

theorem open_items : ∀ (f : Nat) (cs : List Value) (x : DataW H × List MemPlace), DataW.trod enc Try.prog w 0 sp held f 22 cs = some x → (∀ m ∈ x.1.weights Try.prog 22, m ≤ reachBytes) → Opens w cs := by
  intro f
  induction f using Nat.strongRecOn with
  | ind f ih =>
    intro cs x h hw
    rcases DataW.trod_slice Try.underlying22 h with ⟨rfl, rfl⟩ | ⟨a, len, cap, elems, rest, n, rfl, rfl, rfl, hb, hlc, hcm, hlen, hel, _, _⟩
    · exact ⟨none, 0, .nil, rfl, Sl.nil _ _ _, trivial, Nat.zero_le _, Nat.zero_le _, Nat.zero_le _⟩
    · subst hlen
      have hwt : (elems.length + rest.length) * 72 ≤ reachBytes := hw _ (by simp [DataW.weights, Try.underlying22, bytes37])
      have hlen2 : elems.length ≤ 140737488351232 := by
        simp only [reachBytes] at hwt; omega
      by_cases hz : elems.length = 0
      · rw [hz]
        exact ⟨some a, cap, .nil, rfl, Sl.nil _ _ _, trivial, Nat.zero_le _, Nat.zero_le _, hcm⟩
      have hget : ∀ i, i < elems.length → ∃ cs5 e, w.cells? 0 (a.add (i * 5)) 5 = some cs5 ∧ DataW.trod enc Try.prog w 0 sp held n 37 cs5 = some e ∧ elems[i]? = some e := by
        intro i hi
        have := hel i hi
        rw [cells37] at this
        rw [List.getElem?_eq_getElem hi] at this
        obtain ⟨cs5, h1, h2⟩ := Option.bind_eq_some_iff.1 this
        exact ⟨cs5, _, h1, h2, List.getElem?_eq_getElem hi⟩
      have hcell : ∀ (p : Addr) (cs5 : List Value), w.cells? 0 p 5 = some cs5 → cs5.length = 5 ∧ ∀ j u, cs5[j]? = some u → w.cell? (p.add j) = some u := by
        intro p cs5 hc
        unfold World.cells? at hc
        rw [if_pos (Nat.zero_le _)] at hc
        have hl := mapM_some_length hc
        simp at hl
        refine ⟨hl, fun j u hj => ?_⟩
        have hjl : j < 5 := by have := (List.getElem?_eq_some_iff.1 hj).1; omega
        have := mapM_some_get hc j j (by simp [hjl])
        rw [this, hj]
      obtain ⟨b, off, spot⟩ := a
      have hspot : spot = none ∧ b < w.heap.size := by
        obtain ⟨cs5, e, h1, _, _⟩ := hget 0 (by omega)
        obtain ⟨hl, hc⟩ := hcell _ _ h1
        obtain ⟨v, hv⟩ : ∃ v, cs5[0]? = some v := ⟨cs5[0], List.getElem?_eq_getElem (by omega)⟩
        have := hc 0 v hv
        cases spot with
        | none => exact ⟨rfl, World.block_lt_of_cell? w _ this⟩
        | some z =>
          simp [World.cell?, Addr.add] at this
          split at this <;> simp at this
      obtain ⟨rfl, hbl⟩ := hspot
      obtain ⟨l, us, hl1, hl2, hl3, hl4⟩ := build_items (w := w) (S := fun b => b < w.heap.size) b off elems.length (fun i hi => by
        obtain ⟨cs5, e, h1, h2, h3⟩ := hget i hi
        obtain ⟨hlc5, hc5⟩ := hcell _ _ h1
        obtain ⟨y, A, c, hy, hs, rfl⟩ := open_item n (fun g hg => ih g (by omega)) cs5 e h2 (fun m hm => hw m (by
          simp only [DataW.weights, Try.underlying22, List.mem_cons, List.mem_append]
          exact .inr (.inl (weightsAll_mem (List.mem_map.2 ⟨e, List.mem_of_getElem? h3, rfl⟩) m hm))))
        refine ⟨y, A, c, hy, hs, fun j u hj => ?_⟩
        have := hc5 j u hj
        rw [Addr.add_lit, Addr.add_lit, Nat.add_assoc] at this
        exact this)
      exact ⟨some ⟨b, off, none⟩, cap, l, by rw [hl1], .inr ⟨b, off, us, rfl, hbl, hl3, hl4⟩, hl2, by omega, by omega, hcm⟩
end
end Go.Proofs.Ytaeainkfllfdfaa
/- B17: A table as an argument of a row: opened as data, and read once more behind a call that turns nothing. -/
namespace Go.Proofs.Ytaeainkfllfdfaa
open Go.RowKit Go.ChangeShapes Go.WideShapes Go.ChangeAt
set_option linter.unusedVariables false
set_option linter.unusedSimpArgs false
set_option maxRecDepth 100000

theorem laidOut : laidOutB Try.prog = true := by kernel_rfl
theorem rec22 : Try.prog.readableRec 22 = true := by kernel_rfl
theorem row22 : 22 < Try.prog.types.size := of_decide_eq_true (by kernel_rfl)

theorem open_tab {H : Type} {enc : TypeId × Value → H} {W : World} {base : Nat} {sp : Nat → Bool} {held : Bool} {v : Value} {d : DataW H} {p : List MemPlace} (hv : Value.okWide Try.prog W .any base 22 v)
    (h : DataW.Trod enc Try.prog W 0 sp held 22 v d p) (hw : ∀ m ∈ d.weights Try.prog 22, m ≤ reachBytes) :
    ∃ (A : Option Addr) (c : Nat) (l : L), v = .slice A l.len c ∧ Sl W (fun b => b < W.heap.size) A l ∧ l.Ok ∧ l.len ≤ 140737488351232 ∧ l.len ≤ c ∧ c ≤ maxLen := by
  obtain ⟨a0, n, cap, rfl⟩ := okWide_slice Try.underlying22 hv
  obtain ⟨f, hf⟩ := h
  obtain ⟨A, c, l, e, r⟩ := open_items f _ _ hf hw
  simp [Value.cells] at e
  obtain ⟨rfl, rfl, rfl⟩ := e
  exact ⟨_, _, l, rfl, r⟩
/-- It reads as it did. -/
theorem tab_still {H : Type} {enc : TypeId × Value → H} {W W' : World} {v : Value} {d : DataW H} {p : List MemPlace} (h : DataW.Trod enc Try.prog W 0 (fun _ => true) true 22 v d p) (hb : Still W W') :
    DataW.Trod enc Try.prog W' 0 (fun b => decide (b < W.heap.size)) true 22 v d p :=
  Below.trod laidOut rec22 row22 h hb.below (fun x hx => by obtain ⟨f, hf⟩ := h; exact DataW.trod_lt f 22 _ _ hf x hx)
/-- A byte among the arguments. -/
theorem byte_of {a : Int} (h : (Lit.int .u8 a).wf = true) : ∃ u : UInt8, a = (u.toNat : Int) := by
  simp [Lit.wf, IntKind.min, IntKind.max, IntKind.signed, IntKind.bits] at h
  refine ⟨UInt8.ofNat a.toNat, ?_⟩
  rw [UInt8.toNat_ofNat']
  omega
end Go.Proofs.Ytaeainkfllfdfaa
/- B16: How many items: carrefourlaw3.size and Few: they answer, and nothing turns. -/
namespace Go.Proofs.Ytaeainkfllfdfaa
open Go.RowKit
set_option linter.unusedVariables false
set_option linter.unusedSimpArgs false
set_option maxRecDepth 100000

/-- The contract of size at one table. -/
def SizeC (l : L) : Prop := ∀ (D : Int) (A : Option Addr) (c : Nat) (S : Nat → Prop) (w : World), 0 ≤ D → D ≤ 9 → l.len ≤ 140737488351232 → l.Ok → Sl w S A l →
  Calls Try.prog 40 #[.slice A l.len c, .int .i64 D] w fun e w' => (∃ m : Int, e = .returned (.int .i64 m) ∧ 0 ≤ m ∧ m ≤ 201) ∧ Still w w'
theorem SizeC.use {l : L} (h : SizeC l) (D : Int) (A : Option Addr) (c : Nat) (S : Nat → Prop) (w : World) (h1 : 0 ≤ D) (h2 : D ≤ 9) (h3 : l.len ≤ 140737488351232) (h4 : l.Ok) (h5 : Sl w S A l) :
  Calls Try.prog 40 #[.slice A l.len c, .int .i64 D] w fun e w' => (∃ m : Int, e = .returned (.int .i64 m) ∧ 0 ≤ m ∧ m ≤ 201) ∧ Still w w' := h D A c S w h1 h2 h3 h4 h5

set_option maxHeartbeats 8000000 in
theorem sizeC : ∀ l, SizeC l := L.ind fun l ih => by
  intro D A c S w h0 h9 hl hO hS
  have HI := Kp.mk ih; clear ih
  have HO := Kp.mk hO; clear hO
  have HS := Kp.mk hS; clear hS
  by_cases hdp : 8 < D
  · go_enter Try.func40, Try.ntmps40
    go_wp2_with fail
    go_ret
    exact ⟨⟨201, rfl, by omega, by omega⟩, Still.refl _⟩
  · go_enter Try.func40, Try.ntmps40
    go_wp2_with fail
    go_loopw [5, 6] (fun v i wr => ∃ (j : Nat) (x : Int), j ≤ l.len ∧ i = .int .i64 j ∧ v = .int .i64 x ∧ 0 ≤ x ∧ x ≤ 401 ∧ Kp (Still w wr)) (fun _ i _ => (l.len - intOf i).toNat)
    case atStart => exact ⟨0, 1, by omega, rfl, rfl, by omega, by omega, ⟨Still.refl _⟩⟩
    case round =>
      obtain ⟨j, x, hj, rfl, rfl, hx0, hx1, HT⟩ := hrel
      by_cases hlt : j < l.len ∧ x ≤ 200
      · obtain ⟨hjl, hx2⟩ := hlt
        obtain ⟨b, o, rfl, hb, hat⟩ := (HS.out.still HT.out).at (by omega : 0 < l.len)
        obtain ⟨A', ca', p0, p1, p2, p3, p4, hsa⟩ := hat j hjl
        have HSA := Kp.mk hsa
        have hbig : (l.get j).nm.size ≤ 140737488351232 := (HO.out.get j hjl).1.1
        have hbig2 : (l.get j).s.size ≤ 140737488351232 := (HO.out.get j hjl).1.2.1
        clear hat hsa
        by_cases hb1 : 300 < (l.get j).nm.size
        · go_wp2_with fail
          go_ret
          exact ⟨⟨201, rfl, by omega, by omega⟩, HT.out⟩
        by_cases hb2 : 1000 < (l.get j).s.size
        · go_wp2_with fail
          go_ret
          exact ⟨⟨201, rfl, by omega, by omega⟩, HT.out⟩
        go_wp2_with fail
        refine ((HI.out j hjl).use _ A' ca' _ wr (by omega) (by omega) (HO.out.get j hjl).1.2.2.1 (HO.out.get j hjl).2 HSA.out).mono ?_
        rintro e w1 ⟨⟨m, rfl, hm0, hm1⟩, ht1⟩
        have HT1 := Kp.mk (HT.out.strans ht1); clear ht1 p0 p1 p2 p3 p4
        go_wp2_with fail
        go_roundw
        case rel => exact ⟨j + 1, x + m, by omega, by go_num, by go_num, by omega, by omega, HT1⟩
        case measure => go_light; simp only [intOf]; omega
      · by_cases hjl : j < l.len
        · have hx2 : 200 < x := by omega
          by_cases hx3 : x ≤ 201
          · go_wp2_with fail
            go_ret
            exact ⟨⟨x, rfl, by omega, by omega⟩, HT.out⟩
          · go_wp2_with fail
            go_ret
            exact ⟨⟨201, rfl, by omega, by omega⟩, HT.out⟩
        · have hje : j = l.len := by omega
          subst hje
          by_cases hx3 : x ≤ 201
          · go_wp2_with fail
            go_ret
            exact ⟨⟨x, rfl, by omega, by omega⟩, HT.out⟩
          · go_wp2_with fail
            go_ret
            exact ⟨⟨201, rfl, by omega, by omega⟩, HT.out⟩

theorem few16 (l : L) (A : Option Addr) (c : Nat) (S : Nat → Prop) (w : World) (hl : l.len ≤ 140737488351232) (hO : l.Ok) (hS : Sl w S A l) :
    Calls Try.prog 16 #[.slice A l.len c] w fun e w' => (∃ b : Bool, e = .returned (.bool b)) ∧ Still w w' := by
  have C := Kp.mk ((sizeC l).use 1 A c S w (by omega) (by omega) hl hO hS)
  clear hO hS
  go_enter Try.func16, Try.ntmps16
  go_wp2_with (refine C.out.mono ?_; rintro e w1 ⟨⟨m, rfl, hm0, hm1⟩, hw1⟩)
  go_ret
  exact ⟨⟨_, rfl⟩, hw1⟩
end Go.Proofs.Ytaeainkfllfdfaa
/- A5: Plain laws on tables that may be: their names differ; one swapped may be too; one item twice may not. No program in sight. -/
namespace Go.Proofs.Ytaeainkfllfdfaa
open Go.RowKit
set_option linter.unusedVariables false
set_option linter.unusedSimpArgs false

theorem seenB_names (l : L) (x : ByteArray) : ∀ j, seenB (l.names j) x = true ↔ ∃ i, i < j ∧ (l.get i).nm = x
  | 0 => by simp [L.names, seenB]
  | j + 1 => by
    have ih := seenB_names l x j
    unfold seenB at ih ⊢
    simp only [L.names, List.any_cons, Bool.or_eq_true, decide_eq_true_eq]
    rw [ih]
    constructor
    · rintro (h | ⟨i, hi, h⟩)
      · exact ⟨j, by omega, h⟩
      · exact ⟨i, by omega, h⟩
    · rintro ⟨i, hi, h⟩
      by_cases e : i = j
      · subst e; exact .inl h
      · exact .inr ⟨i, by omega, h⟩
theorem mayTab_iff (d : Nat) (l : L) : l.mayTab d = true ↔ d ≤ 4 ∧ l.len ≤ 32 ∧ (∀ j, j < l.len → 1 ≤ (l.get j).nm.size ∧ (l.get j).nm.size ≤ 40 ∧ (l.get j).may d = true) ∧ ∀ i j, i < j → j < l.len → (l.get i).nm ≠ (l.get j).nm := by
  unfold L.mayTab
  simp only [Bool.and_eq_true, decide_eq_true_eq, L.mayIts_all]
  constructor
  · rintro ⟨⟨h1, h2⟩, h3⟩
    refine ⟨h1, h2, fun j hj => ?_, fun i j hij hj e => ?_⟩
    · have := h3 j hj
      unfold It.ok at this
      simp only [Bool.and_eq_true, decide_eq_true_eq] at this
      exact ⟨this.1.1.1, this.1.1.2, this.2⟩
    · have := h3 j hj
      unfold It.ok at this
      simp only [Bool.and_eq_true, decide_eq_true_eq, Bool.not_eq_true'] at this
      have hs := (seenB_names l (l.get j).nm j).2 ⟨i, hij, e⟩
      rw [this.1.2] at hs; cases hs
  · rintro ⟨h1, h2, h3, h4⟩
    refine ⟨⟨h1, h2⟩, fun j hj => ?_⟩
    obtain ⟨a, b, c⟩ := h3 j hj
    unfold It.ok
    simp only [Bool.and_eq_true, decide_eq_true_eq, Bool.not_eq_true']
    refine ⟨⟨⟨a, b⟩, ?_⟩, c⟩
    cases hs : seenB (l.names j) (l.get j).nm with
    | false => rfl
    | true =>
      obtain ⟨i, hi, e⟩ := (seenB_names l (l.get j).nm j).1 hs
      exact absurd e (h4 i j hi hj)
theorem may_distinct {d : Nat} {l : L} (h : l.mayTab d = true) {i j : Nat} (hi : i < l.len) (hj : j < l.len) (e : (l.get i).nm = (l.get j).nm) : i = j := by
  obtain ⟨_, _, _, h4⟩ := (mayTab_iff d l).1 h
  rcases Nat.lt_trichotomy i j with hij | hij | hij
  · exact absurd e (h4 i j hij hj)
  · exact hij
  · exact absurd e.symm (h4 j i hij hi)
/-- What is found is the item's own. -/
theorem find_may {d : Nat} {l : L} (h : l.mayTab d = true) {k : Nat} (hk : k < l.len) : l.find (l.get k).nm = l.get k :=
  L.find_at _ l k hk rfl (fun j hj e => by have := may_distinct h (by omega : j < l.len) hk e; omega)
/-- An item twice. -/
theorem twice_may {d : Nat} {l : L} {k : Nat} (hk : k < l.len) : (l.app (L.one (l.get k))).mayTab d = false := by
  cases h : (l.app (L.one (l.get k))).mayTab d with
  | false => rfl
  | true =>
    have hl : (l.app (L.one (l.get k))).len = l.len + 1 := by rw [L.len_app, L.len_one]
    have e1 : (l.app (L.one (l.get k))).get k = l.get k := L.get_app_left _ _ _ hk
    have e2 : (l.app (L.one (l.get k))).get l.len = l.get k := by
      have := L.get_app_right l (L.one (l.get k)) 0
      rw [Nat.add_zero] at this
      rw [this]; rfl
    have := may_distinct h (i := k) (j := l.len) (by omega) (by omega) (by rw [e1, e2])
    omega
/-- Two items swapped. -/
def L.swap (l : L) (i k : Nat) : L := (l.set i (l.get k)).set k (l.get i)
theorem swap_len (l : L) (i k : Nat) : (l.swap i k).len = l.len := by unfold L.swap; rw [L.len_set, L.len_set]
theorem swap_get (l : L) {i k : Nat} (hi : i < l.len) (hk : k < l.len) (j : Nat) : (l.swap i k).get j = l.get (if j = k then i else if j = i then k else j) := by
  unfold L.swap
  rw [L.get_set _ _ _ _ (by rw [L.len_set]; exact hk), L.get_set _ _ _ _ hi]
  split
  · rfl
  split
  · rfl
  · rfl
theorem swap_eq {d : Nat} {l : L} (h : l.mayTab d = true) {i k : Nat} (hi : i < l.len) (hk : k < l.len) : l = l.swap i k ↔ i = k := by
  constructor
  · intro e
    have : (l.get i).nm = ((l.swap i k).get i).nm := by rw [← e]
    rw [swap_get l hi hk] at this
    by_cases hik : i = k
    · exact hik
    · rw [if_neg hik, if_pos rfl] at this
      exact may_distinct h hi hk this
  · rintro rfl
    refine L.ext_get _ _ (swap_len l i i).symm (fun j hj => ?_)
    rw [swap_get l hi hi]
    by_cases hj2 : j = i
    · subst hj2; simp
    · simp [hj2]
theorem swap_may {d : Nat} {l : L} (h : l.mayTab d = true) {i k : Nat} (hi : i < l.len) (hk : k < l.len) : (l.swap i k).mayTab d = true := by
  have hd := @may_distinct d l h
  obtain ⟨h1, h2, h3, h4⟩ := (mayTab_iff d l).1 h
  refine (mayTab_iff d _).2 ⟨h1, by rw [swap_len]; exact h2, fun j hj => ?_, fun a b hab hb e => ?_⟩
  · rw [swap_len] at hj
    rw [swap_get l hi hk]
    refine h3 _ ?_
    split
    · exact hi
    split
    · exact hk
    · exact hj
  · rw [swap_len] at hb
    rw [swap_get l hi hk, swap_get l hi hk] at e
    have := hd (by split; exact hi; split; exact hk; omega) (by split; exact hi; split; exact hk; omega) e
    split at this <;> split at this <;> (try split at this) <;> (try split at this) <;> omega
theorem L.Ok.set {l : L} (h : l.Ok) (i : Nat) {x : It} (hx : x.Ok) : (l.set i x).Ok := by
  induction l generalizing i with
  | nil => trivial
  | cons nm k n s it rest _ ih =>
    cases i with
    | zero => exact ⟨hx.1, hx.2, h.2.2⟩
    | succ i => exact ⟨h.1, h.2.1, ih h.2.2 i⟩
theorem swap_ok {l : L} (h : l.Ok) {i k : Nat} (hi : i < l.len) (hk : k < l.len) : (l.swap i k).Ok := (h.set i (h.get k hk)).set k (h.get i hi)
/-- All but the first. -/
theorem drop_ne {l : L} (h : 0 < l.len) : l ≠ l.drop 1 := fun e => by
  have := congrArg L.len e
  rw [L.len_drop] at this
  omega
theorem L.Ok.drop {l : L} (h : l.Ok) (i : Nat) : (l.drop i).Ok := by
  induction i generalizing l with
  | zero => exact h
  | succ i ih =>
    cases l with
    | nil => trivial
    | cons _ _ _ _ _ _ => exact ih h.2.2

/-- What is a table's bytes has them all: the first four say how many there are. -/
theorem getOk_form {b : List UInt8} (h : getOk b = true) : 4 ≤ b.length ∧ b.length = 4 + val (b.take 4) ∧ (getR b).1.putB = b ∧ (getR b).1.putE = 0 := by
  unfold getOk at h
  simp only [Bool.and_eq_true, decide_eq_true_eq] at h
  obtain ⟨_, h1, h2⟩ := h
  by_cases hm : (getR b).1.mayTab 1 = true
  · by_cases hl : 3000 < (getR b).1.enc.length
    · simp [L.putE, hm, hl] at h1
    · have h3 := h2
      simp only [L.putB, hm, hl, if_true, if_false] at h3
      have hbl : (getR b).1.enc.length = 4 + (getR b).1.encI.length := by simp [L.enc, be_length]
      have hv : val ((getR b).1.enc.take 4) = (getR b).1.encI.length := by
        unfold L.enc
        rw [List.take_left' (be_length _ 4), val_be, Nat.mod_eq_of_lt (by omega)]
      rw [h3] at hbl hv hl
      exact ⟨by omega, by omega, h2, h1⟩
  · simp [L.putE, hm] at h1
/-- A part cut off, or more behind: no table. -/
theorem getOk_cut {b : List UInt8} (h : getOk b = true) {b' : List UInt8} (hne : b'.length ≠ b.length) (hpre : b'.take 4 = b.take 4 ∨ b'.length < 4) : getOk b' = false := by
  cases h' : getOk b' with
  | false => rfl
  | true =>
    obtain ⟨h1, h2, _, _⟩ := getOk_form h
    obtain ⟨k1, k2, _, _⟩ := getOk_form h'
    rcases hpre with hp | hp
    · rw [hp] at k2; omega
    · omega
end Go.Proofs.Ytaeainkfllfdfaa
/- F4: The walk of ValueFinds. -/
namespace Go.Proofs.Ytaeainkfllfdfaa
open Go.RowKit
set_option linter.unusedVariables false
set_option linter.unusedSimpArgs false
set_option maxRecDepth 100000

/-- A number's rest by a length: a place. -/
theorem remL (i : Int) (n : Nat) (h0 : 0 < n) (h1 : n ≤ 140737488351232) : ∃ k : Nat, wrap64 ((IntKind.u64.wrap i).tmod (n : Int)) = k ∧ k < n := by
  have h2 : 0 ≤ IntKind.u64.wrap i := by simp only [IntKind.wrap]; exact Int.emod_nonneg _ (by decide)
  rw [Int.tmod_eq_emod_of_nonneg h2]
  have h3 := Int.emod_nonneg (IntKind.u64.wrap i) (show (n : Int) ≠ 0 by omega)
  have h4 := Int.emod_lt_of_pos (IntKind.u64.wrap i) (show (0 : Int) < n by omega)
  generalize (IntKind.u64.wrap i) % (n : Int) = r at *
  exact ⟨r.toNat, by unfold wrap64; omega, by omega⟩

theorem step_appI {ops : Array Oper} {o : Oper} {a : Act} {K : Act → World → Prop} {Q : Exit → Act → World → Prop} (w : World) (hw : Region.wanted o (yielded ops a.tmps) = true) (s x : Operand)
    (hop : o.op = Op.call { callee := Callee.builtin Builtin.append, args := #[s, x], argTypes := #[22, 22] })
    (base : Nat) (S T : Nat → Prop) (A : Option Addr) (c n m : Nat) (l xs : L) (hs : a.eval s = .slice A n c) (hn : n = l.len) (ho : OwnI w base S A c l) (B : Option Addr) (cB : Nat) (vs : List Value)
    (hx : a.eval x = .slice B m cB) (hm : m = xs.len) (hB : xs.len = 0 ∨ ∃ b off, B = some ⟨b, off, none⟩ ∧ ∀ j u, vs[j]? = some u → w.cell? ⟨b, off + j, none⟩ = some u) (hv : Vals w T xs vs) (hT : ∀ b, T b → b < w.heap.size → S b ∧ ¬ blk A b)
    (hlen : l.len + xs.len ≤ 1099511627776) (hbase : base ≤ w.heap.size)
    (hK : ∀ A' c' w', OwnI w' base S A' c' (l.app xs) → Tch (blk A) w w' → (∀ b, blk A' b → blk A b ∨ w.heap.size ≤ b) → K (a.put o.dst (.slice A' (n + m) c')) w') :
    if Region.wanted o (yielded ops a.tmps) = true then Oper.wp Try.prog o a w K Q else K (a.put o.dst undef) w := by
  rw [if_pos hw]; exact wp_appI w s x hop base S T A c n m l xs hs hn ho B cB vs hx hm hB hv hT hlen hbase hK

/-- A row of no items that was just laid. -/
theorem OwnI.made {w : World} {base g : Nat} (S : Nat → Prop) (h : w.heap[g]? = some (.cells #[] 37)) (hb : base ≤ g) : OwnI w base S (some ⟨g, 0, none⟩) 0 .nil :=
  ⟨[], ⟨rfl, .inr ⟨g, 0, #[], rfl, hb, h, Nat.le_refl _, by decide, rfl, rfl⟩⟩, rfl⟩
theorem hn1 (W : World) (o : Obj) : (W.alloc o).drew.heap[W.heap.size]? = some o := heap_alloc_new W o
theorem hn3 (W : World) (o o' : Obj) : ((W.alloc o).alloc o').drew.heap[W.heap.size + 1]? = some o' := by
  have := heap_alloc_new (W.alloc o) o'
  rwa [World.size_alloc] at this
theorem hn2 (W : World) (o o' : Obj) : ((W.alloc o).alloc o').drew.heap[W.heap.size]? = some o :=
  (Below.heap_alloc (W.alloc o) o' W.heap.size (by simp)).trans (heap_alloc_new W o)
theorem app_still {W Wx w2 : World} {g : Nat} (h : Still W Wx) (hg : W.heap.size ≤ g) (ht : Tch (blk (some ⟨g, 0, none⟩)) Wx w2) : Still W w2 :=
  h.trans ht (fun b hb ⟨y, hy, e⟩ => by simp only [Option.some.injEq] at hy; subst hy; simp only at e; omega)
theorem app_still2 {W Wx w2 : World} {A : Option Addr} (h : Still W Wx) (hg : ∀ b, blk A b → W.heap.size ≤ b) (ht : Tch (blk A) Wx w2) : Still W w2 :=
  h.trans ht (fun b hb e => by have := hg b e; omega)
theorem cn1 {W w2 : World} {g j : Nat} {us : List Value} {e e0 : Obj} {u : Value} (he : e = .cells us.toArray 37) (h : Tch (blk (some ⟨g, 0, none⟩)) ((W.alloc e0).alloc e).drew w2) (hg : g = W.heap.size) (hj : us[j]? = some u) : w2.cell? ⟨W.heap.size + 1, j, none⟩ = some u :=
  h.cell (a := ⟨W.heap.size + 1, j, none⟩) (by subst he; exact cell_new' (W := W.alloc e0) (by simp) (by rw [← hj]; simp only [List.getElem?_toArray])) (fun ⟨y, hy, e⟩ => by simp only [Option.some.injEq] at hy; subst hy; simp only at e; omega)
theorem cn2 {W w2 : World} {g j : Nat} {us : List Value} {e e0 : Obj} {u : Value} (he : e = .cells us.toArray 37) (h : Tch (blk (some ⟨g, 0, none⟩)) ((W.alloc e).alloc e0).drew w2) (hg : g = W.heap.size + 1) (hj : us[j]? = some u) : w2.cell? ⟨W.heap.size, j, none⟩ = some u :=
  h.cell (a := ⟨W.heap.size, j, none⟩) (by subst he; exact ((Still.refl (W.alloc _)).alloc _).scell (cell_new' (W := W) rfl (by rw [← hj]; simp only [List.getElem?_toArray]))) (fun ⟨y, hy, e⟩ => by simp only [Option.some.injEq] at hy; subst hy; simp only at e; omega)
theorem Sl.parts {w : World} {S : Nat → Prop} {A : Option Addr} {l : L} (h : Sl w S A l) (hl : 0 < l.len) :
    ∃ b o us, A = some ⟨b, o, none⟩ ∧ S b ∧ Vals w S l us ∧ ∀ j u, us[j]? = some u → w.cell? ⟨b, o + j, none⟩ = some u := h.resolve_left (by omega)

set_option maxHeartbeats 8000000 in
theorem finds4 (l : L) (A : Option Addr) (c : Nat) (at_ : Int) (w : World) (hl : l.len ≤ 140737488351232) (hO : l.Ok) (hS : Sl w (fun b => b < w.heap.size) A l) :
    Calls Try.prog 4 #[.slice A l.len c, .int .i64 at_] w fun e w' => e = .returned (.bool true) ∧ Still w w' := by
  have HO := Kp.mk hO; clear hO
  have HS := Kp.mk hS; clear hS
  go_enter Try.func4, Try.ntmps4
  go_wp2_with fail
  refine (few16 l A c _ w hl HO.out HS.out).mono ?_
  rintro e w1 ⟨⟨fw, rfl⟩, ht1⟩
  have HT1 := Kp.mk ht1; clear ht1
  cases fw with
  | false =>
    go_wp2_with fail
    refine (told17 w1).mono ?_
    rintro e w2 ⟨rfl, ht2⟩
    have HT2 := Kp.mk (HT1.out.strans ht2); clear ht2
    go_wp2_with fail
    go_ret
    exact ⟨rfl, HT2.out⟩
  | true =>
  go_wp2_with fail
  refine (mayTable_ok l A c _ w1 hl HO.out (HS.out.still HT1.out)).mono ?_
  rintro e w2 ⟨rfl, ht2⟩
  have HT2 := Kp.mk (HT1.out.strans ht2); clear ht2 HT1
  cases hm : l.mayTab 1 with
  | false =>
    clear hm
    go_wp2_with fail
    refine (told17 w2).mono ?_
    rintro e w3 ⟨rfl, ht3⟩
    have HT3 := Kp.mk (HT2.out.strans ht3); clear ht3
    go_wp2_with fail
    go_ret
    exact ⟨rfl, HT3.out⟩
  | true =>
  have HM := Kp.mk hm; clear hm
  by_cases hz : l.len = 0
  · have hn := L.len_zero hz
    subst hn
    clear hz hl
    go_wp2_with fail
    refine (told17 w2).mono ?_
    rintro e w3 ⟨rfl, ht3⟩
    have HT3 := Kp.mk (HT2.out.strans ht3); clear ht3
    go_wp2_with fail
    refine (find_ok .nil ⟨#[120]⟩ A c _ w3 (by decide) (Sl.nil _ (fun _ => True) _)).mono ?_
    rintro e w4 ⟨A4, c4, rfl, hs4, ht4⟩
    have HT4 := Kp.mk (HT3.out.strans ht4); clear ht4
    have hf := field34_0 (L.nil.find ⟨#[120]⟩).k (L.nil.find ⟨#[120]⟩).n (L.nil.find ⟨#[120]⟩).s A4 (L.nil.find ⟨#[120]⟩).it.len c4 w4
    rw [show L.nil.find ⟨#[120]⟩ = It.zero from rfl] at *
    go_wp2_with fail
    go_ret
    exact ⟨rfl, HT4.out⟩
  · obtain ⟨k, hk, hkl⟩ := remL at_ l.len (by omega) hl
    have hzb : ((l.len : Int) == 0) = false := by simp; omega
    obtain ⟨b, o, rfl, hb, hat⟩ := (HS.out.still HT2.out).at (by omega)
    obtain ⟨A', ca', p0, p1, p2, p3, p4, hsa⟩ := hat k hkl
    have HSA := Kp.mk hsa; clear hsa hat
    go_wp2_with fail
    refine (find_ok l (l.get k).nm (some ⟨b, o, none⟩) c _ w2 hl (HS.out.still HT2.out)).mono ?_
    rintro e w3 ⟨A3, c3, rfl, hs3, ht3⟩
    rw [find_may HM.out hkl] at hs3 ⊢
    have HT3 := Kp.mk (HT2.out.strans ht3)
    have HS3 := Kp.mk hs3; clear hs3
    have HSA3 := Kp.mk (HSA.out.still ht3)
    have p0 := ht3.scell p0
    have p1 := ht3.scell p1
    have p2 := ht3.scell p2
    have p3 := ht3.scell p3
    have p4 := ht3.scell p4
    clear ht3 HSA HT2
    go_wp2_with fail
    have hl32 := ((mayTab_iff 1 l).1 HM.out).2.1
    have hW : Still w3 (w3.alloc (Obj.cells #[Value.int IntKind.i64 (l.get k).k, Value.int IntKind.i64 (l.get k).n, Value.string (l.get k).s, Value.slice A3 (l.get k).it.len c3] 34)) := (Still.refl _).alloc _
    have v0 : (w3.alloc (Obj.cells #[Value.int IntKind.i64 (l.get k).k, Value.int IntKind.i64 (l.get k).n, Value.string (l.get k).s, Value.slice A3 (l.get k).it.len c3] 34)).cell? ⟨w3.heap.size, 0, none⟩ = some (.int .i64 (l.get k).k) := by go_simp
    have v1 : (w3.alloc (Obj.cells #[Value.int IntKind.i64 (l.get k).k, Value.int IntKind.i64 (l.get k).n, Value.string (l.get k).s, Value.slice A3 (l.get k).it.len c3] 34)).cell? ⟨w3.heap.size, 1, none⟩ = some (.int .i64 (l.get k).n) := by go_simp
    have v2 : (w3.alloc (Obj.cells #[Value.int IntKind.i64 (l.get k).k, Value.int IntKind.i64 (l.get k).n, Value.string (l.get k).s, Value.slice A3 (l.get k).it.len c3] 34)).cell? ⟨w3.heap.size, 2, none⟩ = some (.string (l.get k).s) := by go_simp
    have v3 : (w3.alloc (Obj.cells #[Value.int IntKind.i64 (l.get k).k, Value.int IntKind.i64 (l.get k).n, Value.string (l.get k).s, Value.slice A3 (l.get k).it.len c3] 34)).cell? ⟨w3.heap.size, 3, none⟩ = some (.slice A3 (l.get k).it.len c3) := by go_simp
    generalize w3.alloc (Obj.cells #[Value.int IntKind.i64 (l.get k).k, Value.int IntKind.i64 (l.get k).n, Value.string (l.get k).s, Value.slice A3 (l.get k).it.len c3] 34) = W at *
    have HT := Kp.mk (HT3.out.strans hW)
    have HS4 := Kp.mk (HS3.out.still hW)
    have HSA4 := Kp.mk (HSA3.out.still hW)
    have p0 := hW.scell p0
    have p1 := hW.scell p1
    have p2 := hW.scell p2
    have p3 := hW.scell p3
    have p4 := hW.scell p4
    generalize w3.heap.size = vb at *
    clear hW HT3 HS3 HSA3
    obtain ⟨b', o', us, hA, _, hvs, hcs⟩ := HS.out.parts (by omega)
    obtain ⟨rfl, rfl⟩ : b = b' ∧ o = o' := by simpa using hA
    have HP := Kp.mk (fun W' (h : Still W W') => And.intro (h.scell p0) (And.intro (h.scell p1) (And.intro (h.scell p2) (And.intro (h.scell p3) (h.scell p4)))))
    have HV := Kp.mk (fun W' (h : Still W W') => hvs.still (HT.out.strans h))
    have HC := Kp.mk (fun W' (h : Still W W') j u (hj : us[j]? = some u) => (HT.out.strans h).scell (hcs j u hj))
    have HX := Kp.mk (fun W' (h : Still W W') => (show Vals W' (fun x => x < w.heap.size) (L.one (l.get k)) [.string (l.get k).nm, .int .i64 (l.get k).k, .int .i64 (l.get k).n, .string (l.get k).s, .slice A' (l.get k).it.len ca'] from ⟨A', ca', [], rfl, HSA4.out.still h, rfl⟩))
    clear hA hvs hcs
    have hwW := HT.out.size
    go_cut [7] (fun v wc => ∃ A7 c7, v = .slice A7 (l.app (L.one (l.get k))).len c7 ∧ Kp (Sl wc (fun _ => True) A7 (l.app (L.one (l.get k)))) ∧ Kp (Still W wc))
    case first =>
      go_region_held3 (fun W => W.cell? ⟨b, o + k * 5, none⟩ = some (.string (l.get k).nm) ∧ W.cell? ⟨b, o + k * 5 + 1, none⟩ = some (.int .i64 (l.get k).k) ∧ W.cell? ⟨b, o + k * 5 + 2, none⟩ = some (.int .i64 (l.get k).n) ∧ W.cell? ⟨b, o + k * 5 + 3, none⟩ = some (.string (l.get k).s) ∧ W.cell? ⟨b, o + k * 5 + 4, none⟩ = some (.slice A' (l.get k).it.len ca'))
        ((refine HP.out _ ?_; (repeat' (first | exact Tch.refl _ _ | exact HT3.out | exact HT2.out | refine Tch.alloc ?_ _ | refine Tch.drew ?_))))
        (first
         | (refine step_appI _ (by rfl) _ _ rfl W.heap.size (fun x => x < W.heap.size) (fun x => x < w.heap.size) _ 0 0 _ .nil l (by rfl) rfl ?_ (some ⟨b, o, none⟩) c us (by rfl) rfl (.inr ⟨b, o, rfl, HC.out _ ?_⟩) (HV.out _ ?_) ?_ ?_ ?_ ?_; (first | exact OwnI.made _ (hn1 _ _) (by omega) | exact OwnI.made _ (hn2 _ _ _) (by omega) | exact OwnI.made _ (hn3 _ _ _) (by omega)); (repeat' (first | exact Tch.refl _ _ | refine Tch.alloc ?_ _ | refine Tch.drew ?_)); (repeat' (first | exact Tch.refl _ _ | refine Tch.alloc ?_ _ | refine Tch.drew ?_)); (intro x hx _; refine ⟨by omega, fun ⟨y, hy, e⟩ => ?_⟩; simp only [Option.some.injEq] at hy; subst hy; (try dsimp only at e); omega); (simp only [L.len]; omega); ((try simp only [World.size_alloc, World.size_drew]); omega); intro A2 c2 w2 ho2 ht2 hat2; have HO2 := Kp.mk ho2; have HH2 := Kp.mk ht2; have hst : Still W w2 := app_still (by (repeat' (first | exact Tch.refl _ _ | refine Tch.alloc ?_ _ | refine Tch.drew ?_))) (by omega) ht2; have HT2 := Kp.mk hst; clear ho2 ht2 hat2 hst)
         | (refine step_appI _ (by rfl) _ _ rfl W.heap.size (fun x => x < W.heap.size) (fun x => x < w.heap.size) A2 c2 _ 1 (L.nil.app l) (L.one (l.get k)) (by rfl) ?_ (HO2.out.still ?_) _ 1 [.string (l.get k).nm, .int .i64 (l.get k).k, .int .i64 (l.get k).n, .string (l.get k).s, .slice A' (l.get k).it.len ca'] (by rfl) rfl (.inr ⟨_, 0, rfl, ?_⟩) (HX.out _ ?_) ?_ ?_ ?_ ?_; (first | rfl | exact Nat.zero_add _); (repeat' (first | exact Tch.refl _ _ | refine Tch.alloc ?_ _ | refine Tch.drew ?_)); (intro j u hj; rw [Nat.zero_add]; first | exact cell_new' (by simp) (by rw [← hj]; simp only [List.getElem?_toArray]) | exact cn1 rfl HH2.out rfl hj | exact cn2 rfl HH2.out rfl hj); (repeat' (first | exact Tch.refl _ _ | exact HT2.out | refine Tch.alloc ?_ _ | refine Tch.drew ?_)); (intro x hx _; refine ⟨by omega, fun h => ?_⟩; have := (HO2.out.base h).1; omega); (simp only [L.len, L.app, L.len_one]; omega); (have := HT2.out.size; (try simp only [World.size_alloc, World.size_drew]); omega); intro A3 c3 w3 ho3 ht3 hat3; have HO3 := Kp.mk ho3; have HT3 := Kp.mk (app_still2 (by (repeat' (first | exact Tch.refl _ _ | exact HT2.out | refine Tch.alloc ?_ _ | refine Tch.drew ?_))) (fun b hb => (HO2.out.base hb).1) ht3); clear ho3 ht3 hat3))
      all_goals (go_wp2_with fail; go_meet)
      all_goals exact ⟨A3, c3, by rw [L.len_app, L.len_one], ⟨HO3.out.sl (fun _ _ => trivial) (fun _ _ => trivial)⟩, HT3⟩
    case rest =>
      obtain ⟨A7, c7, rfl, HS7, HT7⟩ := hcut
      have hiO := HO.out.get k hkl
      have hone : (L.one ⟨⟨#[118]⟩, (l.get k).k, (l.get k).n, (l.get k).s, (l.get k).it⟩).Ok := ⟨⟨(by decide : (ByteArray.mk #[118]).size ≤ 140737488351232), hiO.1.2⟩, hiO.2, trivial⟩
      have HONE := Kp.mk hone; clear hone hiO
      have HQ := Kp.mk (fun W' (h : Still wc W') => (show W'.cell? ⟨vb, 0, none⟩ = some (.int .i64 (l.get k).k) ∧ W'.cell? ⟨vb, 1, none⟩ = some (.int .i64 (l.get k).n) ∧ W'.cell? ⟨vb, 2, none⟩ = some (.string (l.get k).s) ∧ W'.cell? ⟨vb, 3, none⟩ = some (.slice A3 (l.get k).it.len c3) ∧
        W'.cell? ⟨b, o + k * 5 + 1, none⟩ = some (.int .i64 (l.get k).k) ∧ W'.cell? ⟨b, o + k * 5 + 2, none⟩ = some (.int .i64 (l.get k).n) ∧ W'.cell? ⟨b, o + k * 5 + 3, none⟩ = some (.string (l.get k).s) ∧ W'.cell? ⟨b, o + k * 5 + 4, none⟩ = some (.slice A' (l.get k).it.len ca') from
          have h' := HT7.out.strans h
          ⟨h'.scell v0, h'.scell v1, h'.scell v2, h'.scell v3, h'.scell p1, h'.scell p2, h'.scell p3, h'.scell p4⟩))
      have HVA := Kp.mk (fun W' (h : Still wc W') => (show Vals W' (fun _ => True) (L.one ⟨⟨#[118]⟩, (l.get k).k, (l.get k).n, (l.get k).s, (l.get k).it⟩) [.string ⟨#[118]⟩, .int .i64 (l.get k).k, .int .i64 (l.get k).n, .string (l.get k).s, .slice A3 (l.get k).it.len c3] from ⟨A3, c3, [], rfl, (HS4.out.still (HT7.out.strans h)).weak (fun _ _ => trivial), rfl⟩))
      have HVB := Kp.mk (fun W' (h : Still wc W') => (show Vals W' (fun _ => True) (L.one ⟨⟨#[118]⟩, (l.get k).k, (l.get k).n, (l.get k).s, (l.get k).it⟩) [.string ⟨#[118]⟩, .int .i64 (l.get k).k, .int .i64 (l.get k).n, .string (l.get k).s, .slice A' (l.get k).it.len ca'] from ⟨A', ca', [], rfl, (HSA4.out.still (HT7.out.strans h)).weak (fun _ _ => trivial), rfl⟩))
      have q0 := HQ.out wc (Tch.refl _ _)
      obtain ⟨q0, q1, q2, q3, q4, q5, q6, q7⟩ := q0
      have hl33 : (l.app (L.one (l.get k))).len = l.len + 1 := by rw [L.len_app, L.len_one]
      have HOT := Kp.mk (show (l.app (L.one (l.get k))).Ok from HO.out.app ⟨(HO.out.get k hkl).1, (HO.out.get k hkl).2, trivial⟩)
      have HTW := Kp.mk (twice_may (d := 1) hkl)
      have HLL := Kp.mk hl33; clear hl33
      clear v0 v1 v2 v3 p0 p1 p2 p3 p4 HP HV HC HX
      go_wp2_with fail
      go_region_held3 (fun W' => W'.cell? ⟨vb, 0, none⟩ = some (.int .i64 (l.get k).k) ∧ W'.cell? ⟨vb, 1, none⟩ = some (.int .i64 (l.get k).n) ∧ W'.cell? ⟨vb, 2, none⟩ = some (.string (l.get k).s) ∧ W'.cell? ⟨vb, 3, none⟩ = some (.slice A3 (l.get k).it.len c3) ∧ W'.cell? ⟨b, o + k * 5 + 1, none⟩ = some (.int .i64 (l.get k).k) ∧ W'.cell? ⟨b, o + k * 5 + 2, none⟩ = some (.int .i64 (l.get k).n) ∧ W'.cell? ⟨b, o + k * 5 + 3, none⟩ = some (.string (l.get k).s) ∧ W'.cell? ⟨b, o + k * 5 + 4, none⟩ = some (.slice A' (l.get k).it.len ca'))
        ((refine HQ.out _ ?_; (repeat' (first | exact Tch.refl _ _ | exact HT11.out | exact HT10.out | exact HT9.out | refine Tch.alloc ?_ _ | refine Tch.drew ?_))))
        (first
         | (go_at_call 17; (refine (told17 _).mono ?_); rintro e w9 ⟨rfl, ht9⟩; have HT9 := Kp.mk (show Still wc w9 from Tch.strans (by (repeat' (first | exact Tch.refl _ _ | refine Tch.drew ?_))) ht9); clear ht9)
         | (go_at_call 20; (refine (same_ok (L.one ⟨⟨#[118]⟩, (l.get k).k, (l.get k).n, (l.get k).s, (l.get k).it⟩) (L.one ⟨⟨#[118]⟩, (l.get k).k, (l.get k).n, (l.get k).s, (l.get k).it⟩) _ _ _ _ (fun _ => True) _ (by rw [L.len_one]; decide) (by rw [L.len_one]; decide) HONE.out HONE.out ?_ ?_).mono ?_); (first | (refine (Sl.new rfl rfl (HVA.out _ ?_) trivial).still ((Still.refl _).alloc _); exact HT9.out.alloc _) | (refine Sl.new (by simp) rfl (HVA.out _ ?_) trivial; exact (HT9.out.alloc _).alloc _)); (first | (refine Sl.new (by simp) rfl (HVB.out _ ?_) trivial; exact (HT9.out.alloc _).alloc _) | (refine (Sl.new rfl rfl (HVB.out _ ?_) trivial).still ((Still.refl _).alloc _); exact HT9.out.alloc _)); rintro e w10 ⟨rfl, ht10⟩; have HT10 := Kp.mk (show Still wc w10 from Tch.strans (by exact (HT9.out.alloc _).alloc _) ht10); clear ht10; rw [decide_eq_true rfl])
         | (go_at_call 21; (refine (mayTable_ok (l.app (L.one (l.get k))) A7 c7 (fun _ => True) _ (by have := HLL.out; omega) HOT.out (HS7.out.still HT10.out)).mono ?_); rintro e w11 ⟨rfl, ht11⟩; have HT11 := Kp.mk (HT10.out.strans ht11); clear ht11; rw [HTW.out]))
      all_goals go_wp2_with fail
      all_goals go_ret
      all_goals exact ⟨rfl, HT.out.strans (HT7.out.strans HT11.out)⟩
end Go.Proofs.Ytaeainkfllfdfaa
