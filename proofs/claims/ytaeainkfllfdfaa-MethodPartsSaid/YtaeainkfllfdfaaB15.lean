/- A table among the arguments: what its reading as data says of the slice and of what it leads to. -/
import Derived.Test.YtaeainkfllfdfaaB14
import Derived.ProofKit
import Derived.OpenShut
namespace Go.Proofs.Ytaeainkfllfdfaa
open Go.RowKit Go.ChangeShapes Go.WideShapes Go.ChangeAt
set_option linter.unusedVariables false
set_option linter.unusedSimpArgs false
set_option maxRecDepth 100000

theorem cells37 : Try.prog.cellsOf 37 = 5 := by kernel_rfl
theorem cells34 : Try.prog.cellsOf 34 = 4 := by kernel_rfl
theorem cells9 : Try.prog.cellsOf 9 = 1 := by kernel_rfl
theorem cells3 : Try.prog.cellsOf 3 = 1 := by kernel_rfl
theorem cells2 : Try.prog.cellsOf 2 = 1 := by kernel_rfl
theorem cells22 : Try.prog.cellsOf 22 = 1 := by kernel_rfl
theorem bytes37 : Try.prog.bytesOf 37 = 72 := by kernel_rfl

theorem weightsAll_mem {H : Type} {P : Program} {e : TypeId} : ∀ {l : List (DataW H)} {d : DataW H}, d ∈ l → ∀ n ∈ d.weights P e, n ∈ DataW.weightsAll P e l
  | x :: r, d, h, n, hn => by
    simp only [DataW.weightsAll, List.mem_append]
    rcases List.mem_cons.1 h with rfl | h
    · exact .inl hn
    · exact .inr (weightsAll_mem h n hn)

/-- Items one behind the other make a table. -/
theorem build_items {w : World} {S : Nat → Prop} (b off : Nat) : ∀ len, (∀ i, i < len → ∃ (x : It) (A : Option Addr) (c : Nat), x.Ok ∧ Sl w S A x.it ∧
      ∀ j u, [Value.string x.nm, .int .i64 x.k, .int .i64 x.n, .string x.s, .slice A x.it.len c][j]? = some u → w.cell? ⟨b, off + (i * 5 + j), none⟩ = some u) →
    ∃ (l : L) (us : List Value), l.len = len ∧ l.Ok ∧ Vals w S l us ∧ ∀ j u, us[j]? = some u → w.cell? ⟨b, off + j, none⟩ = some u
  | 0, _ => ⟨.nil, [], rfl, trivial, rfl, fun j u h => by simp at h⟩
  | len + 1, h => by
    obtain ⟨l, us, h1, h2, h3, h4⟩ := build_items b off len (fun i hi => h i (by omega))
    obtain ⟨x, A, c, hx, hs, hc⟩ := h len (by omega)
    refine ⟨l.app (L.one x), us ++ [.string x.nm, .int .i64 x.k, .int .i64 x.n, .string x.s, .slice A x.it.len c], by rw [L.len_app, L.len_one, h1], h2.app ⟨hx.1, hx.2, trivial⟩, Vals.app h3 ⟨A, c, [], rfl, hs, rfl⟩, fun j u hj => ?_⟩
    have hl : us.length = len * 5 := by rw [h3.length, h1]
    by_cases hlt : j < us.length
    · rw [List.getElem?_append_left hlt] at hj
      exact h4 j u hj
    · rw [List.getElem?_append_right (by omega)] at hj
      have := hc (j - us.length) u hj
      rwa [show off + (len * 5 + (j - us.length)) = off + j from by omega] at this

section
variable {H : Type} {enc : TypeId × Value → H} {w : World} {sp : Nat → Bool} {held : Bool}

/-- What a reading of a table's cells says. -/
def Opens (w : World) (cs : List Value) : Prop :=
  ∃ (A : Option Addr) (c : Nat) (l : L), cs = [.slice A l.len c] ∧ Sl w (fun b => b < w.heap.size) A l ∧ l.Ok ∧ l.len ≤ 140737488351232 ∧ l.len ≤ c ∧ c ≤ maxLen

theorem open_item (f : Nat) (ih : ∀ g, g < f → ∀ (cs : List Value) (x : DataW H × List MemPlace), DataW.trod enc Try.prog w 0 sp held g 22 cs = some x → (∀ m ∈ x.1.weights Try.prog 22, m ≤ reachBytes) → Opens w cs)
    (cs : List Value) (x : DataW H × List MemPlace) (h : DataW.trod enc Try.prog w 0 sp held f 37 cs = some x) (hw : ∀ m ∈ x.1.weights Try.prog 37, m ≤ reachBytes) :
    ∃ (y : It) (A : Option Addr) (c : Nat), y.Ok ∧ Sl w (fun b => b < w.heap.size) A y.it ∧ cs = [Value.string y.nm, .int .i64 y.k, .int .i64 y.n, .string y.s, .slice A y.it.len c] := by
  obtain ⟨xs, n, rfl, rfl, hl, hxl, hf⟩ := DataW.trod_struct Try.underlying37 h
  rw [cells37] at hl
  have hf0 : DataW.trod enc Try.prog w 0 sp held n 9 ((cs.drop 0).take (Try.prog.cellsOf 9)) = xs[0]? := hf 0 _ rfl
  have hf1 : DataW.trod enc Try.prog w 0 sp held n 34 ((cs.drop 1).take (Try.prog.cellsOf 34)) = xs[1]? := hf 1 _ rfl
  rw [cells9] at hf0
  rw [cells34] at hf1
  obtain ⟨x0, x1, rfl⟩ : ∃ x0 x1, xs = [x0, x1] := by
    match xs, hxl with
    | [x0, x1], _ => exact ⟨x0, x1, rfl⟩
  simp only [List.getElem?_cons_zero, List.getElem?_cons_succ] at hf0 hf1
  obtain ⟨nm, c0, r0, hnm⟩ := DataW.trod_string Try.underlying9 hf0
  obtain ⟨ys, n2, rfl, rfl, hl2, hyl, hg⟩ := DataW.trod_struct Try.underlying34 hf1
  have hg0 : DataW.trod enc Try.prog w 0 sp held n2 3 ((((cs.drop 1).take 4).drop 0).take (Try.prog.cellsOf 3)) = ys[0]? := hg 0 _ rfl
  have hg1 : DataW.trod enc Try.prog w 0 sp held n2 2 ((((cs.drop 1).take 4).drop 1).take (Try.prog.cellsOf 2)) = ys[1]? := hg 1 _ rfl
  have hg2 : DataW.trod enc Try.prog w 0 sp held n2 9 ((((cs.drop 1).take 4).drop 2).take (Try.prog.cellsOf 9)) = ys[2]? := hg 2 _ rfl
  have hg3 : DataW.trod enc Try.prog w 0 sp held n2 22 ((((cs.drop 1).take 4).drop 3).take (Try.prog.cellsOf 22)) = ys[3]? := hg 3 _ rfl
  rw [cells3] at hg0
  rw [cells2] at hg1
  rw [cells9] at hg2
  rw [cells22] at hg3
  obtain ⟨y0, y1, y2, y3, rfl⟩ : ∃ y0 y1 y2 y3, ys = [y0, y1, y2, y3] := by
    match ys, hyl with
    | [y0, y1, y2, y3], _ => exact ⟨y0, y1, y2, y3, rfl⟩
  simp only [List.getElem?_cons_zero, List.getElem?_cons_succ] at hg0 hg1 hg2 hg3
  obtain ⟨k, d0, q0, hk⟩ := DataW.trod_int Try.underlying3 hg0
  obtain ⟨m, d1, q1, hm⟩ := DataW.trod_int Try.underlying2 hg1
  obtain ⟨s, d2, q2, hs⟩ := DataW.trod_string Try.underlying9 hg2
  subst r0; subst q0; subst q1; subst q2
  obtain ⟨A, c, it, d3, hsl, hok, hle, _, _⟩ := ih n2 (by omega) _ _ hg3 (fun m hm => hw m (by
    simp [DataW.weights, DataW.weightsEach, Try.underlying37, Try.underlying34]
    exact .inr (.inr hm)))
  have wn : nm.data.toList.length ≤ reachBytes := hw _ (by simp [DataW.weights, DataW.weightsEach, Try.underlying37, Try.underlying34])
  have ws : s.data.toList.length ≤ reachBytes := hw _ (by simp [DataW.weights, DataW.weightsEach, Try.underlying37, Try.underlying34])
  have hkb := bounds_i64 hk
  have hmb := bounds_i64 hm
  have e1 : nm.data.toList.length = nm.size := Array.length_toList
  have e2 : s.data.toList.length = s.size := Array.length_toList
  refine ⟨⟨nm, k, m, s, it⟩, A, c, ⟨⟨?_, ?_, hle, hkb.1, hkb.2, hmb.1, hmb.2⟩, hok⟩, hsl, ?_⟩
  · simp only [reachBytes] at wn; simp only; omega
  · simp only [reachBytes] at ws; simp only; omega
  · match cs, hl with
    | [v0, v1, v2, v3, v4], _ =>
      simp at c0 d0 d1 d2 d3
      simp [c0, d0, d1, d2, d3]

theorem open_items : ∀ (f : Nat) (cs : List Value) (x : DataW H × List MemPlace), DataW.trod enc Try.prog w 0 sp held f 22 cs = some x → (∀ m ∈ x.1.weights Try.prog 22, m ≤ reachBytes) → Opens w cs := by
  intro f
  induction f using Nat.strongRecOn with
  | ind f ih =>
    intro cs x h hw
    rcases DataW.trod_slice Try.underlying22 h with ⟨rfl, rfl⟩ | ⟨a, len, cap, elems, rest, n, rfl, rfl, rfl, hb, hlc, hcm, hlen, hel, _, _⟩
    · exact ⟨none, 0, .nil, rfl, Sl.nil _ _ _, trivial, Nat.zero_le _, Nat.zero_le _, Nat.zero_le _⟩
    · subst hlen
      have hwt : (elems.length + rest.length) * 72 ≤ reachBytes := hw _ (by simp [DataW.weights, Try.underlying22, bytes37])
      have hlen2 : elems.length ≤ 140737488351232 := by
        simp only [reachBytes] at hwt; omega
      by_cases hz : elems.length = 0
      · rw [hz]
        exact ⟨some a, cap, .nil, rfl, Sl.nil _ _ _, trivial, Nat.zero_le _, Nat.zero_le _, hcm⟩
      have hget : ∀ i, i < elems.length → ∃ cs5 e, w.cells? 0 (a.add (i * 5)) 5 = some cs5 ∧ DataW.trod enc Try.prog w 0 sp held n 37 cs5 = some e ∧ elems[i]? = some e := by
        intro i hi
        have := hel i hi
        rw [cells37] at this
        rw [List.getElem?_eq_getElem hi] at this
        obtain ⟨cs5, h1, h2⟩ := Option.bind_eq_some_iff.1 this
        exact ⟨cs5, _, h1, h2, List.getElem?_eq_getElem hi⟩
      have hcell : ∀ (p : Addr) (cs5 : List Value), w.cells? 0 p 5 = some cs5 → cs5.length = 5 ∧ ∀ j u, cs5[j]? = some u → w.cell? (p.add j) = some u := by
        intro p cs5 hc
        unfold World.cells? at hc
        rw [if_pos (Nat.zero_le _)] at hc
        have hl := mapM_some_length hc
        simp at hl
        refine ⟨hl, fun j u hj => ?_⟩
        have hjl : j < 5 := by have := (List.getElem?_eq_some_iff.1 hj).1; omega
        have := mapM_some_get hc j j (by simp [hjl])
        rw [this, hj]
      obtain ⟨b, off, spot⟩ := a
      have hspot : spot = none ∧ b < w.heap.size := by
        obtain ⟨cs5, e, h1, _, _⟩ := hget 0 (by omega)
        obtain ⟨hl, hc⟩ := hcell _ _ h1
        obtain ⟨v, hv⟩ : ∃ v, cs5[0]? = some v := ⟨cs5[0], List.getElem?_eq_getElem (by omega)⟩
        have := hc 0 v hv
        cases spot with
        | none => exact ⟨rfl, World.block_lt_of_cell? w _ this⟩
        | some z =>
          simp [World.cell?, Addr.add] at this
          split at this <;> simp at this
      obtain ⟨rfl, hbl⟩ := hspot
      obtain ⟨l, us, hl1, hl2, hl3, hl4⟩ := build_items (w := w) (S := fun b => b < w.heap.size) b off elems.length (fun i hi => by
        obtain ⟨cs5, e, h1, h2, h3⟩ := hget i hi
        obtain ⟨hlc5, hc5⟩ := hcell _ _ h1
        obtain ⟨y, A, c, hy, hs, rfl⟩ := open_item n (fun g hg => ih g (by omega)) cs5 e h2 (fun m hm => hw m (by
          simp only [DataW.weights, Try.underlying22, List.mem_cons, List.mem_append]
          exact .inr (.inl (weightsAll_mem (List.mem_map.2 ⟨e, List.mem_of_getElem? h3, rfl⟩) m hm))))
        refine ⟨y, A, c, hy, hs, fun j u hj => ?_⟩
        have := hc5 j u hj
        rw [Addr.add_lit, Addr.add_lit, Nat.add_assoc] at this
        exact this)
      exact ⟨some ⟨b, off, none⟩, cap, l, by rw [hl1], .inr ⟨b, off, us, rfl, hbl, hl3, hl4⟩, hl2, by omega, by omega, hcm⟩
end
end Go.Proofs.Ytaeainkfllfdfaa
