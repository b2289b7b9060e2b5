/- Contracts of the functions that the statement reaches, each walked once, and the plain laws over them, for every input that their premises name (F9, A6, F10, A7). -/
import Derived.Test.YtaeainkfllfdfaaQ6
import Derived.Deep.QuietTactic
import Derived.BigQuiet
import Derived.RegionTactic
import Derived.BigRegion
import Derived.Deep.OwnRows
/- F9: The walk of ValueOrder. -/
namespace Go.Proofs.Ytaeainkfllfdfaa
open Go.RowKit
set_option linter.unusedVariables false
set_option linter.unusedSimpArgs false
set_option maxRecDepth 100000

theorem OwnI.open {w : World} {base : Nat} {S : Nat → Prop} {A : Option Addr} {c : Nat} {l : L} (h : OwnI w base S A c l) (hl : 0 < l.len) :
    ∃ g, A = some ⟨g, 0, none⟩ ∧ base ≤ g ∧ (∀ o, w.frozen? ⟨g, o, none⟩ = false) ∧ ∀ i, i < l.len → ∃ A' c, w.cell? ⟨g, i * 5, none⟩ = some (.string (l.get i).nm) ∧ w.cell? ⟨g, i * 5 + 1, none⟩ = some (.int .i64 (l.get i).k) ∧
      w.cell? ⟨g, i * 5 + 2, none⟩ = some (.int .i64 (l.get i).n) ∧ w.cell? ⟨g, i * 5 + 3, none⟩ = some (.string (l.get i).s) ∧
      w.cell? ⟨g, i * 5 + 4, none⟩ = some (.slice A' (l.get i).it.len c) ∧ Sl w S A' (l.get i).it := by
  obtain ⟨us, ho, hv⟩ := h
  have hcells := @World.ownsRow.cells _ _ _ _ _ _ _ ho
  rcases ho.2 with ⟨hv', hn⟩ | ⟨g, cap, cur, hv', hg, hh, r⟩
  · omega
  · have hA : A = some ⟨g, 0, none⟩ := by simp at hv'; exact hv'.1
    subst hA
    refine ⟨g, rfl, hg, fun o => by simp [World.frozen?, hh], fun i hi => ?_⟩
    obtain ⟨A', c', h0, h1, h2, h3, h4, hs⟩ := hv.at i hi
    have hc : ∀ j u, us[j]? = some u → w.cell? ⟨g, j, none⟩ = some u := fun j u hj => by
      have := hcells (g := g) rfl j u hj
      rwa [Addr.add_lit, Nat.zero_add] at this
    exact ⟨A', c', hc _ _ h0, hc _ _ h1, hc _ _ h2, hc _ _ h3, hc _ _ h4, hs.weak (fun _ hb => hb.1)⟩

/-- The cells of an item. -/
def It.cells (x : It) (A : Option Addr) (c : Nat) : List Value := [.string x.nm, .int .i64 x.k, .int .i64 x.n, .string x.s, .slice A x.it.len c]
/-- The items' cells, one behind the other, are a table's. -/
theorem Vals.of_at {w : World} {S : Nat → Prop} (b : Nat) : ∀ (l : L) (o : Nat), (∀ i, i < l.len → ∃ A c, (∀ j u, ((l.get i).cells A c)[j]? = some u → w.cell? ⟨b, o + i * 5 + j, none⟩ = some u) ∧ Sl w S A (l.get i).it) →
    ∃ us, Vals w S l us ∧ ∀ j u, us[j]? = some u → w.cell? ⟨b, o + j, none⟩ = some u
  | .nil, o, _ => ⟨[], rfl, fun j u h => by simp at h⟩
  | .cons nm k n s it rest, o, h => by
    obtain ⟨A, c, h0, hs⟩ := h 0 (by simp [L.len])
    obtain ⟨vs, hv, hc⟩ := Vals.of_at b rest (o + 5) (fun i hi => by
      obtain ⟨A', c', h1, hs1⟩ := h (i + 1) (by simp [L.len]; omega)
      refine ⟨A', c', fun j u hj => ?_, hs1⟩
      have := h1 j u hj
      rwa [show o + (i + 1) * 5 + j = o + 5 + i * 5 + j by omega] at this)
    refine ⟨_, ⟨A, c, vs, rfl, hs, hv⟩, fun j u hj => ?_⟩
    by_cases h5 : j < 5
    · have e : j = 0 ∨ j = 1 ∨ j = 2 ∨ j = 3 ∨ j = 4 := by omega
      have := h0 j u (by rw [← hj]; rcases e with rfl | rfl | rfl | rfl | rfl <;> rfl)
      rwa [show o + 0 * 5 + j = o + j by omega] at this
    · obtain ⟨m, rfl⟩ : ∃ m, j = m + 5 := ⟨j - 5, by omega⟩
      have := hc m u (by simpa using hj)
      rwa [show o + 5 + m = o + (m + 5) by omega] at this
theorem Sl.of_at {w : World} {S : Nat → Prop} {b o : Nat} {l : L} (hb : S b) (h : ∀ i, i < l.len → ∃ A c, (∀ j u, ((l.get i).cells A c)[j]? = some u → w.cell? ⟨b, o + i * 5 + j, none⟩ = some u) ∧ Sl w S A (l.get i).it) : Sl w S (some ⟨b, o, none⟩) l := by
  obtain ⟨us, hv, hc⟩ := Vals.of_at b l o h
  exact .inr ⟨b, o, us, rfl, hb, hv, hc⟩
theorem Tch.setCells {S : Nat → Prop} {w : World} (g : Nat) : ∀ (vs : List Value) (w1 : World) (o : Nat), Tch S w w1 → S g → Tch S w (w1.setCells g o vs)
  | [], w1, o, h, _ => h
  | v :: vs, w1, o, h, hs => Tch.setCells g vs _ _ (h.setCell _ _ (fun _ => hs)) hs

theorem Vals.drop1 {w : World} {S : Nat → Prop} : ∀ {l : L} {us : List Value}, Vals w S l us → Vals w S (l.drop 1) (us.drop 5)
  | .nil, us, h => by cases h; rfl
  | .cons nm k n s it rest, us, h => by
    obtain ⟨A, c, vs, rfl, _, hr⟩ := h
    simpa [L.drop] using hr
theorem Sl.drop1 {w : World} {S : Nat → Prop} {b o : Nat} {l : L} (h : Sl w S (some ⟨b, o, none⟩) l) (hl : 0 < l.len) : Sl w S (some ⟨b, o + 5, none⟩) (l.drop 1) := by
  obtain ⟨b', o', us, e, hb, hv, hc⟩ := h.parts hl
  obtain ⟨rfl, rfl⟩ : b = b' ∧ o = o' := by simpa using e
  refine .inr ⟨b, o + 5, us.drop 5, rfl, hb, hv.drop1, fun j u hj => ?_⟩
  rw [Nat.add_assoc]
  exact hc (5 + j) u (by simpa using hj)

theorem drop_ok {l : L} (h : l.Ok) : ∀ n, (l.drop n).Ok := by
  intro n
  induction n generalizing l with
  | zero => exact h
  | succ n ih =>
    cases l with
    | nil => trivial
    | cons _ _ _ _ _ _ => exact ih h.2.2
theorem same_okn (a b : L) (n m : Nat) (hn : n = a.len) (hm : m = b.len) (A B : Option Addr) (ca cb : Nat) (S : Nat → Prop) (w : World) (ha : a.len ≤ 140737488351232) (hb : b.len ≤ 140737488351232) (hx : a.Ok) (hy : b.Ok) (hA : Sl w S A a) (hB : Sl w S B b) :
    Calls Try.prog 20 #[.slice A n ca, .slice B m cb] w fun e w' => e = .returned (.bool (decide (a = b))) ∧ Still w w' := by
  subst hn; subst hm; exact same_ok a b A B ca cb S w ha hb hx hy hA hB
theorem mayTable_okn (l : L) (n : Nat) (hn : n = l.len) (A : Option Addr) (c : Nat) (S : Nat → Prop) (w : World) (hl : l.len ≤ 140737488351232) (hO : l.Ok) (hS : Sl w S A l) :
    Calls Try.prog 21 #[.slice A n c] w fun e w' => e = .returned (.bool (l.mayTab 1)) ∧ Still w w' := by
  subst hn; exact mayTable_ok l A c S w hl hO hS

/-- Two items have been swapped. -/
theorem swap_world {W : World} {S : Nat → Prop} {g i k : Nat} {l : L} (hi : i < l.len) (hk : k < l.len) (hS : ∀ b, S b → b < g) {Ai Ak : Option Addr} {ci ck : Nat}
    (hat : ∀ i, i < l.len → ∃ A c, (∀ j u, ((l.get i).cells A c)[j]? = some u → W.cell? ⟨g, i * 5 + j, none⟩ = some u) ∧ Sl W S A (l.get i).it) (hsi : Sl W S Ai (l.get i).it) (hsk : Sl W S Ak (l.get k).it) :
    Sl ((W.setCells g (i * 5) ((l.get k).cells Ak ck)).setCells g (k * 5) ((l.get i).cells Ai ci)) (fun b => b ≤ g) (some ⟨g, 0, none⟩) (l.swap i k) ∧ Tch (· = g) W ((W.setCells g (i * 5) ((l.get k).cells Ak ck)).setCells g (k * 5) ((l.get i).cells Ai ci)) := by
  have t1 : Tch (· = g) W (W.setCells g (i * 5) ((l.get k).cells Ak ck)) := Tch.setCells g _ _ _ (Tch.refl _ _) rfl
  have t2 : Tch (· = g) W ((W.setCells g (i * 5) ((l.get k).cells Ak ck)).setCells g (k * 5) ((l.get i).cells Ai ci)) := Tch.setCells g _ _ _ t1 rfl
  have old : ∀ i, i < l.len → ∀ j, j < 5 → (W.cell? ⟨g, i * 5 + j, none⟩).isSome = true := fun m hm j hj => by
    obtain ⟨A, c, h, _⟩ := hat m hm
    have e : j < ((l.get m).cells A c).length := hj
    rw [h j _ (List.getElem?_eq_getElem e)]; rfl
  have out1 := fun m (hm : m ≠ i) j (hj : j < 5) => World.cell?_setCells_out g ((l.get k).cells Ak ck) (i * 5) W ⟨g, m * 5 + j, none⟩ (fun _ _ => by simp only [It.cells, List.length_cons, List.length_nil]; omega)
  have out2 := fun m (hm : m ≠ k) j (hj : j < 5) => World.cell?_setCells_out g ((l.get i).cells Ai ci) (k * 5) (W.setCells g (i * 5) ((l.get k).cells Ak ck)) ⟨g, m * 5 + j, none⟩ (fun _ _ => by simp only [It.cells, List.length_cons, List.length_nil]; omega)
  have in1 := World.cell?_setCells_in g ((l.get k).cells Ak ck) (i * 5) W (old i hi)
  have old2 : ∀ j, j < 5 → ((W.setCells g (i * 5) ((l.get k).cells Ak ck)).cell? ⟨g, k * 5 + j, none⟩).isSome = true := fun j hj => by
    by_cases e : k = i
    · subst e; rw [in1 j hj]; rfl
    · rw [out1 k e j hj]; exact old k hk j hj
  have in2 := World.cell?_setCells_in g ((l.get i).cells Ai ci) (k * 5) (W.setCells g (i * 5) ((l.get k).cells Ak ck)) old2
  have sub : ∀ {A : Option Addr} {m : L}, Sl W S A m → Sl ((W.setCells g (i * 5) ((l.get k).cells Ak ck)).setCells g (k * 5) ((l.get i).cells Ai ci)) (fun b => b ≤ g) A m := fun h =>
    (h.tch t2 (fun b hb e => by have := hS b hb; omega)).weak (fun b hb => Nat.le_of_lt (hS b hb))
  refine ⟨Sl.of_at (Nat.le_refl g) (fun m hm => ?_), t2⟩
  rw [swap_len] at hm
  rw [swap_get l hi hk]
  by_cases e1 : m = k
  · subst e1
    rw [if_pos rfl]
    refine ⟨Ai, ci, fun j u hj => ?_, sub hsi⟩
    have hj5 := (List.getElem?_eq_some_iff.1 hj).1
    rw [Nat.zero_add, in2 j hj5, ← hj, List.getElem?_eq_getElem hj5]
  rw [if_neg e1]
  by_cases e2 : m = i
  · subst e2
    rw [if_pos rfl]
    refine ⟨Ak, ck, fun j u hj => ?_, sub hsk⟩
    have hj5 := (List.getElem?_eq_some_iff.1 hj).1
    rw [Nat.zero_add, out2 m e1 j hj5, in1 j hj5, ← hj, List.getElem?_eq_getElem hj5]
  rw [if_neg e2]
  obtain ⟨A, c, h, hs⟩ := hat m hm
  refine ⟨A, c, fun j u hj => ?_, sub hs⟩
  have hj5 := (List.getElem?_eq_some_iff.1 hj).1
  rw [Nat.zero_add, out2 m e1 j hj5, out1 m e2 j hj5]
  exact h j u hj

set_option maxHeartbeats 8000000 in
theorem order9 (l : L) (A : Option Addr) (c : Nat) (a_ b_ : Int) (w : World) (hl : l.len ≤ 140737488351232) (hO : l.Ok) (hS : Sl w (fun b => b < w.heap.size) A l) (hlc : l.len ≤ c) (hcm : c ≤ 9223372036854775807) :
    Calls Try.prog 9 #[.slice A l.len c, .int .i64 a_, .int .i64 b_] w fun e w' => e = .returned (.bool true) ∧ Still w w' := by
  have HO := Kp.mk hO; clear hO
  have HS := Kp.mk hS; clear hS
  go_enter Try.func9, Try.ntmps9
  go_wp2_with fail
  refine (few16 l A c _ w hl HO.out HS.out).mono ?_
  rintro e w1 ⟨⟨fw, rfl⟩, ht1⟩
  have HT1 := Kp.mk ht1; clear ht1
  cases fw with
  | false =>
    go_wp2_with fail
    refine (told17 w1).mono ?_
    rintro e w2 ⟨rfl, ht2⟩
    have HT2 := Kp.mk (HT1.out.strans ht2); clear ht2
    go_wp2_with fail
    go_ret
    exact ⟨rfl, HT2.out⟩
  | true =>
  go_wp2_with fail
  refine (mayTable_ok l A c _ w1 hl HO.out (HS.out.still HT1.out)).mono ?_
  rintro e w2 ⟨rfl, ht2⟩
  have HT2 := Kp.mk (HT1.out.strans ht2); clear ht2 HT1
  cases hm : l.mayTab 1 with
  | false =>
    clear hm
    go_wp2_with fail
    refine (told17 w2).mono ?_
    rintro e w3 ⟨rfl, ht3⟩
    have HT3 := Kp.mk (HT2.out.strans ht3); clear ht3
    go_wp2_with fail
    go_ret
    exact ⟨rfl, HT3.out⟩
  | true =>
  have HM := Kp.mk hm; clear hm
  by_cases hz : l.len < 2
  · have hzb : decide ((l.len : Int) < 2) = true := by simp; omega
    go_wp2_with fail
    refine (told17 w2).mono ?_
    rintro e w3 ⟨rfl, ht3⟩
    have HT3 := Kp.mk (HT2.out.strans ht3); clear ht3
    go_wp2_with fail
    go_ret
    exact ⟨rfl, HT3.out⟩
  · obtain ⟨i, hi, hil⟩ := remL a_ l.len (by omega) hl
    obtain ⟨k, hk, hkl⟩ := remL b_ l.len (by omega) hl
    have hzb : decide ((l.len : Int) < 2) = false := by simp; omega
    have hzc : ((l.len : Int) == 0) = false := by simp; omega
    have hl32 := ((mayTab_iff 1 l).1 HM.out).2.1
    go_wp2_with fail
    go_quiet (fail)
    rw [hi, hk]
    have hq : Still w (w2.drewN nq) := HT2.out.drewN nq
    generalize w2.drewN nq = W at *
    have HT := Kp.mk hq; clear hq HT2 hi hk
    obtain ⟨b, o, us, rfl, hb, hvs, hcs⟩ := (HS.out.still HT.out).parts (by omega)
    have HV := Kp.mk (fun W' (h : Still W W') => hvs.still h)
    have HC := Kp.mk (fun W' (h : Still W W') j u (hj : us[j]? = some u) => h.scell (hcs j u hj))
    clear hvs hcs
    have hwW := HT.out.size
    go_wp2_with (at_builtin; (refine wpList_appI _ rfl _ _ rfl W.heap.size (fun x => x < W.heap.size) (fun x => x < w.heap.size) _ 0 0 _ .nil l rfl rfl (OwnI.made _ (heap_alloc_new _ _) (Nat.le_refl _)) (some ⟨b, o, none⟩) c us rfl rfl (.inr ⟨b, o, rfl, HC.out _ ((Still.refl _).alloc _)⟩) (HV.out _ ((Still.refl _).alloc _)) ?_ ?_ ?_ ?_); (intro x hx _; refine ⟨by omega, fun ⟨y, hy, e⟩ => ?_⟩; simp only [Option.some.injEq] at hy; subst hy; (try dsimp only at e); omega); (simp only [L.len]; omega); (simp only [World.size_alloc]; omega); intro A2 c2 W2 ho2 ht2 hat2; have HO2 := Kp.mk ho2; have HT2 := Kp.mk (app_still2 (W := W) ((Still.refl _).alloc _) (fun b hb => (by obtain ⟨y, hy, e⟩ := hb; simp only [Option.some.injEq] at hy; subst hy; (try dsimp only at e); omega)) ht2); clear ho2 ht2 hat2)
    have hz2 : 0 < l.len := by omega
    obtain ⟨g, hg, hgW, hfz, hat⟩ : ∃ g, A2 = some ⟨g, 0, none⟩ ∧ W.heap.size ≤ g ∧ (∀ o, W2.frozen? ⟨g, o, none⟩ = false) ∧ ∀ i, i < l.len → ∃ A' c, W2.cell? ⟨g, i * 5, none⟩ = some (.string (l.get i).nm) ∧ W2.cell? ⟨g, i * 5 + 1, none⟩ = some (.int .i64 (l.get i).k) ∧
      W2.cell? ⟨g, i * 5 + 2, none⟩ = some (.int .i64 (l.get i).n) ∧ W2.cell? ⟨g, i * 5 + 3, none⟩ = some (.string (l.get i).s) ∧
      W2.cell? ⟨g, i * 5 + 4, none⟩ = some (.slice A' (l.get i).it.len c) ∧ Sl W2 (fun x => x < W.heap.size) A' (l.get i).it := HO2.out.open hz2
    subst hg
    obtain ⟨Ai, ci, i0, i1, i2, i3, i4, hsi⟩ := hat i hil
    obtain ⟨Ak, ck, k0, k1, k2, k3, k4, hsk⟩ := hat k hkl
    have HSI := Kp.mk hsi; have HSK := Kp.mk hsk; have HAT := Kp.mk hat; clear hsi hsk hat
    obtain ⟨e00, y00⟩ := cell?_setCell_some (w := W2) (p := ⟨g, i * 5, none⟩) (x := .string (l.get k).nm) (q := ⟨g, k * 5, none⟩) k0
    obtain ⟨e10, y10⟩ := cell?_setCell_some (w := W2) (p := ⟨g, i * 5, none⟩) (x := .string (l.get k).nm) (q := ⟨g, k * 5 + 1, none⟩) k1
    obtain ⟨e11, y11⟩ := cell?_setCell_some (w := (W2.setCell ⟨g, i * 5, none⟩ (.string (l.get k).nm))) (p := ⟨g, i * 5 + 1, none⟩) (x := .int .i64 (l.get k).k) (q := ⟨g, k * 5 + 1, none⟩) y10
    clear y10
    obtain ⟨e20, y20⟩ := cell?_setCell_some (w := W2) (p := ⟨g, i * 5, none⟩) (x := .string (l.get k).nm) (q := ⟨g, k * 5 + 2, none⟩) k2
    obtain ⟨e21, y21⟩ := cell?_setCell_some (w := (W2.setCell ⟨g, i * 5, none⟩ (.string (l.get k).nm))) (p := ⟨g, i * 5 + 1, none⟩) (x := .int .i64 (l.get k).k) (q := ⟨g, k * 5 + 2, none⟩) y20
    clear y20
    obtain ⟨e22, y22⟩ := cell?_setCell_some (w := ((W2.setCell ⟨g, i * 5, none⟩ (.string (l.get k).nm)).setCell ⟨g, i * 5 + 1, none⟩ (.int .i64 (l.get k).k))) (p := ⟨g, i * 5 + 2, none⟩) (x := .int .i64 (l.get k).n) (q := ⟨g, k * 5 + 2, none⟩) y21
    clear y21
    obtain ⟨e30, y30⟩ := cell?_setCell_some (w := W2) (p := ⟨g, i * 5, none⟩) (x := .string (l.get k).nm) (q := ⟨g, k * 5 + 3, none⟩) k3
    obtain ⟨e31, y31⟩ := cell?_setCell_some (w := (W2.setCell ⟨g, i * 5, none⟩ (.string (l.get k).nm))) (p := ⟨g, i * 5 + 1, none⟩) (x := .int .i64 (l.get k).k) (q := ⟨g, k * 5 + 3, none⟩) y30
    clear y30
    obtain ⟨e32, y32⟩ := cell?_setCell_some (w := ((W2.setCell ⟨g, i * 5, none⟩ (.string (l.get k).nm)).setCell ⟨g, i * 5 + 1, none⟩ (.int .i64 (l.get k).k))) (p := ⟨g, i * 5 + 2, none⟩) (x := .int .i64 (l.get k).n) (q := ⟨g, k * 5 + 3, none⟩) y31
    clear y31
    obtain ⟨e33, y33⟩ := cell?_setCell_some (w := (((W2.setCell ⟨g, i * 5, none⟩ (.string (l.get k).nm)).setCell ⟨g, i * 5 + 1, none⟩ (.int .i64 (l.get k).k)).setCell ⟨g, i * 5 + 2, none⟩ (.int .i64 (l.get k).n))) (p := ⟨g, i * 5 + 3, none⟩) (x := .string (l.get k).s) (q := ⟨g, k * 5 + 3, none⟩) y32
    clear y32
    obtain ⟨e40, y40⟩ := cell?_setCell_some (w := W2) (p := ⟨g, i * 5, none⟩) (x := .string (l.get k).nm) (q := ⟨g, k * 5 + 4, none⟩) k4
    obtain ⟨e41, y41⟩ := cell?_setCell_some (w := (W2.setCell ⟨g, i * 5, none⟩ (.string (l.get k).nm))) (p := ⟨g, i * 5 + 1, none⟩) (x := .int .i64 (l.get k).k) (q := ⟨g, k * 5 + 4, none⟩) y40
    clear y40
    obtain ⟨e42, y42⟩ := cell?_setCell_some (w := ((W2.setCell ⟨g, i * 5, none⟩ (.string (l.get k).nm)).setCell ⟨g, i * 5 + 1, none⟩ (.int .i64 (l.get k).k))) (p := ⟨g, i * 5 + 2, none⟩) (x := .int .i64 (l.get k).n) (q := ⟨g, k * 5 + 4, none⟩) y41
    clear y41
    obtain ⟨e43, y43⟩ := cell?_setCell_some (w := (((W2.setCell ⟨g, i * 5, none⟩ (.string (l.get k).nm)).setCell ⟨g, i * 5 + 1, none⟩ (.int .i64 (l.get k).k)).setCell ⟨g, i * 5 + 2, none⟩ (.int .i64 (l.get k).n))) (p := ⟨g, i * 5 + 3, none⟩) (x := .string (l.get k).s) (q := ⟨g, k * 5 + 4, none⟩) y42
    clear y42
    obtain ⟨e44, y44⟩ := cell?_setCell_some (w := ((((W2.setCell ⟨g, i * 5, none⟩ (.string (l.get k).nm)).setCell ⟨g, i * 5 + 1, none⟩ (.int .i64 (l.get k).k)).setCell ⟨g, i * 5 + 2, none⟩ (.int .i64 (l.get k).n)).setCell ⟨g, i * 5 + 3, none⟩ (.string (l.get k).s))) (p := ⟨g, i * 5 + 4, none⟩) (x := .slice Ak (l.get k).it.len ck) (q := ⟨g, k * 5 + 4, none⟩) y43
    clear y43
    go_region
    have hw5 := swap_world (W := W2) (S := fun x => x < W.heap.size) (g := g) (ci := ci) (ck := ck) hil hkl (fun b hb => by omega) (fun m hm => by
      obtain ⟨A', c', h0, h1, h2, h3, h4, hs⟩ := HAT.out m hm
      refine ⟨A', c', fun j u hj => ?_, hs⟩
      have hj5 := (List.getElem?_eq_some_iff.1 hj).1
      have e : j = 0 ∨ j = 1 ∨ j = 2 ∨ j = 3 ∨ j = 4 := by simp only [It.cells, List.length_cons, List.length_nil] at hj5; omega
      rcases e with rfl | rfl | rfl | rfl | rfl <;> (obtain rfl := Option.some.inj hj; assumption)) HSI.out HSK.out
    obtain ⟨W5, hW5, HS5, HT5⟩ : ∃ W5, (((((((((((W2.setCell ⟨g, i * 5, none⟩ (.string (l.get k).nm)).setCell ⟨g, i * 5 + 1, none⟩ (.int .i64 (l.get k).k)).setCell ⟨g, i * 5 + 2, none⟩ (.int .i64 (l.get k).n)).setCell ⟨g, i * 5 + 3, none⟩ (.string (l.get k).s)).setCell ⟨g, i * 5 + 4, none⟩ (.slice Ak (l.get k).it.len ck)).setCell
      ⟨g, k * 5, none⟩ (.string (l.get i).nm)).setCell ⟨g, k * 5 + 1, none⟩ (.int .i64 (l.get i).k)).setCell ⟨g, k * 5 + 2, none⟩ (.int .i64 (l.get i).n)).setCell ⟨g, k * 5 + 3, none⟩ (.string (l.get i).s)).setCell ⟨g, k * 5 + 4, none⟩ (.slice Ai (l.get i).it.len ci)).drew = W5) ∧
        Kp (Sl W5 (fun _ => True) (some ⟨g, 0, none⟩) (l.swap i k)) ∧ Kp (Still W W5) :=
      ⟨_, rfl, ⟨(hw5.1.still ((Still.refl _).drew)).weak (fun _ _ => trivial)⟩, ⟨(HT2.out.trans hw5.2 (fun b hb e => by omega)).drew⟩⟩
    rw [hW5]
    have HWL := Kp.mk (swap_len l i k)
    have HWE := Kp.mk (swap_eq HM.out hil hkl)
    have HWM := Kp.mk (swap_may HM.out hil hkl)
    have HWO := Kp.mk (swap_ok HO.out hil hkl)
    have HT6 := Kp.mk (HT.out.strans HT5.out)
    have HD := Kp.mk (L.len_drop l 1)
    have HDO := Kp.mk (drop_ok HO.out 1)
    clear hW5 hw5 y00 y11 y22 y33 y44 i0 i1 i2 i3 i4 k0 k1 k2 k3 k4 hfz HSI HSK HAT HV HC HO2 HT2
    have hc1 : (c : Int) ≠ 1 := by omega
    go_wp2_with fail
    refine (told17 W5).mono ?_
    rintro e w6 ⟨rfl, ht6⟩
    have HT7 := Kp.mk (HT6.out.strans ht6)
    have HS7 := Kp.mk (HS5.out.still ht6); clear ht6 HT6 HS5 HT5 HT
    have hfin : ∀ w', Still w w' → ∀ w8, Still w' w8 → Still w w8 := fun w' h1 w8 h2 => h1.strans h2
    by_cases hik : i = k
    all_goals (first | (have hkb : ((i : Int) == (k : Int)) = true := by simp; omega) | (have hkb : ((i : Int) == (k : Int)) = false := by simp; omega))
    all_goals have HIK := Kp.mk hik
    all_goals clear hik
    all_goals go_wp2_with fail
    all_goals refine (same_okn l (l.swap i k) _ _ rfl HWL.out.symm (some ⟨b, o, none⟩) (some ⟨g, 0, none⟩) c c2 (fun _ => True) w6 (by omega) (by rw [HWL.out]; omega) HO.out HWO.out ((HS.out.still HT7.out).weak (fun _ _ => trivial)) HS7.out).mono ?_
    all_goals rintro e w8 ⟨rfl, ht8⟩
    all_goals have HT8 := Kp.mk (HT7.out.strans ht8)
    all_goals have HS8 := Kp.mk (HS7.out.still ht8)
    all_goals clear ht8
    all_goals first | rw [decide_eq_true (HWE.out.2 HIK.out)] | rw [decide_eq_false (fun h => HIK.out (HWE.out.1 h))]
    all_goals go_wp2_with fail
    all_goals refine (mayTable_okn (l.swap i k) _ HWL.out.symm (some ⟨g, 0, none⟩) c2 (fun _ => True) w8 (by rw [HWL.out]; omega) HWO.out HS8.out).mono ?_
    all_goals rintro e w9 ⟨rfl, ht9⟩
    all_goals have HT9 := Kp.mk (HT8.out.strans ht9)
    all_goals clear ht9
    all_goals rw [HWM.out]
    all_goals go_wp2_with fail
    all_goals refine (same_okn l (l.drop 1) _ _ rfl (by rw [HD.out]) (some ⟨b, o, none⟩) (some ⟨b, o + 5, none⟩) c _ (fun _ => True) w9 (by omega) (by rw [HD.out]; omega) HO.out HDO.out ((HS.out.still HT9.out).weak (fun _ _ => trivial)) (((HS.out.still HT9.out).drop1 (by omega)).weak (fun _ _ => trivial))).mono ?_
    all_goals rintro e w10 ⟨rfl, ht10⟩
    all_goals have HT10 := Kp.mk (HT9.out.strans ht10)
    all_goals clear ht10
    all_goals rw [decide_eq_false (p := l = l.drop 1) (fun h => by have h2 := congrArg L.len h; rw [HD.out] at h2; omega)]
    all_goals go_wp2_with fail
    all_goals refine (same_okn (l.drop 1) l _ _ (by rw [HD.out]) rfl (some ⟨b, o + 5, none⟩) (some ⟨b, o, none⟩) _ c (fun _ => True) w10 (by rw [HD.out]; omega) (by omega) HDO.out HO.out (((HS.out.still HT10.out).drop1 (by omega)).weak (fun _ _ => trivial)) ((HS.out.still HT10.out).weak (fun _ _ => trivial))).mono ?_
    all_goals rintro e w11 ⟨rfl, ht11⟩
    all_goals have HT11 := Kp.mk (HT10.out.strans ht11)
    all_goals clear ht11
    all_goals rw [decide_eq_false (p := l.drop 1 = l) (fun h => by have h2 := congrArg L.len h; rw [HD.out] at h2; omega)]
    all_goals go_wp2_with fail
    all_goals go_ret
    all_goals exact ⟨rfl, HT11.out⟩
end Go.Proofs.Ytaeainkfllfdfaa
/- A6: The tables of ValueLong as data: which may be, and how long they are. No program in sight. -/
namespace Go.Proofs.Ytaeainkfllfdfaa
open Go.RowKit
set_option linter.unusedVariables false
set_option linter.unusedSimpArgs false
set_option maxRecDepth 100000

/-- So many zeros, as a text. -/
def zs (n : Nat) : ByteArray := ⟨(List.replicate n (0 : UInt8)).toArray⟩
theorem zs_size (n : Nat) : (zs n).size = n := by simp [zs, ByteArray.size]
/-- The name of item i. -/
def nm14 (i : Nat) : ByteArray := ⟨#[([48, 49, 50, 51, 52, 53, 54, 55, 56, 57, 97, 98, 99, 100] : List UInt8).getD i 0]⟩
theorem nm14_size (i : Nat) : (nm14 i).size = 1 := rfl
/-- The first i items. -/
def tab14 : Nat → L
  | 0 => .nil
  | i + 1 => (tab14 i).app (L.one ⟨nm14 i, 4, 0, zs 200, .nil⟩)
theorem tab14_len : ∀ i, (tab14 i).len = i
  | 0 => rfl
  | i + 1 => by rw [tab14, L.len_app, L.len_one, tab14_len i]
theorem text_ok (nm s : ByteArray) (h1 : nm.size ≤ 140737488351232) (h2 : s.size ≤ 140737488351232) : (⟨nm, 4, 0, s, .nil⟩ : It).Ok :=
  ⟨⟨h1, h2, Nat.zero_le _, (by decide : (-9223372036854775808 : Int) ≤ 4), (by decide : (4 : Int) ≤ 9223372036854775807), (by decide : (-9223372036854775808 : Int) ≤ 0), (by decide : (0 : Int) ≤ 9223372036854775807)⟩, trivial⟩
theorem tab14_ok : ∀ i, (tab14 i).Ok
  | 0 => trivial
  | i + 1 => have h := text_ok (nm14 i) (zs 200) (by rw [nm14_size]; decide) (by rw [zs_size]; decide)
    (tab14_ok i).app ⟨h.1, h.2, trivial⟩
/-- All items: the last one's text has n bytes. -/
def tab15 (n : Nat) : L := (tab14 14).app (L.one ⟨⟨#[122]⟩, 4, 0, zs n, .nil⟩)
theorem tab15_len (n : Nat) : (tab15 n).len = 15 := by rw [tab15, L.len_app, L.len_one, tab14_len]
theorem tab15_ok (n : Nat) (h : n ≤ 200) : (tab15 n).Ok := 
  have h' := text_ok ⟨#[122]⟩ (zs n) (by decide) (by rw [zs_size]; omega)
  (tab14_ok 14).app ⟨h'.1, h'.2, trivial⟩
theorem tab15_all : ∀ k : Fin 20, (tab15 (81 + k.val)).mayTab 1 = true ∧ (tab15 (81 + k.val)).enc.length = 2990 + k.val := by decide +kernel
end Go.Proofs.Ytaeainkfllfdfaa
/- F10: The walk of ValueLong. -/
namespace Go.Proofs.Ytaeainkfllfdfaa
open Go.RowKit
set_option linter.unusedVariables false
set_option linter.unusedSimpArgs false
set_option maxRecDepth 100000

theorem rem20 (i : Int) : ∃ k : Nat, wrap64 ((IntKind.u64.wrap i).tmod 20) = k ∧ k < 20 := remL i 20 (by decide) (by decide)
theorem made_cells (W : World) (n : Nat) (S : Nat → Prop) (hS : S W.heap.size) : Bs (W.alloc (.cells (madeCells #[.int .u8 0] n) 5)) S (some ⟨W.heap.size, 0, none⟩) (List.replicate n 0) := by
  refine .inr ⟨W.heap.size, 0, rfl, hS, fun j hj => ?_⟩
  rw [Nat.zero_add]
  refine cell_new' rfl ?_
  have hj' : j < n := by simpa using hj
  simp [madeCells, hj', Nat.mod_one]
theorem make25 (n : Nat) (hn : n ≤ 281474976710656) (w : World) : (Instr.makeSlice 25 (.int .i64 (n : Int)) (.int .i64 (n : Int))).run Try.prog w = .ok (.slice (some ⟨w.heap.size, 0, none⟩) n n) (w.alloc (.cells (madeCells #[.int .u8 0] n) 5)) :=
  run_make_row' (P := Try.prog) 25 5 (.int .u8 0) 1 Try.underlying25 info5 rfl .i64 .i64 n (by omega) (by omega) w

theorem slice14 (j : Nat) (hj : j < 14) (w : World) : (Instr.slice 9 (.string ⟨#[48, 49, 50, 51, 52, 53, 54, 55, 56, 57, 97, 98, 99, 100]⟩) (some (.int .i64 (j : Int))) (some (.int .i64 ((j : Int) + 1))) none).run Try.prog w = .ok (.string (nm14 j)) w := by
  have h := run_slice_string (P := Try.prog) w 9 ⟨#[48, 49, 50, 51, 52, 53, 54, 55, 56, 57, 97, 98, 99, 100]⟩ .i64 .i64 (j : Int) ((j : Int) + 1) Try.underlying9 (by omega) (by omega) (by rw [show (ByteArray.mk #[48, 49, 50, 51, 52, 53, 54, 55, 56, 57, 97, 98, 99, 100]).size = 14 from rfl]; omega)
  rw [h, show ((j : Int) + 1).toNat = j + 1 from by omega, Int.toNat_natCast]
  have key : ∀ j : Fin 14, (ByteArray.mk #[48, 49, 50, 51, 52, 53, 54, 55, 56, 57, 97, 98, 99, 100]).extract j.val (j.val + 1) = nm14 j.val := by decide +kernel
  rw [key ⟨j, hj⟩]

theorem put_okn (l : L) (n : Nat) (hn : n = l.len) (A : Option Addr) (c : Nat) (S : Nat → Prop) (w : World) (hl : l.len ≤ 140737488351232) (hO : l.Ok) (hS : Sl w S A l) :
    Calls Try.prog 18 #[.slice A n c] w (RetPut w l.putB l.putE) := by
  subst hn; exact put_ok l A c S w hl hO hS
theorem tab15_put (k : Nat) (h : k < 20) : (10 < k → (tab15 (81 + k)).putE = 502 ∧ (tab15 (81 + k)).putB = []) ∧ (k ≤ 10 → (tab15 (81 + k)).putE = 0 ∧ (tab15 (81 + k)).putB.length = 2990 + k) := by
  obtain ⟨h1, h2⟩ := tab15_all ⟨k, h⟩
  simp only at h1 h2
  unfold L.putE L.putB
  rw [if_pos h1, if_pos h1]
  refine ⟨fun hk => ?_, fun hk => ?_⟩
  · rw [if_pos (by omega), if_pos (by omega)]; exact ⟨rfl, rfl⟩
  · rw [if_neg (by omega), if_neg (by omega)]; exact ⟨rfl, h2⟩

set_option maxHeartbeats 8000000 in
theorem long10 (n : Int) (w : World) : Calls Try.prog 10 #[.int .i64 n] w fun e w' => e = .returned (.bool true) ∧ Still w w' := by
  obtain ⟨k, hk, hk20⟩ := rem20 n
  have hm200 : ∀ w, (Instr.makeSlice 25 (.int .i64 200) (.int .i64 200)).run Try.prog w = .ok (.slice (some ⟨w.heap.size, 0, none⟩) 200 200) (w.alloc (.cells (madeCells #[.int .u8 0] 200) 5)) := fun w => make25 200 (by decide) w
  have HML := Kp.mk tab14_len
  go_enter Try.func10, Try.ntmps10
  go_wp2_with fail
  simp only [hk]
  clear hk
  go_loopw [4, 5, 6] (fun v s i wr => ∃ (j : Nat) (A : Option Addr) (c : Nat), j ≤ 14 ∧ i = .int .i64 j ∧ s = .int .i64 (4 + 207 * (j : Int)) ∧ v = .slice A j c ∧ Kp (OwnI wr w.heap.size (w.heap.size ≤ ·) A c (tab14 j)) ∧ Kp (Still w wr)) (fun _ _ i _ => (14 - intOf i).toNat)
  case atStart => exact ⟨0, none, 0, by omega, rfl, rfl, rfl, ⟨OwnI.nil _ _ _⟩, ⟨Still.refl _⟩⟩
  case round =>
    obtain ⟨j, A, c, hj, rfl, rfl, rfl, HO, HT⟩ := hrel
    by_cases hlt : j < 14
    · have hsl := slice14 j hlt
      have hbs : ∀ W, Tch (fun b => b ≠ wr.heap.size) (wr.alloc (.cells (madeCells #[.int .u8 0] 200) 5)) W → (convert 25 9 (.slice (some ⟨wr.heap.size, 0, none⟩) 200 200)).run Try.prog W = .ok (.string (zs 200)) W := fun W h =>
        run_conv (c := 200) ((made_cells wr 200 (· = wr.heap.size) rfl).tch h (fun b hb hn => hn hb)) 200 (by simp)
      have hcv := hbs _ (Tch.refl _ _)
      have HCV := Kp.mk hbs; clear hbs
      have HSL := HT.out.size
      have hj1 : IntKind.i64.wrap ((j : Int) + 1) = (j : Int) + 1 := by have := wrap64_in; unfold IntKind.wrap; simp [IntKind.signed, IntKind.bits]; omega
      go_wp2_with fail
      go_region_held3 (fun W => (convert 25 9 (.slice (some ⟨wr.heap.size, 0, none⟩) 200 200)).run Try.prog W = .ok (.string (zs 200)) W)
        ((refine HCV.out _ ?_; (repeat' (first | exact Tch.refl _ _ | exact HT3.out | refine Tch.alloc ?_ _ | refine Tch.drew ?_))))
        (first
         | (refine step_appI _ (by rfl) _ _ rfl w.heap.size (w.heap.size ≤ ·) (fun _ => False) A c _ 1 (tab14 j) (L.one ⟨nm14 j, 4, 0, zs 200, .nil⟩) (by rfl) ?_ (HO.out.still ?_) _ 1 [.string (nm14 j), .int .i64 4, .int .i64 0, .string (zs 200), .slice none 0 0] (by rfl) rfl (.inr ⟨_, 0, rfl, ?_⟩) ⟨none, 0, [], rfl, Sl.nil _ _ _, rfl⟩ (fun _ h => h.elim) ?_ ?_ ?_; (exact (HML.out j).symm); (repeat' (first | exact Tch.refl _ _ | refine Tch.alloc ?_ _ | refine Tch.drew ?_)); (intro m u hm; rw [Nat.zero_add]; exact cell_new' (by simp) (by rw [← hm]; simp only [List.getElem?_toArray])); (rw [HML.out]; simp only [L.len_one]; omega); ((try simp only [World.size_alloc, World.size_drew]); omega); intro A2 c2 w2 ho2 ht2 hat2; have HO2 := Kp.mk ho2; have HT2 := Kp.mk ht2; have HT3 := Kp.mk (show Tch (fun b => b ≠ wr.heap.size) (wr.alloc (.cells (madeCells #[.int .u8 0] 200) 5)) w2 from Tch.trans (by (repeat' (first | exact Tch.refl _ _ | refine Tch.alloc ?_ _ | refine Tch.drew ?_))) ht2 (fun b _ h => Nat.ne_of_lt (HO.out.base h).2)); clear ho2 ht2 hat2))
      clear hj1 hcv hsl
      go_wp2_with fail
      go_roundw
      case rel =>
        refine ⟨j + 1, A2, c2, by omega, by go_num, by go_num, rfl, ⟨HO2.out⟩, ⟨HT.out.trans (T := fun x => w.heap.size ≤ x) (((Still.refl wr).alloc _).of_still.trans ((Tch.refl _ _).alloc _ |>.drew.trans (HT2.out.mono (T := fun x => w.heap.size ≤ x) (fun b _ h => (HO.out.base h).1)) (fun b _ h => h)) (fun b _ h => h)) (fun b hb h => by omega)⟩⟩
      case measure => go_light; simp only [intOf]; omega
    · obtain rfl : j = 14 := by omega
      clear hlt hj hm200
      have hmk : ∀ w, (Instr.makeSlice 25 (.int .i64 (2990 + (k : Int) - 2902 - 7)) (.int .i64 (2990 + (k : Int) - 2902 - 7))).run Try.prog w = .ok (.slice (some ⟨w.heap.size, 0, none⟩) (81 + k) (81 + k)) (w.alloc (.cells (madeCells #[.int .u8 0] (81 + k)) 5)) := fun w => by
        have := make25 (81 + k) (by omega) w
        rwa [show ((81 + k : Nat) : Int) = 2990 + (k : Int) - 2902 - 7 by omega] at this
      have hcv := run_conv (c := 81 + k) (made_cells wr (81 + k) (fun _ => True) trivial) (81 + k) (by simp)
      rw [show (⟨(List.replicate (81 + k) (0 : UInt8)).toArray⟩ : ByteArray) = zs (81 + k) from rfl] at hcv
      have HSL := HT.out.size
      have HOK := Kp.mk (tab15_ok (81 + k) (by omega))
      have HLN := Kp.mk (tab15_len (81 + k))
      have HPT := Kp.mk (tab15_put k hk20)
      go_wp2_with (at_builtin; (refine wpList_appI _ rfl _ _ rfl w.heap.size (w.heap.size ≤ ·) (fun _ => False) A c _ 1 (tab14 14) (L.one ⟨⟨#[122]⟩, 4, 0, zs (81 + k), .nil⟩) rfl ?_ (HO.out.still ?_) _ 1 [.string ⟨#[122]⟩, .int .i64 4, .int .i64 0, .string (zs (81 + k)), .slice none 0 0] rfl rfl (.inr ⟨_, 0, rfl, ?_⟩) ⟨none, 0, [], rfl, Sl.nil _ _ _, rfl⟩ (fun _ h => h.elim) ?_ ?_ ?_); (exact (HML.out 14).symm); (repeat' (first | exact Tch.refl _ _ | refine Tch.alloc ?_ _ | refine Tch.drew ?_)); (intro m u hm; rw [Nat.zero_add]; exact cell_new' (by simp) (by rw [← hm]; simp only [List.getElem?_toArray])); (rw [HML.out]; simp only [L.len_one]; omega); ((try simp only [World.size_alloc, World.size_drew]); omega); intro A2 c2 w2 ho2 ht2 hat2; have HO2 := Kp.mk ho2; have HT2 := Kp.mk ht2; clear ho2 ht2 hat2)
      have hT3 : Still w w2 := HT.out.trans (T := fun x => w.heap.size ≤ x) (((Still.refl wr).alloc _).of_still.trans (((Tch.refl _ _).alloc _).trans (HT2.out.mono (T := fun x => w.heap.size ≤ x) (fun b _ h => (HO.out.base h).1)) (fun b _ h => h)) (fun b _ h => h)) (fun b hb h => by omega)
      have HT3 := Kp.mk hT3; clear hT3 hcv hmk
      refine (put_okn (tab15 (81 + k)) _ HLN.out.symm A2 c2 (fun _ => True) w2 (by rw [HLN.out]; decide) HOK.out (HO2.out.sl (fun _ _ => trivial) (fun _ _ => trivial))).mono ?_
      rintro e w3 ⟨A3, c3, rfl, ho3, ht3⟩
      have HT4 := Kp.mk (HT3.out.strans ht3); clear ho3 ht3
      by_cases hk10 : 10 < k
      · rw [(HPT.out.1 hk10).1, (HPT.out.1 hk10).2]
        go_wp2_with fail
        refine (told17 w3).mono ?_
        rintro e w4 ⟨rfl, ht4⟩
        have HT5 := Kp.mk (HT4.out.strans ht4); clear ht4
        go_wp2_with fail
        go_ret
        exact ⟨rfl, HT5.out⟩
      · rw [(HPT.out.2 (by omega)).1, (HPT.out.2 (by omega)).2]
        go_wp2_with fail
        refine (told17 w3).mono ?_
        rintro e w4 ⟨rfl, ht4⟩
        have HT5 := Kp.mk (HT4.out.strans ht4); clear ht4
        go_wp2_with fail
        go_ret
        exact ⟨rfl, HT5.out⟩
end Go.Proofs.Ytaeainkfllfdfaa
/- A7: Plain laws of ValueBack: cut off, one byte more, one byte turned. No program in sight. -/
namespace Go.Proofs.Ytaeainkfllfdfaa
open Go.RowKit
set_option linter.unusedVariables false
set_option linter.unusedSimpArgs false

theorem xor_zero (a c : UInt8) : a ^^^ c = a ↔ c = 0 := by
  constructor
  · intro h
    have : a ^^^ (a ^^^ c) = a ^^^ a := by rw [h]
    rwa [← UInt8.xor_assoc, UInt8.xor_self, UInt8.zero_xor] at this
  · rintro rfl; exact UInt8.xor_zero
/-- One byte turned. -/
def turn (b : List UInt8) (k : Nat) (c : UInt8) : List UInt8 := b.set k (b.getD k 0 ^^^ c)
theorem turn_length (b : List UInt8) (k : Nat) (c : UInt8) : (turn b k c).length = b.length := by simp [turn]
theorem turn_eq {b : List UInt8} {k : Nat} (c : UInt8) (hk : k < b.length) : turn b k c = b ↔ c = 0 := by
  unfold turn
  have e : b.getD k 0 = b[k] := by simp [List.getD, hk]
  rw [e]
  constructor
  · intro h
    have := congrArg (fun l => l[k]?) h
    simp [hk] at this
    exact (xor_zero _ _).1 this
  · rintro rfl
    rw [(xor_zero b[k] 0).2 rfl]
    simp

theorem getOk_enc {l : L} (hO : l.Ok) (hm : l.mayTab 1 = true) (hb : l.enc.length ≤ 3000) : getOk l.enc = true := by
  have h := (get_put hO hm hb).2
  unfold getE at h
  split at h
  · assumption
  · cases h
theorem back_cut {b : List UInt8} (h : getOk b = true) {k : Nat} (hk : k < b.length) : getOk (b.take k) = false := by
  refine getOk_cut h (by rw [List.length_take]; omega) ?_
  by_cases h4 : 4 ≤ k
  · left; rw [List.take_take, Nat.min_eq_left h4]
  · right; rw [List.length_take]; omega
theorem back_more {b : List UInt8} (h : getOk b = true) (c : UInt8) : getOk (b ++ [c]) = false := by
  refine getOk_cut h (by simp) (.inl ?_)
  have := (getOk_form h).1
  rw [List.take_append_of_le_length this]
theorem getE_no {b : List UInt8} (h : getOk b = false) : getE b = 502 := by simp [getE, h]
theorem getE_yes {b : List UInt8} (h : getOk b = true) : getE b = 0 := by simp [getE, h]
theorem getL_yes {b : List UInt8} (h : getOk b = true) : (getL b).putB = b ∧ (getL b).putE = 0 := by
  have h2 := getOk_form h
  simp only [getL, h, if_true]
  exact ⟨h2.2.2.1, h2.2.2.2⟩
theorem getL_turn {l : L} (hO : l.Ok) (hm : l.mayTab 1 = true) (hb : l.enc.length ≤ 3000) {k : Nat} (c : UInt8) (hk : k < l.enc.length) (ht : getOk (turn l.enc k c) = true) : getL (turn l.enc k c) = l ↔ c = 0 := by
  constructor
  · intro h
    have h1 := (getL_yes ht).1
    rw [h] at h1
    have h2 : l.putB = l.enc := by unfold L.putB; rw [if_pos hm, if_neg (by omega)]
    rw [h2] at h1
    exact (turn_eq c hk).1 h1.symm
  · intro h
    rw [(turn_eq c hk).2 h]
    exact (get_put hO hm hb).1
theorem turn_no {b : List UInt8} (h : getOk b = true) {k : Nat} {c : UInt8} (hk : k < b.length) (ht : getOk (turn b k c) = false) : c ≠ 0 := by
  rintro rfl
  rw [(turn_eq 0 hk).2 rfl, h] at ht
  cases ht
theorem put_zero {l : L} (h : l.putE = 0) : l.mayTab 1 = true ∧ l.enc.length ≤ 3000 ∧ l.putB = l.enc := by
  unfold L.putE at h
  split at h
  · rename_i hm
    split at h
    · cases h
    · rename_i hb
      exact ⟨hm, by omega, by unfold L.putB; rw [if_pos hm, if_neg hb]⟩
  · cases h
theorem getL_ok (b : List UInt8) (h : b.length ≤ 140737488351232) : (getL b).Ok ∧ (getL b).len ≤ 33 := by
  obtain ⟨k1, k2, k3⟩ := Rd.table_ok 140737488351232 (by omega) 5 1 ⟨b, false⟩ h
  unfold getL
  split
  · exact ⟨k1, k2⟩
  · exact ⟨trivial, by decide⟩
end Go.Proofs.Ytaeainkfllfdfaa
