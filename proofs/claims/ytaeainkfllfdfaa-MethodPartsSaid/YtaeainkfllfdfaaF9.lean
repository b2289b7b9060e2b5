/- The walk of ValueOrder. -/
import Derived.Test.YtaeainkfllfdfaaF4
import Derived.Deep.QuietTactic
import Derived.BigQuiet
import Derived.RegionTactic
import Derived.BigRegion
namespace Go.Proofs.Ytaeainkfllfdfaa
open Go.RowKit
set_option linter.unusedVariables false
set_option linter.unusedSimpArgs false
set_option maxRecDepth 100000

theorem OwnI.open {w : World} {base : Nat} {S : Nat → Prop} {A : Option Addr} {c : Nat} {l : L} (h : OwnI w base S A c l) (hl : 0 < l.len) :
    ∃ g, A = some ⟨g, 0, none⟩ ∧ base ≤ g ∧ (∀ o, w.frozen? ⟨g, o, none⟩ = false) ∧ ∀ i, i < l.len → ∃ A' c, w.cell? ⟨g, i * 5, none⟩ = some (.string (l.get i).nm) ∧ w.cell? ⟨g, i * 5 + 1, none⟩ = some (.int .i64 (l.get i).k) ∧
      w.cell? ⟨g, i * 5 + 2, none⟩ = some (.int .i64 (l.get i).n) ∧ w.cell? ⟨g, i * 5 + 3, none⟩ = some (.string (l.get i).s) ∧
      w.cell? ⟨g, i * 5 + 4, none⟩ = some (.slice A' (l.get i).it.len c) ∧ Sl w S A' (l.get i).it := by
  obtain ⟨us, ho, hv⟩ := h
  have hcells := @World.ownsRow.cells _ _ _ _ _ _ _ ho
  rcases ho.2 with ⟨hv', hn⟩ | ⟨g, cap, cur, hv', hg, hh, r⟩
  · omega
  · have hA : A = some ⟨g, 0, none⟩ := by simp at hv'; exact hv'.1
    subst hA
    refine ⟨g, rfl, hg, fun o => by simp [World.frozen?, hh], fun i hi => ?_⟩
    obtain ⟨A', c', h0, h1, h2, h3, h4, hs⟩ := hv.at i hi
    have hc : ∀ j u, us[j]? = some u → w.cell? ⟨g, j, none⟩ = some u := fun j u hj => by
      have := hcells (g := g) rfl j u hj
      rwa [Addr.add_lit, Nat.zero_add] at this
    exact ⟨A', c', hc _ _ h0, hc _ _ h1, hc _ _ h2, hc _ _ h3, hc _ _ h4, hs.weak (fun _ hb => hb.1)⟩

/-- The cells of an item. -/
def It.cells (x : It) (A : Option Addr) (c : Nat) : List Value := [.string x.nm, .int .i64 x.k, .int .i64 x.n, .string x.s, .slice A x.it.len c]
/-- The items' cells, one behind the other, are a table's. -/
theorem Vals.of_at {w : World} {S : Nat → Prop} (b : Nat) : ∀ (l : L) (o : Nat), (∀ i, i < l.len → ∃ A c, (∀ j u, ((l.get i).cells A c)[j]? = some u → w.cell? ⟨b, o + i * 5 + j, none⟩ = some u) ∧ Sl w S A (l.get i).it) →
    ∃ us, Vals w S l us ∧ ∀ j u, us[j]? = some u → w.cell? ⟨b, o + j, none⟩ = some u
  | .nil, o, _ => ⟨[], rfl, fun j u h => by simp at h⟩
  | .cons nm k n s it rest, o, h => by
    obtain ⟨A, c, h0, hs⟩ := h 0 (by simp [L.len])
    obtain ⟨vs, hv, hc⟩ := Vals.of_at b rest (o + 5) (fun i hi => by
      obtain ⟨A', c', h1, hs1⟩ := h (i + 1) (by simp [L.len]; omega)
      refine ⟨A', c', fun j u hj => ?_, hs1⟩
      have := h1 j u hj
      rwa [show o + (i + 1) * 5 + j = o + 5 + i * 5 + j by omega] at this)
    refine ⟨_, ⟨A, c, vs, rfl, hs, hv⟩, fun j u hj => ?_⟩
    by_cases h5 : j < 5
    · have e : j = 0 ∨ j = 1 ∨ j = 2 ∨ j = 3 ∨ j = 4 := by omega
      have := h0 j u (by rw [← hj]; rcases e with rfl | rfl | rfl | rfl | rfl <;> rfl)
      rwa [show o + 0 * 5 + j = o + j by omega] at this
    · obtain ⟨m, rfl⟩ : ∃ m, j = m + 5 := ⟨j - 5, by omega⟩
      have := hc m u (by simpa using hj)
      rwa [show o + 5 + m = o + (m + 5) by omega] at this
theorem Sl.of_at {w : World} {S : Nat → Prop} {b o : Nat} {l : L} (hb : S b) (h : ∀ i, i < l.len → ∃ A c, (∀ j u, ((l.get i).cells A c)[j]? = some u → w.cell? ⟨b, o + i * 5 + j, none⟩ = some u) ∧ Sl w S A (l.get i).it) : Sl w S (some ⟨b, o, none⟩) l := by
  obtain ⟨us, hv, hc⟩ := Vals.of_at b l o h
  exact .inr ⟨b, o, us, rfl, hb, hv, hc⟩
theorem Tch.setCells {S : Nat → Prop} {w : World} (g : Nat) : ∀ (vs : List Value) (w1 : World) (o : Nat), Tch S w w1 → S g → Tch S w (w1.setCells g o vs)
  | [], w1, o, h, _ => h
  | v :: vs, w1, o, h, hs => Tch.setCells g vs _ _ (h.setCell _ _ (fun _ => hs)) hs

theorem Vals.drop1 {w : World} {S : Nat → Prop} : ∀ {l : L} {us : List Value}, Vals w S l us → Vals w S (l.drop 1) (us.drop 5)
  | .nil, us, h => by cases h; rfl
  | .cons nm k n s it rest, us, h => by
    obtain ⟨A, c, vs, rfl, _, hr⟩ := h
    simpa [L.drop] using hr
theorem Sl.drop1 {w : World} {S : Nat → Prop} {b o : Nat} {l : L} (h : Sl w S (some ⟨b, o, none⟩) l) (hl : 0 < l.len) : Sl w S (some ⟨b, o + 5, none⟩) (l.drop 1) := by
  obtain ⟨b', o', us, e, hb, hv, hc⟩ := h.parts hl
  obtain ⟨rfl, rfl⟩ : b = b' ∧ o = o' := by simpa using e
  refine .inr ⟨b, o + 5, us.drop 5, rfl, hb, hv.drop1, fun j u hj => ?_⟩
  rw [Nat.add_assoc]
  exact hc (5 + j) u (by simpa using hj)

theorem drop_ok {l : L} (h : l.Ok) : ∀ n, (l.drop n).Ok := by
  intro n
  induction n generalizing l with
  | zero => exact h
  | succ n ih =>
    cases l with
    | nil => trivial
    | cons _ _ _ _ _ _ => exact ih h.2.2
theorem same_okn (a b : L) (n m : Nat) (hn : n = a.len) (hm : m = b.len) (A B : Option Addr) (ca cb : Nat) (S : Nat → Prop) (w : World) (ha : a.len ≤ 140737488351232) (hb : b.len ≤ 140737488351232) (hx : a.Ok) (hy : b.Ok) (hA : Sl w S A a) (hB : Sl w S B b) :
    Calls Try.prog 20 #[.slice A n ca, .slice B m cb] w fun e w' => e = .returned (.bool (decide (a = b))) ∧ Still w w' := by
  subst hn; subst hm; exact same_ok a b A B ca cb S w ha hb hx hy hA hB
theorem mayTable_okn (l : L) (n : Nat) (hn : n = l.len) (A : Option Addr) (c : Nat) (S : Nat → Prop) (w : World) (hl : l.len ≤ 140737488351232) (hO : l.Ok) (hS : Sl w S A l) :
    Calls Try.prog 21 #[.slice A n c] w fun e w' => e = .returned (.bool (l.mayTab 1)) ∧ Still w w' := by
  subst hn; exact mayTable_ok l A c S w hl hO hS

/-- Two items have been swapped. -/
theorem swap_world {W : World} {S : Nat → Prop} {g i k : Nat} {l : L} (hi : i < l.len) (hk : k < l.len) (hS : ∀ b, S b → b < g) {Ai Ak : Option Addr} {ci ck : Nat}
    (hat : ∀ i, i < l.len → ∃ A c, (∀ j u, ((l.get i).cells A c)[j]? = some u → W.cell? ⟨g, i * 5 + j, none⟩ = some u) ∧ Sl W S A (l.get i).it) (hsi : Sl W S Ai (l.get i).it) (hsk : Sl W S Ak (l.get k).it) :
    Sl ((W.setCells g (i * 5) ((l.get k).cells Ak ck)).setCells g (k * 5) ((l.get i).cells Ai ci)) (fun b => b ≤ g) (some ⟨g, 0, none⟩) (l.swap i k) ∧ Tch (· = g) W ((W.setCells g (i * 5) ((l.get k).cells Ak ck)).setCells g (k * 5) ((l.get i).cells Ai ci)) := by
  have t1 : Tch (· = g) W (W.setCells g (i * 5) ((l.get k).cells Ak ck)) := Tch.setCells g _ _ _ (Tch.refl _ _) rfl
  have t2 : Tch (· = g) W ((W.setCells g (i * 5) ((l.get k).cells Ak ck)).setCells g (k * 5) ((l.get i).cells Ai ci)) := Tch.setCells g _ _ _ t1 rfl
  have old : ∀ i, i < l.len → ∀ j, j < 5 → (W.cell? ⟨g, i * 5 + j, none⟩).isSome = true := fun m hm j hj => by
    obtain ⟨A, c, h, _⟩ := hat m hm
    have e : j < ((l.get m).cells A c).length := hj
    rw [h j _ (List.getElem?_eq_getElem e)]; rfl
  have out1 := fun m (hm : m ≠ i) j (hj : j < 5) => World.cell?_setCells_out g ((l.get k).cells Ak ck) (i * 5) W ⟨g, m * 5 + j, none⟩ (fun _ _ => by simp only [It.cells, List.length_cons, List.length_nil]; omega)
  have out2 := fun m (hm : m ≠ k) j (hj : j < 5) => World.cell?_setCells_out g ((l.get i).cells Ai ci) (k * 5) (W.setCells g (i * 5) ((l.get k).cells Ak ck)) ⟨g, m * 5 + j, none⟩ (fun _ _ => by simp only [It.cells, List.length_cons, List.length_nil]; omega)
  have in1 := World.cell?_setCells_in g ((l.get k).cells Ak ck) (i * 5) W (old i hi)
  have old2 : ∀ j, j < 5 → ((W.setCells g (i * 5) ((l.get k).cells Ak ck)).cell? ⟨g, k * 5 + j, none⟩).isSome = true := fun j hj => by
    by_cases e : k = i
    · subst e; rw [in1 j hj]; rfl
    · rw [out1 k e j hj]; exact old k hk j hj
  have in2 := World.cell?_setCells_in g ((l.get i).cells Ai ci) (k * 5) (W.setCells g (i * 5) ((l.get k).cells Ak ck)) old2
  have sub : ∀ {A : Option Addr} {m : L}, Sl W S A m → Sl ((W.setCells g (i * 5) ((l.get k).cells Ak ck)).setCells g (k * 5) ((l.get i).cells Ai ci)) (fun b => b ≤ g) A m := fun h =>
    (h.tch t2 (fun b hb e => by have := hS b hb; omega)).weak (fun b hb => Nat.le_of_lt (hS b hb))
  refine ⟨Sl.of_at (Nat.le_refl g) (fun m hm => ?_), t2⟩
  rw [swap_len] at hm
  rw [swap_get l hi hk]
  by_cases e1 : m = k
  · subst e1
    rw [if_pos rfl]
    refine ⟨Ai, ci, fun j u hj => ?_, sub hsi⟩
    have hj5 := (List.getElem?_eq_some_iff.1 hj).1
    rw [Nat.zero_add, in2 j hj5, ← hj, List.getElem?_eq_getElem hj5]
  rw [if_neg e1]
  by_cases e2 : m = i
  · subst e2
    rw [if_pos rfl]
    refine ⟨Ak, ck, fun j u hj => ?_, sub hsk⟩
    have hj5 := (List.getElem?_eq_some_iff.1 hj).1
    rw [Nat.zero_add, out2 m e1 j hj5, in1 j hj5, ← hj, List.getElem?_eq_getElem hj5]
  rw [if_neg e2]
  obtain ⟨A, c, h, hs⟩ := hat m hm
  refine ⟨A, c, fun j u hj => ?_, sub hs⟩
  have hj5 := (List.getElem?_eq_some_iff.1 hj).1
  rw [Nat.zero_add, out2 m e1 j hj5, out1 m e2 j hj5]
  exact h j u hj

set_option maxHeartbeats 8000000 in
theorem order9 (l : L) (A : Option Addr) (c : Nat) (a_ b_ : Int) (w : World) (hl : l.len ≤ 140737488351232) (hO : l.Ok) (hS : Sl w (fun b => b < w.heap.size) A l) (hlc : l.len ≤ c) (hcm : c ≤ 9223372036854775807) :
    Calls Try.prog 9 #[.slice A l.len c, .int .i64 a_, .int .i64 b_] w fun e w' => e = .returned (.bool true) ∧ Still w w' := by
  have HO := Kp.mk hO; clear hO
  have HS := Kp.mk hS; clear hS
  go_enter Try.func9, Try.ntmps9
  go_wp2_with fail
  refine (few16 l A c _ w hl HO.out HS.out).mono ?_
  rintro e w1 ⟨⟨fw, rfl⟩, ht1⟩
  have HT1 := Kp.mk ht1; clear ht1
  cases fw with
  | false =>
    go_wp2_with fail
    refine (told17 w1).mono ?_
    rintro e w2 ⟨rfl, ht2⟩
    have HT2 := Kp.mk (HT1.out.strans ht2); clear ht2
    go_wp2_with fail
    go_ret
    exact ⟨rfl, HT2.out⟩
  | true =>
  go_wp2_with fail
  refine (mayTable_ok l A c _ w1 hl HO.out (HS.out.still HT1.out)).mono ?_
  rintro e w2 ⟨rfl, ht2⟩
  have HT2 := Kp.mk (HT1.out.strans ht2); clear ht2 HT1
  cases hm : l.mayTab 1 with
  | false =>
    clear hm
    go_wp2_with fail
    refine (told17 w2).mono ?_
    rintro e w3 ⟨rfl, ht3⟩
    have HT3 := Kp.mk (HT2.out.strans ht3); clear ht3
    go_wp2_with fail
    go_ret
    exact ⟨rfl, HT3.out⟩
  | true =>
  have HM := Kp.mk hm; clear hm
  by_cases hz : l.len < 2
  · have hzb : decide ((l.len : Int) < 2) = true := by simp; omega
    go_wp2_with fail
    refine (told17 w2).mono ?_
    rintro e w3 ⟨rfl, ht3⟩
    have HT3 := Kp.mk (HT2.out.strans ht3); clear ht3
    go_wp2_with fail
    go_ret
    exact ⟨rfl, HT3.out⟩
  · obtain ⟨i, hi, hil⟩ := remL a_ l.len (by omega) hl
    obtain ⟨k, hk, hkl⟩ := remL b_ l.len (by omega) hl
    have hzb : decide ((l.len : Int) < 2) = false := by simp; omega
    have hzc : ((l.len : Int) == 0) = false := by simp; omega
    have hl32 := ((mayTab_iff 1 l).1 HM.out).2.1
    go_wp2_with fail
    go_quiet (fail)
    rw [hi, hk]
    have hq : Still w (w2.drewN nq) := HT2.out.drewN nq
    generalize w2.drewN nq = W at *
    have HT := Kp.mk hq; clear hq HT2 hi hk
    obtain ⟨b, o, us, rfl, hb, hvs, hcs⟩ := (HS.out.still HT.out).parts (by omega)
    have HV := Kp.mk (fun W' (h : Still W W') => hvs.still h)
    have HC := Kp.mk (fun W' (h : Still W W') j u (hj : us[j]? = some u) => h.scell (hcs j u hj))
    clear hvs hcs
    have hwW := HT.out.size
    go_wp2_with (at_builtin; (refine wpList_appI _ rfl _ _ rfl W.heap.size (fun x => x < W.heap.size) (fun x => x < w.heap.size) _ 0 0 _ .nil l rfl rfl (OwnI.made _ (heap_alloc_new _ _) (Nat.le_refl _)) (some ⟨b, o, none⟩) c us rfl rfl (.inr ⟨b, o, rfl, HC.out _ ((Still.refl _).alloc _)⟩) (HV.out _ ((Still.refl _).alloc _)) ?_ ?_ ?_ ?_); (intro x hx _; refine ⟨by omega, fun ⟨y, hy, e⟩ => ?_⟩; simp only [Option.some.injEq] at hy; subst hy; (try dsimp only at e); omega); (simp only [L.len]; omega); (simp only [World.size_alloc]; omega); intro A2 c2 W2 ho2 ht2 hat2; have HO2 := Kp.mk ho2; have HT2 := Kp.mk (app_still2 (W := W) ((Still.refl _).alloc _) (fun b hb => (by obtain ⟨y, hy, e⟩ := hb; simp only [Option.some.injEq] at hy; subst hy; (try dsimp only at e); omega)) ht2); clear ho2 ht2 hat2)
    have hz2 : 0 < l.len := by omega
    obtain ⟨g, hg, hgW, hfz, hat⟩ : ∃ g, A2 = some ⟨g, 0, none⟩ ∧ W.heap.size ≤ g ∧ (∀ o, W2.frozen? ⟨g, o, none⟩ = false) ∧ ∀ i, i < l.len → ∃ A' c, W2.cell? ⟨g, i * 5, none⟩ = some (.string (l.get i).nm) ∧ W2.cell? ⟨g, i * 5 + 1, none⟩ = some (.int .i64 (l.get i).k) ∧
      W2.cell? ⟨g, i * 5 + 2, none⟩ = some (.int .i64 (l.get i).n) ∧ W2.cell? ⟨g, i * 5 + 3, none⟩ = some (.string (l.get i).s) ∧
      W2.cell? ⟨g, i * 5 + 4, none⟩ = some (.slice A' (l.get i).it.len c) ∧ Sl W2 (fun x => x < W.heap.size) A' (l.get i).it := HO2.out.open hz2
    subst hg
    obtain ⟨Ai, ci, i0, i1, i2, i3, i4, hsi⟩ := hat i hil
    obtain ⟨Ak, ck, k0, k1, k2, k3, k4, hsk⟩ := hat k hkl
    have HSI := Kp.mk hsi; have HSK := Kp.mk hsk; have HAT := Kp.mk hat; clear hsi hsk hat
    obtain ⟨e00, y00⟩ := cell?_setCell_some (w := W2) (p := ⟨g, i * 5, none⟩) (x := .string (l.get k).nm) (q := ⟨g, k * 5, none⟩) k0
    obtain ⟨e10, y10⟩ := cell?_setCell_some (w := W2) (p := ⟨g, i * 5, none⟩) (x := .string (l.get k).nm) (q := ⟨g, k * 5 + 1, none⟩) k1
    obtain ⟨e11, y11⟩ := cell?_setCell_some (w := (W2.setCell ⟨g, i * 5, none⟩ (.string (l.get k).nm))) (p := ⟨g, i * 5 + 1, none⟩) (x := .int .i64 (l.get k).k) (q := ⟨g, k * 5 + 1, none⟩) y10
    clear y10
    obtain ⟨e20, y20⟩ := cell?_setCell_some (w := W2) (p := ⟨g, i * 5, none⟩) (x := .string (l.get k).nm) (q := ⟨g, k * 5 + 2, none⟩) k2
    obtain ⟨e21, y21⟩ := cell?_setCell_some (w := (W2.setCell ⟨g, i * 5, none⟩ (.string (l.get k).nm))) (p := ⟨g, i * 5 + 1, none⟩) (x := .int .i64 (l.get k).k) (q := ⟨g, k * 5 + 2, none⟩) y20
    clear y20
    obtain ⟨e22, y22⟩ := cell?_setCell_some (w := ((W2.setCell ⟨g, i * 5, none⟩ (.string (l.get k).nm)).setCell ⟨g, i * 5 + 1, none⟩ (.int .i64 (l.get k).k))) (p := ⟨g, i * 5 + 2, none⟩) (x := .int .i64 (l.get k).n) (q := ⟨g, k * 5 + 2, none⟩) y21
    clear y21
    obtain ⟨e30, y30⟩ := cell?_setCell_some (w := W2) (p := ⟨g, i * 5, none⟩) (x := .string (l.get k).nm) (q := ⟨g, k * 5 + 3, none⟩) k3
    obtain ⟨e31, y31⟩ := cell?_setCell_some (w := (W2.setCell ⟨g, i * 5, none⟩ (.string (l.get k).nm))) (p := ⟨g, i * 5 + 1, none⟩) (x := .int .i64 (l.get k).k) (q := ⟨g, k * 5 + 3, none⟩) y30
    clear y30
    obtain ⟨e32, y32⟩ := cell?_setCell_some (w := ((W2.setCell ⟨g, i * 5, none⟩ (.string (l.get k).nm)).setCell ⟨g, i * 5 + 1, none⟩ (.int .i64 (l.get k).k))) (p := ⟨g, i * 5 + 2, none⟩) (x := .int .i64 (l.get k).n) (q := ⟨g, k * 5 + 3, none⟩) y31
    clear y31
    obtain ⟨e33, y33⟩ := cell?_setCell_some (w := (((W2.setCell ⟨g, i * 5, none⟩ (.string (l.get k).nm)).setCell ⟨g, i * 5 + 1, none⟩ (.int .i64 (l.get k).k)).setCell ⟨g, i * 5 + 2, none⟩ (.int .i64 (l.get k).n))) (p := ⟨g, i * 5 + 3, none⟩) (x := .string (l.get k).s) (q := ⟨g, k * 5 + 3, none⟩) y32
    clear y32
    obtain ⟨e40, y40⟩ := cell?_setCell_some (w := W2) (p := ⟨g, i * 5, none⟩) (x := .string (l.get k).nm) (q := ⟨g, k * 5 + 4, none⟩) k4
    obtain ⟨e41, y41⟩ := cell?_setCell_some (w := (W2.setCell ⟨g, i * 5, none⟩ (.string (l.get k).nm))) (p := ⟨g, i * 5 + 1, none⟩) (x := .int .i64 (l.get k).k) (q := ⟨g, k * 5 + 4, none⟩) y40
    clear y40
    obtain ⟨e42, y42⟩ := cell?_setCell_some (w := ((W2.setCell ⟨g, i * 5, none⟩ (.string (l.get k).nm)).setCell ⟨g, i * 5 + 1, none⟩ (.int .i64 (l.get k).k))) (p := ⟨g, i * 5 + 2, none⟩) (x := .int .i64 (l.get k).n) (q := ⟨g, k * 5 + 4, none⟩) y41
    clear y41
    obtain ⟨e43, y43⟩ := cell?_setCell_some (w := (((W2.setCell ⟨g, i * 5, none⟩ (.string (l.get k).nm)).setCell ⟨g, i * 5 + 1, none⟩ (.int .i64 (l.get k).k)).setCell ⟨g, i * 5 + 2, none⟩ (.int .i64 (l.get k).n))) (p := ⟨g, i * 5 + 3, none⟩) (x := .string (l.get k).s) (q := ⟨g, k * 5 + 4, none⟩) y42
    clear y42
    obtain ⟨e44, y44⟩ := cell?_setCell_some (w := ((((W2.setCell ⟨g, i * 5, none⟩ (.string (l.get k).nm)).setCell ⟨g, i * 5 + 1, none⟩ (.int .i64 (l.get k).k)).setCell ⟨g, i * 5 + 2, none⟩ (.int .i64 (l.get k).n)).setCell ⟨g, i * 5 + 3, none⟩ (.string (l.get k).s))) (p := ⟨g, i * 5 + 4, none⟩) (x := .slice Ak (l.get k).it.len ck) (q := ⟨g, k * 5 + 4, none⟩) y43
    clear y43
    go_region
    have hw5 := swap_world (W := W2) (S := fun x => x < W.heap.size) (g := g) (ci := ci) (ck := ck) hil hkl (fun b hb => by omega) (fun m hm => by
      obtain ⟨A', c', h0, h1, h2, h3, h4, hs⟩ := HAT.out m hm
      refine ⟨A', c', fun j u hj => ?_, hs⟩
      have hj5 := (List.getElem?_eq_some_iff.1 hj).1
      have e : j = 0 ∨ j = 1 ∨ j = 2 ∨ j = 3 ∨ j = 4 := by simp only [It.cells, List.length_cons, List.length_nil] at hj5; omega
      rcases e with rfl | rfl | rfl | rfl | rfl <;> (obtain rfl := Option.some.inj hj; assumption)) HSI.out HSK.out
    obtain ⟨W5, hW5, HS5, HT5⟩ : ∃ W5, (((((((((((W2.setCell ⟨g, i * 5, none⟩ (.string (l.get k).nm)).setCell ⟨g, i * 5 + 1, none⟩ (.int .i64 (l.get k).k)).setCell ⟨g, i * 5 + 2, none⟩ (.int .i64 (l.get k).n)).setCell ⟨g, i * 5 + 3, none⟩ (.string (l.get k).s)).setCell ⟨g, i * 5 + 4, none⟩ (.slice Ak (l.get k).it.len ck)).setCell
      ⟨g, k * 5, none⟩ (.string (l.get i).nm)).setCell ⟨g, k * 5 + 1, none⟩ (.int .i64 (l.get i).k)).setCell ⟨g, k * 5 + 2, none⟩ (.int .i64 (l.get i).n)).setCell ⟨g, k * 5 + 3, none⟩ (.string (l.get i).s)).setCell ⟨g, k * 5 + 4, none⟩ (.slice Ai (l.get i).it.len ci)).drew = W5) ∧
        Kp (Sl W5 (fun _ => True) (some ⟨g, 0, none⟩) (l.swap i k)) ∧ Kp (Still W W5) :=
      ⟨_, rfl, ⟨(hw5.1.still ((Still.refl _).drew)).weak (fun _ _ => trivial)⟩, ⟨(HT2.out.trans hw5.2 (fun b hb e => by omega)).drew⟩⟩
    rw [hW5]
    have HWL := Kp.mk (swap_len l i k)
    have HWE := Kp.mk (swap_eq HM.out hil hkl)
    have HWM := Kp.mk (swap_may HM.out hil hkl)
    have HWO := Kp.mk (swap_ok HO.out hil hkl)
    have HT6 := Kp.mk (HT.out.strans HT5.out)
    have HD := Kp.mk (L.len_drop l 1)
    have HDO := Kp.mk (drop_ok HO.out 1)
    clear hW5 hw5 y00 y11 y22 y33 y44 i0 i1 i2 i3 i4 k0 k1 k2 k3 k4 hfz HSI HSK HAT HV HC HO2 HT2
    have hc1 : (c : Int) ≠ 1 := by omega
    go_wp2_with fail
    refine (told17 W5).mono ?_
    rintro e w6 ⟨rfl, ht6⟩
    have HT7 := Kp.mk (HT6.out.strans ht6)
    have HS7 := Kp.mk (HS5.out.still ht6); clear ht6 HT6 HS5 HT5 HT
    have hfin : ∀ w', Still w w' → ∀ w8, Still w' w8 → Still w w8 := fun w' h1 w8 h2 => h1.strans h2
    by_cases hik : i = k
    all_goals (first | (have hkb : ((i : Int) == (k : Int)) = true := by simp; omega) | (have hkb : ((i : Int) == (k : Int)) = false := by simp; omega))
    all_goals have HIK := Kp.mk hik
    all_goals clear hik
    all_goals go_wp2_with fail
    all_goals refine (same_okn l (l.swap i k) _ _ rfl HWL.out.symm (some ⟨b, o, none⟩) (some ⟨g, 0, none⟩) c c2 (fun _ => True) w6 (by omega) (by rw [HWL.out]; omega) HO.out HWO.out ((HS.out.still HT7.out).weak (fun _ _ => trivial)) HS7.out).mono ?_
    all_goals rintro e w8 ⟨rfl, ht8⟩
    all_goals have HT8 := Kp.mk (HT7.out.strans ht8)
    all_goals have HS8 := Kp.mk (HS7.out.still ht8)
    all_goals clear ht8
    all_goals first | rw [decide_eq_true (HWE.out.2 HIK.out)] | rw [decide_eq_false (fun h => HIK.out (HWE.out.1 h))]
    all_goals go_wp2_with fail
    all_goals refine (mayTable_okn (l.swap i k) _ HWL.out.symm (some ⟨g, 0, none⟩) c2 (fun _ => True) w8 (by rw [HWL.out]; omega) HWO.out HS8.out).mono ?_
    all_goals rintro e w9 ⟨rfl, ht9⟩
    all_goals have HT9 := Kp.mk (HT8.out.strans ht9)
    all_goals clear ht9
    all_goals rw [HWM.out]
    all_goals go_wp2_with fail
    all_goals refine (same_okn l (l.drop 1) _ _ rfl (by rw [HD.out]) (some ⟨b, o, none⟩) (some ⟨b, o + 5, none⟩) c _ (fun _ => True) w9 (by omega) (by rw [HD.out]; omega) HO.out HDO.out ((HS.out.still HT9.out).weak (fun _ _ => trivial)) (((HS.out.still HT9.out).drop1 (by omega)).weak (fun _ _ => trivial))).mono ?_
    all_goals rintro e w10 ⟨rfl, ht10⟩
    all_goals have HT10 := Kp.mk (HT9.out.strans ht10)
    all_goals clear ht10
    all_goals rw [decide_eq_false (p := l = l.drop 1) (fun h => by have h2 := congrArg L.len h; rw [HD.out] at h2; omega)]
    all_goals go_wp2_with fail
    all_goals refine (same_okn (l.drop 1) l _ _ (by rw [HD.out]) rfl (some ⟨b, o + 5, none⟩) (some ⟨b, o, none⟩) _ c (fun _ => True) w10 (by rw [HD.out]; omega) (by omega) HDO.out HO.out (((HS.out.still HT10.out).drop1 (by omega)).weak (fun _ _ => trivial)) ((HS.out.still HT10.out).weak (fun _ _ => trivial))).mono ?_
    all_goals rintro e w11 ⟨rfl, ht11⟩
    all_goals have HT11 := Kp.mk (HT10.out.strans ht11)
    all_goals clear ht11
    all_goals rw [decide_eq_false (p := l.drop 1 = l) (fun h => by have h2 := congrArg L.len h; rw [HD.out] at h2; omega)]
    all_goals go_wp2_with fail
    all_goals go_ret
    all_goals exact ⟨rfl, HT11.out⟩
end Go.Proofs.Ytaeainkfllfdfaa
