/- The contract of value.Find: the value of the first item of that name. -/
import Derived.Test.YtaeainkfllfdfaaB2
namespace Go.Proofs.Ytaeainkfllfdfaa
open Go.RowKit
set_option linter.unusedVariables false
set_option linter.unusedSimpArgs false
set_option maxRecDepth 100000

def It.zero : It := ⟨.empty, 0, 0, .empty, .nil⟩
/-- The first item of that name, or nothing. -/
def L.find : L → ByteArray → It
  | .nil, _ => It.zero
  | .cons nm k n s it rest, x => if nm = x then ⟨nm, k, n, s, it⟩ else rest.find x
theorem L.find_at (x : ByteArray) : ∀ (l : L) (i : Nat), i < l.len → (l.get i).nm = x → (∀ j, j < i → (l.get j).nm ≠ x) → l.find x = l.get i
  | .nil, i, hi, _, _ => by simp [L.len] at hi
  | .cons nm k n s it rest, 0, _, h, _ => by simp only [L.get] at h; simp [L.find, L.get, h]
  | .cons nm k n s it rest, i + 1, hi, h, hj => by
    have h0 := hj 0 (by omega)
    simp only [L.get] at h0
    simp only [L.find, if_neg h0, L.get]
    exact L.find_at x rest i (by simp [L.len] at hi; omega) h (fun j hji => hj (j + 1) (by omega))
theorem L.find_none (x : ByteArray) : ∀ (l : L), (∀ j, j < l.len → (l.get j).nm ≠ x) → l.find x = It.zero
  | .nil, _ => rfl
  | .cons nm k n s it rest, hj => by
    have h0 := hj 0 (by simp [L.len])
    simp only [L.get] at h0
    simp only [L.find, if_neg h0]
    exact L.find_none x rest (fun j hji => hj (j + 1) (by simp [L.len]; omega))

theorem enters49 (args : Array Value) (W : World) : (callFunc 49 args).run Try.prog W = .ok (.enter 49 args) W := enters_of Try.func49 (by kernel_rfl) rfl args W
set_option maxHeartbeats 1000000 in
theorem find_clo (x : It) (nm : ByteArray) (A : Option Addr) (c b : Nat) (w : World) (hc : w.cell? ⟨b, 0, none⟩ = some (.string nm)) :
    Calls Try.prog 49 #[.agg #[.string x.nm, .int .i64 x.k, .int .i64 x.n, .string x.s, .slice A x.it.len c], .pointer (some ⟨b, 0, none⟩)] w fun e w' => e = .returned (.bool (decide (x.nm = nm))) ∧ Still w w' := by
  have hc' := fun o => ((Still.refl w).alloc o).scell hc
  clear hc
  go_enter Try.func49, Try.ntmps49
  go_wp2_with fail
  go_ret
  exact ⟨ret_bool (by rw [Bool.eq_iff_iff]; simp [str_eq]), (Still.refl _).alloc _⟩

/-- A value that the call has left: its parts, its items where they lie. -/
def RetVal (w : World) (S : Nat → Prop) (x : It) (e : Ending) (w' : World) : Prop :=
  ∃ A c, e = .returned (.agg #[.int .i64 x.k, .int .i64 x.n, .string x.s, .slice A x.it.len c]) ∧ Sl w' S A x.it ∧ Still w w'

set_option maxHeartbeats 2000000 in
theorem find_ok (l : L) (nm : ByteArray) (A : Option Addr) (c : Nat) (S : Nat → Prop) (w : World) (hl : l.len ≤ 140737488351232) (hS : Sl w S A l) :
    Calls Try.prog 22 #[.slice A l.len c, .string nm] w (RetVal w S (l.find nm)) := by
  have C := Kp.mk (fun W b (h1 : Still w W) (h2 : W.cell? ⟨b, 0, none⟩ = some (.string nm)) =>
    indexFunc 49 #[.pointer (some ⟨b, 0, none⟩)] A c l hl S (fun i => decide ((l.get i).nm = nm)) (fun _ W' => Still W W') (fun _ W' => Still W W') W enters49 (Still.refl W) (fun _ W' h => (hS.still h1).still h)
      (fun i W' A' c' hi hI hs => (find_clo (l.get i) nm A' c' b W' (hI.scell h2)).mono fun e w' ⟨he, hw⟩ => ⟨he, fun _ => hI.still hw, fun _ => hI.still hw⟩))
  have HS := Kp.mk hS; clear hS
  have HF := Kp.mk (L.find_at nm l)
  have HN := Kp.mk (L.find_none nm l)
  go_enter Try.func22, Try.ntmps22
  go_wp2_with fail
  refine (C.out _ _ (((Still.refl _).alloc _).alloc _) ?_).mono ?_
  · go_simp
  · rintro e w1 (⟨i, hi, hp, hj, rfl, hw1⟩ | ⟨hj, rfl, hw1⟩)
    · have hi2 : (0 : Nat) < l.len := by omega
      have f0 := hw1.scell (a := ⟨w.heap.size + 1, 0, none⟩) (by go_simp; exact rfl)
      have f1 := hw1.scell (a := ⟨w.heap.size + 1, 1, none⟩) (by go_simp; exact rfl)
      have f2 := hw1.scell (a := ⟨w.heap.size + 1, 2, none⟩) (by go_simp; exact rfl)
      have f3 := hw1.scell (a := ⟨w.heap.size + 1, 3, none⟩) (by go_simp; exact rfl)
      have fr : ∀ o, w1.frozen? ⟨w.heap.size + 1, o, none⟩ = false := fun o => (hw1.frozen (a := ⟨w.heap.size + 1, o, none⟩) (by simp) (fun f => f)).trans (by go_simp)
      have hlt := hw1.size
      simp only [World.size_alloc] at hlt
      have hlt2 : w.heap.size ≤ w1.heap.size := by omega
      obtain ⟨ba, oa, rfl, hSa, hat⟩ := (HS.out.old.still (((Still.refl _).alloc _).alloc _ |>.still hw1)).at hi2
      obtain ⟨A', ca', p0, p1, p2, p3, p4, hsa⟩ := hat i hi
      have HX := Kp.mk (HF.out i hi (of_decide_eq_true hp) (fun j hji => of_decide_eq_false (hj j hji)))
      have Hsa := Kp.mk hsa
      have Hst := Kp.mk (((Still.refl w).alloc _).alloc _ |>.still hw1)
      clear hp hj hw1 hat hsa hSa
      go_wp2_with fail
      have hfin : ∀ w2, Tch (· = w.heap.size + 1) w1 w2 → RetVal w S (l.find nm) (.returned (.agg #[.int .i64 (l.get i).k, .int .i64 (l.get i).n, .string (l.get i).s, .slice A' (l.get i).it.len ca'])) w2 := fun w2 h2 => by
        rw [HX.out]
        exact ⟨A', ca', rfl, (Hsa.out.tch h2 (fun b hb e => by omega)).weak (fun _ hb => hb.1), Hst.out.trans h2 (fun b hb e => by omega)⟩
      refine bodyPost_ret (v := .agg #[.int .i64 (l.get i).k, .int .i64 (l.get i).n, .string (l.get i).s, .slice A' (l.get i).it.len ca']) (by simp [results, Try.results22, go_sem, f0, f1, f2, f3]) rfl (hfin _ ?_)
      iterate 4 refine Tch.setCell ?_ _ _ (fun _ => rfl)
      exact Tch.refl _ _
    · have f0 := hw1.scell (a := ⟨w.heap.size + 1, 0, none⟩) (by go_simp; exact rfl)
      have f1 := hw1.scell (a := ⟨w.heap.size + 1, 1, none⟩) (by go_simp; exact rfl)
      have f2 := hw1.scell (a := ⟨w.heap.size + 1, 2, none⟩) (by go_simp; exact rfl)
      have f3 := hw1.scell (a := ⟨w.heap.size + 1, 3, none⟩) (by go_simp; exact rfl)
      have fr : ∀ o, w1.frozen? ⟨w.heap.size + 1, o, none⟩ = false := fun o => (hw1.frozen (a := ⟨w.heap.size + 1, o, none⟩) (by simp) (fun f => f)).trans (by go_simp)
      have HX := Kp.mk (HN.out (fun j hji => of_decide_eq_false (hj j hji)))
      have Hst := Kp.mk (((Still.refl w).alloc _).alloc _ |>.still hw1)
      clear hj hw1
      go_wp2_with fail
      have hfin : ∀ w2, Tch (· = w.heap.size + 1) w1 w2 → RetVal w S (l.find nm) (.returned (.agg #[.int .i64 0, .int .i64 0, .string { data := #[] }, .slice none 0 0])) w2 := fun w2 h2 => by
        rw [HX.out]
        exact ⟨none, 0, rfl, Sl.nil _ _ _, Hst.out.trans h2 (fun b hb e => by omega)⟩
      refine bodyPost_ret (v := .agg #[.int .i64 0, .int .i64 0, .string { data := #[] }, .slice none 0 0]) (by simp [results, Try.results22, go_sem, f0, f1, f2, f3]) rfl (hfin _ ?_)
      iterate 4 refine Tch.setCell ?_ _ _ (fun _ => rfl)
      exact Tch.refl _ _
end Go.Proofs.Ytaeainkfllfdfaa
