/- The contracts of value.may, value.mayTable, value.MayTable, value.May: they answer what the plain functions answer, and turn nothing. -/
import Derived.Test.YtaeainkfllfdfaaB0
import Derived.Shelf.Abstract
namespace Go.Proofs.Ytaeainkfllfdfaa
open Go.RowKit
set_option linter.unusedVariables false
set_option linter.unusedSimpArgs false
set_option maxRecDepth 100000

def MayTabC (l : L) : Prop := ∀ (d : Nat) (D : Int) (A : Option Addr) (c : Nat) (S : Nat → Prop) (w : World), D = d → d ≤ 5 → l.len ≤ 140737488351232 → l.Ok → Sl w S A l →
  Calls Try.prog 47 #[.slice A l.len c, .int .i64 D] w fun e w' => e = .returned (.bool (l.mayTab d)) ∧ Still w w'
theorem MayTabC.use {l : L} (h : MayTabC l) (d : Nat) (D : Int) (A : Option Addr) (c : Nat) (S : Nat → Prop) (w : World) (hD : D = d) (hd : d ≤ 5) (hl : l.len ≤ 140737488351232) (hO : l.Ok) (hS : Sl w S A l) :
  Calls Try.prog 47 #[.slice A l.len c, .int .i64 D] w fun e w' => e = .returned (.bool (l.mayTab d)) ∧ Still w w' := h d D A c S w hD hd hl hO hS

theorem ret_bool {a b : Bool} (h : a = b) : Ending.returned (.bool a) = .returned (.bool b) := by rw [h]
theorem size_zero (s : ByteArray) : s.toList = [] ↔ s.size = 0 := by
  rw [toList_nil_iff_emptyBytes]
  constructor
  · rintro rfl; rfl
  · intro h; exact ByteArray.ext (Array.eq_empty_of_size_eq_zero h)

set_option maxHeartbeats 2000000 in
theorem mayC (it : L) (hC : MayTabC it) (k n : Int) (s : ByteArray) (d : Nat) (D : Int) (A : Option Addr) (c : Nat) (S : Nat → Prop) (w : World) (hD : D = d) (hd : d ≤ 4) (hs : s.size ≤ 140737488351232) (hl : it.len ≤ 140737488351232) (hO : it.Ok) (hS : Sl w S A it) :
    Calls Try.prog 58 #[.agg #[.int .i64 k, .int .i64 n, .string s, .slice A it.len c], .int .i64 D] w fun e w' => e = .returned (.bool (kindOk k n s.size it.len (it.mayTab (d + 1)))) ∧ Still w w' := by
  subst hD
  have HC := Kp.mk hC; clear hC
  have HO := Kp.mk hO; clear hO
  have HS := Kp.mk hS; clear hS
  go_enter Try.func58, Try.ntmps58
  go_wp2_with ((with_reducible refine (MayTabC.use HC.out (d + 1) _ A c S _ (by omega) (by omega) hl HO.out (HS.out.still ((Still.refl _).alloc _))).mono ?_); rintro e w' ⟨rfl, hw⟩)
  all_goals go_ret
  all_goals refine ⟨ret_bool ?_, ?_⟩
  all_goals first | exact (Still.refl _).alloc _ | exact ((Still.refl _).alloc _).still ‹_› | skip
  all_goals (try simp only [size_zero] at *)
  all_goals clear HC HO HS
  all_goals go_light
  all_goals (try simp only [beq_iff_eq, bne_iff_ne, beq_eq_false_iff_ne, bne_eq_false_iff_eq, ne_eq] at *)
  all_goals (unfold kindOk; (repeat' split) <;> first | rfl | omega | (simp_all; done) | (rw [Bool.eq_iff_iff]; simp; done) | (rw [Bool.eq_iff_iff]; simp; omega))

set_option maxHeartbeats 2000000 in
theorem mayClo (x : It) (hC : MayTabC x.it) (d : Nat) (bs bd bm m : Nat) (seen : List ByteArray) (A : Option Addr) (c : Nat) (S : Nat → Prop) (w : World) (hd : d ≤ 4) (hO : x.Ok) (hS : Sl w S A x.it)
    (hcs : w.cell? ⟨bs, 0, none⟩ = some (.map (some bm))) (hcd : w.cell? ⟨bd, 0, none⟩ = some (.int .i64 d)) (hne1 : bs ≠ bm) (hne2 : bd ≠ bm) (hm : SetB w bm m seen) (hm1 : m < 1000) :
    Calls Try.prog 80 #[.agg #[.string x.nm, .int .i64 x.k, .int .i64 x.n, .string x.s, .slice A x.it.len c], .pointer (some ⟨bs, 0, none⟩), .pointer (some ⟨bd, 0, none⟩)] w fun e w' =>
      e = .returned (.bool (!x.ok d seen)) ∧ Tch (· = bm) w w' ∧ SetB w' bm (m + 1) (x.nm :: seen) := by
  obtain ⟨⟨q1, q2, q3, q4, q5, q6, q7⟩, q8⟩ := hO
  have hnm : x.nm.size ≤ maxLen := by unfold maxLen; omega
  have HC := Kp.mk hC; clear hC
  have HO := Kp.mk q8; clear q8
  have HS := Kp.mk hS; clear hS
  have HM := Kp.mk hm; clear hm
  have hl : ∀ o, (Instr.lookup 115 (.map (some bm)) (.string x.nm) false).run Try.prog (w.alloc o) = .ok (.bool (seenB seen x.nm)) (w.alloc o) := fun o => (HM.out.tch (((Still.refl w).alloc o)) (fun f => f)).look x.nm hnm
  have hcs' : ∀ o, (w.alloc o).cell? ⟨bs, 0, none⟩ = some (.map (some bm)) := fun o => ((Still.refl w).alloc o).scell hcs
  have hcd' : ∀ o, (w.alloc o).cell? ⟨bd, 0, none⟩ = some (.int .i64 d) := fun o => ((Still.refl w).alloc o).scell hcd
  have hbs : bs < w.heap.size := World.block_lt_of_cell? w ⟨bs, 0, none⟩ hcs
  have hfin : ∀ (r : Bool) (w1 w2 : World), Still w w1 → SetB w2 bm (m + 1) (x.nm :: seen) → w1.grownBy w2 (some bm) → (!x.ok d seen) = r →
      Ending.returned (.bool r) = .returned (.bool (!x.ok d seen)) ∧ Tch (· = bm) w w2 ∧ SetB w2 bm (m + 1) (x.nm :: seen) := fun r w1 w2 h1 h2 h3 h4 =>
    ⟨by rw [h4], (Tch.of_still h1).grown h3 (fun k e _ => by cases e; rfl), h2⟩
  have HF := Kp.mk hfin; clear hfin
  by_cases g1 : x.nm.size < 1
  · have e0 : decide (1 ≤ x.nm.size) = false := decide_eq_false (by omega)
    have e1 : (!x.ok d seen) = true := by simp [It.ok, e0]
    have E1 := Kp.mk e1; clear e1 e0
    go_enter Try.func80, Try.ntmps80
    go_wp2_with (at_mapUpdate; (with_reducible refine wpList_seen _ rfl _ _ _ rfl bm m seen x.nm rfl rfl rfl (HM.out.tch ((Still.refl w).alloc _) (fun f => f)) hnm ?_ ?_); (unfold maxLen; omega); intro w2 hs2 hg2; have HS2 := Kp.mk hs2; clear hs2)
    go_ret
    exact HF.out _ _ _ ((Still.refl w).alloc _) HS2.out hg2 E1.out
  by_cases g2 : 40 < x.nm.size
  · have e0 : decide (x.nm.size ≤ 40) = false := decide_eq_false (by omega)
    have e1 : (!x.ok d seen) = true := by simp [It.ok, e0]
    have E1 := Kp.mk e1; clear e1 e0
    go_enter Try.func80, Try.ntmps80
    go_wp2_with (at_mapUpdate; (with_reducible refine wpList_seen _ rfl _ _ _ rfl bm m seen x.nm rfl rfl rfl (HM.out.tch ((Still.refl w).alloc _) (fun f => f)) hnm ?_ ?_); (unfold maxLen; omega); intro w2 hs2 hg2; have HS2 := Kp.mk hs2; clear hs2)
    go_ret
    exact HF.out _ _ _ ((Still.refl w).alloc _) HS2.out hg2 E1.out
  have e0 : decide (1 ≤ x.nm.size) = true := decide_eq_true (by omega)
  have e0' : decide (x.nm.size ≤ 40) = true := decide_eq_true (by omega)
  cases g3 : seenB seen x.nm with
  | true =>
    have e1 : (!x.ok d seen) = true := by simp [It.ok, g3]
    have E1 := Kp.mk e1; clear e1 e0 e0'
    rw [g3] at hl
    go_enter Try.func80, Try.ntmps80
    go_wp2_with (at_mapUpdate; (with_reducible refine wpList_seen _ rfl _ _ _ rfl bm m seen x.nm rfl rfl rfl (HM.out.tch ((Still.refl w).alloc _) (fun f => f)) hnm ?_ ?_); (unfold maxLen; omega); intro w2 hs2 hg2; have HS2 := Kp.mk hs2; clear hs2)
    go_ret
    exact HF.out _ _ _ ((Still.refl w).alloc _) HS2.out hg2 E1.out
  | false =>
    have e1 : (!x.ok d seen) = !x.may d := by simp [It.ok, g3, e0, e0']
    have f1 : decide ((x.nm.size : Int) < 1) = false := decide_eq_false (by omega)
    have f2 : decide (40 < (x.nm.size : Int)) = false := decide_eq_false (by omega)
    have e2 : (!x.ok d seen) = (decide ((x.nm.size : Int) < 1) || decide (40 < (x.nm.size : Int)) || !kindOk x.k x.n x.s.size x.it.len (L.mayTab (d + 1) x.it)) := by rw [e1, f1, f2]; rfl
    have E1 := Kp.mk e2; clear e2 e1 e0 e0' f1 f2
    rw [g3] at hl
    go_enter Try.func80, Try.ntmps80
    go_wp2_with fail
    refine (mayC x.it HC.out x.k x.n x.s d _ A c S _ rfl hd (by omega) (by omega) HO.out (HS.out.still ((Still.refl _).alloc _))).mono ?_
    rintro e w1 ⟨rfl, hw1⟩
    have hc1 := hw1.scell (hcs' _)
    have hc2 := hw1.scell (a := ⟨w.heap.size, 0, none⟩) (v := .string x.nm) (by simp)
    have HM1 := Kp.mk ((HM.out.tch ((Still.refl w).alloc _) (fun f => f)).tch hw1 (fun f => f))
    have HW1 := Kp.mk (((Still.refl w).alloc _).still hw1)
    clear hw1 hl hcs' hcd'
    go_wp2_with (at_mapUpdate; (with_reducible refine wpList_seen _ rfl _ _ _ rfl bm m seen x.nm rfl rfl rfl HM1.out hnm ?_ ?_); (unfold maxLen; omega); intro w2 hs2 hg2; have HS2 := Kp.mk hs2; clear hs2)
    go_ret
    exact HF.out _ _ _ HW1.out HS2.out hg2 E1.out

/-- The world at the head of a round of mayTable's look through its items. -/
structure MayIn (w0 : World) (l : L) (d n0 : Nat) (i : Nat) (W : World) : Prop where
  still : Still w0 W
  deep : W.cell? ⟨n0, 0, none⟩ = some (.int .i64 d)
  var : W.cell? ⟨n0 + 2, 0, none⟩ = some (.map (some (n0 + 1)))
  set : SetB W (n0 + 1) i (l.names i)

theorem mayTab_any (l : L) (d : Nat) (hd : d ≤ 4) (hl : l.len ≤ 32) : (∀ j, j < l.len → (!(l.get j).ok d (l.names j)) = false) ↔ l.mayTab d = true := by
  unfold L.mayTab
  rw [decide_eq_true hd, decide_eq_true hl]
  simp only [Bool.true_and]
  rw [L.mayIts_all]
  simp

theorem enters80 (args : Array Value) (W : World) : (callFunc 80 args).run Try.prog W = .ok (.enter 80 args) W := enters_of Try.func80 (by kernel_rfl) rfl args W

theorem mayContains (l : L) (ih : ∀ i, i < l.len → MayTabC (l.get i).it) (d : Nat) (hd : d ≤ 4) (hl : l.len ≤ 32) (hO : l.Ok) (A : Option Addr) (c : Nat) (S : Nat → Prop) (w0 W : World) (n0 : Nat) (hn : w0.heap.size ≤ n0)
    (H : MayIn w0 l d n0 0 W) (hS : Sl w0 S A l) :
    Calls Try.prog 79 #[.slice A l.len c, .func (.func 80) #[] #[.pointer (some ⟨n0 + 2, 0, none⟩), .pointer (some ⟨n0, 0, none⟩)]] W fun e w' => e = .returned (.bool (!l.mayTab d)) ∧ Still w0 w' := by
  have key := mayTab_any l d hd hl
  refine (containsFunc 80 _ A c l (by omega) S (fun i => !(l.get i).ok d (l.names i)) (MayIn w0 l d n0) (fun _ W => Still w0 W) W enters80 H (fun i W h => hS.still h.still) ?_).mono ?_
  · intro i W A' c' hi h hs
    refine (mayClo (l.get i) (ih i hi) d (n0 + 2) n0 (n0 + 1) i (l.names i) A' c' S W hd (hO.get i hi) hs h.var h.deep (by omega) (by omega) h.set (by omega)).mono ?_
    rintro e w' ⟨rfl, ht, hset⟩
    have hst : Still w0 w' := h.still.trans ht (fun b hb e => by omega)
    exact ⟨rfl, fun _ => ⟨hst, ht.cell h.deep (by simp), ht.cell h.var (by simp), hset⟩, fun _ => hst⟩
  · rintro e w' (⟨i, hi, hp, _, rfl, hR⟩ | ⟨hj, rfl, hI⟩)
    · refine ⟨ret_bool ?_, hR⟩
      cases hm : l.mayTab d with
      | false => rfl
      | true => exact absurd (show (!(l.get i).ok d (l.names i)) = true from hp) (by rw [key.2 hm i hi]; simp)
    · refine ⟨ret_bool ?_, hI.still⟩
      rw [key.1 hj]; rfl

set_option maxHeartbeats 2000000 in
theorem mayTabC : ∀ l, MayTabC l := L.ind fun l ih => by
  intro d D A c S w hD hd hl hO hS
  subst hD
  have HI := Kp.mk ih; clear ih
  have HO := Kp.mk hO; clear hO
  have HS := Kp.mk hS; clear hS
  have hmm := @run_makeMap Try.prog
  by_cases g1 : 4 < d
  · have e1 : l.mayTab d = false := by unfold L.mayTab; rw [decide_eq_false (by omega)]; rfl
    have E1 := Kp.mk e1; clear e1
    go_enter Try.func47, Try.ntmps47
    go_wp2_with fail
    go_ret
    exact ⟨ret_bool E1.out.symm, (Still.refl _).alloc _⟩
  by_cases g2 : 32 < l.len
  · have e1 : l.mayTab d = false := by unfold L.mayTab; rw [decide_eq_false (p := l.len ≤ 32) (by omega)]; simp
    have E1 := Kp.mk e1; clear e1
    go_enter Try.func47, Try.ntmps47
    go_wp2_with fail
    go_ret
    exact ⟨ret_bool E1.out.symm, (Still.refl _).alloc _⟩
  go_enter Try.func47, Try.ntmps47
  go_wp2_with fail
  refine (mayContains l HI.out d (by omega) (by omega) HO.out A c S w _ w.heap.size (Nat.le_refl _) ⟨(((Still.refl w).alloc _).alloc _).alloc _, ?_, ?_, ?_⟩ HS.out).mono ?_
  · go_simp
  · go_simp
  · have h := (SetB.made (w.alloc (Obj.cells #[Value.int IntKind.i64 ↑d] 3))).tch ((Still.refl _).alloc (Obj.cells #[Value.map (some (w.heap.size + 1))] 115)) (fun f => f)
    simpa [L.names] using h
  · rintro e w1 ⟨rfl, hw1⟩
    go_wp2_with fail
    go_ret
    exact ⟨ret_bool (by simp), hw1⟩

/-- value.MayTable. -/
theorem mayTable_ok (l : L) (A : Option Addr) (c : Nat) (S : Nat → Prop) (w : World) (hl : l.len ≤ 140737488351232) (hO : l.Ok) (hS : Sl w S A l) :
    Calls Try.prog 21 #[.slice A l.len c] w fun e w' => e = .returned (.bool (l.mayTab 1)) ∧ Still w w' := by
  have C := Kp.mk (mayTabC l 1 1 A c S w rfl (by omega) hl hO hS)
  clear hO hS
  go_enter Try.func21, Try.ntmps21
  go_wp2_with (refine C.out.mono ?_; rintro e w1 ⟨rfl, hw1⟩)
  go_ret
  exact ⟨rfl, hw1⟩
/-- value.May. -/
theorem may_ok (it : L) (k n : Int) (s : ByteArray) (A : Option Addr) (c : Nat) (S : Nat → Prop) (w : World) (hs : s.size ≤ 140737488351232) (hl : it.len ≤ 140737488351232) (hO : it.Ok) (hS : Sl w S A it) :
    Calls Try.prog 31 #[.agg #[.int .i64 k, .int .i64 n, .string s, .slice A it.len c]] w fun e w' => e = .returned (.bool (kindOk k n s.size it.len (it.mayTab 1))) ∧ Still w w' := by
  have C := Kp.mk (fun W h => mayC it (mayTabC it) k n s 0 0 A c S W rfl (by omega) hs hl hO h)
  have HS := Kp.mk hS
  clear hO hS
  go_enter Try.func31, Try.ntmps31
  go_wp2_with (refine (C.out _ (HS.out.still ((Still.refl _).alloc _))).mono ?_; rintro e w1 ⟨rfl, hw1⟩)
  go_ret
  exact ⟨rfl, ((Still.refl _).alloc _).still hw1⟩
end Go.Proofs.Ytaeainkfllfdfaa
