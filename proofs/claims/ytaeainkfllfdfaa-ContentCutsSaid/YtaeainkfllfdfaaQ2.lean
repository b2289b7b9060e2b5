/- Contracts of the functions that the statement reaches, each walked once, and the plain laws over them, for every input that their premises name (B0, B1, B2, B3, A2). -/
import Derived.Test.YtaeainkfllfdfaaQ1
import Derived.Test.YtaeainkfllfdfaaProg
import Derived.Maps.Own
import Derived.Deep.Light
import Derived.Maps.OwnOps
import Derived.Maps.OwnSet
import Derived.Shelf.Abstract
/- B0: The set of seen names as the program's map[string]bool holds it, and the contract of slices.IndexFunc over items. -/
namespace Go.Proofs.Ytaeainkfllfdfaa
open Go.RowKit
set_option linter.unusedVariables false
set_option linter.unusedSimpArgs false
set_option maxRecDepth 100000

theorem below_succ {p : Nat → Prop} {k : Nat} (h : ∀ j, j < k → p j) (hk : p k) : ∀ j, j < k + 1 → p j := fun j hj => by
  by_cases e : j = k
  · rw [e]; exact hk
  · exact h j (by omega)

/-! ### the map of seen names -/
theorem zeroV4 (w : World) : (zeroValue 4).run Try.prog w = .ok (.bool false) w := by kernel_rfl
theorem keyS : Maps.Keyed Try.prog 9 := Maps.string_keyed Try.underlying9

/-- Block b is a map whose keys with true are the names seen. -/
def SetB (w : World) (b : Nat) (n : Nat) (seen : List ByteArray) : Prop :=
  ∃ D : DataW Unit, w.ownsMap Try.prog 9 (plainElem Try.prog 4) b n D ∧ ∀ nm : ByteArray, nm.size ≤ maxLen → D.atKey (.string nm.data.toList) (.lit (.bool false)) = .lit (.bool (seenB seen nm))

theorem plainElem_bool_inv {H : Type} {P : Program} {e : TypeId} (he : P.underlying e = some .bool) {v : Value} {z : DataW H × List MemPlace} (h : plainElem P e v = some z) : ∃ x, v = .bool x ∧ z = (.lit (.bool x), []) := by
  unfold plainElem at h
  rw [he] at h
  cases v <;> simp at h
  exact ⟨_, rfl, h.symm⟩

theorem SetB.made (w : World) : SetB (w.alloc (.map #[] 0)) w.heap.size 0 [] :=
  ⟨.map [], World.ownsMap_made w _ _ _, fun nm _ => by simp [DataW.atKey, seenB]⟩

theorem SetB.look {w : World} {b n : Nat} {seen : List ByteArray} (h : SetB w b n seen) (nm : ByteArray) (hn : nm.size ≤ maxLen) :
    (Instr.lookup 115 (.map (some b)) (.string nm) false).run Try.prog w = .ok (.bool (seenB seen nm)) w := by
  obtain ⟨D, ho, hD⟩ := h
  obtain ⟨v, ps, hrun, hv⟩ := ho.lookup keyS Try.underlying115 (zeroV4 w) (plainElem_bool Try.underlying4 false) (WideMaps.keyOf_string_mk Try.underlying9 hn)
  obtain ⟨x, rfl, hx⟩ := plainElem_bool_inv Try.underlying4 hv
  rw [hD nm hn] at hx
  simp only [Prod.mk.injEq, DataW.lit.injEq, Lit.bool.injEq] at hx
  rw [hrun, hx.1]

theorem SetB.put {w : World} {b n : Nat} {seen : List ByteArray} (h : SetB w b n seen) (nm : ByteArray) (hn : nm.size ≤ maxLen) (hc : n < maxLen) :
    ∃ w', (Instr.mapUpdate 115 (.map (some b)) (.string nm) (.bool true)).run Try.prog w = .ok () w' ∧ SetB w' b (n + 1) (nm :: seen) ∧ w.grownBy w' (some b) := by
  obtain ⟨D, ho, hD⟩ := h
  obtain ⟨w', hrun, ho', hg⟩ := ho.update (val := .bool true) keyS Try.underlying115 hc (WideMaps.keyOf_string_mk Try.underlying9 hn) (plainElem_bool Try.underlying4 true)
  refine ⟨w', hrun, ⟨_, ho', fun nm' hn' => ?_⟩, hg⟩
  by_cases e : nm' = nm
  · subst e
    rw [Maps.atKey_put_same ho.isMap (by exact trivial)]
    simp [seenB]
  · rw [Maps.atKey_put_other (by intro h; apply e; simp at h; exact ByteArray.ext h), hD nm' hn']
    simp [seenB, show nm ≠ nm' from fun h => e h.symm]

theorem SetB.tch {w w' : World} {S : Nat → Prop} {b n : Nat} {seen : List ByteArray} (h : SetB w b n seen) (k : Tch S w w') (hb : ¬ S b) : SetB w' b n seen := by
  obtain ⟨D, ⟨es, clock, hh, r⟩, hD⟩ := h
  exact ⟨D, ⟨es, clock, (k.block b (Array.getElem?_eq_some_iff.1 hh).1 hb).trans hh, r⟩, hD⟩
theorem SetB.lt {w : World} {b n : Nat} {seen : List ByteArray} (h : SetB w b n seen) : b < w.heap.size := by
  obtain ⟨D, ho, _⟩ := h
  exact ho.lt

/-- 'seen[nm] = true' at the operation. -/
theorem wpList_seen {ops : Array Oper} {rest : List Oper} {o : Oper} {a : Act} {Q : Exit → Act → World → Prop} (w : World) (hg : o.guard = none) (m x v : Operand) (hop : o.op = Op.mapUpdate 115 m x v)
    (b n : Nat) (seen : List ByteArray) (nm : ByteArray) (hm : a.eval m = .map (some b)) (hx : a.eval x = .string nm) (hv : a.eval v = .bool true) (hs : SetB w b n seen) (hn : nm.size ≤ maxLen) (hc : n < maxLen)
    (hK : ∀ w', SetB w' b (n + 1) (nm :: seen) → w.grownBy w' (some b) → wpList Try.prog ops Q rest (a.put o.dst undef) w') : wpList Try.prog ops Q (o :: rest) a w := by
  refine wpList_plain hg fun K' hK' => ?_
  obtain ⟨w', hrun, r1, r2⟩ := hs.put nm hn hc
  unfold Oper.wp
  simp [execOp, hop, hm, hx, hv, hrun, Result.andThen]
  exact hK' _ _ (hK w' r1 r2)

/-! ### slices.IndexFunc over items -/
/-- What it answers: the first place of which p holds, or -1. -/
def Found (n : Nat) (p : Nat → Bool) (I R : Nat → World → Prop) (e : Ending) (w' : World) : Prop :=
  (∃ i, i < n ∧ p i = true ∧ (∀ j, j < i → p j = false) ∧ e = .returned (.int .i64 i) ∧ R i w') ∨ ((∀ j, j < n → p j = false) ∧ e = .returned (.int .i64 (-1)) ∧ I n w')
set_option maxHeartbeats 1000000 in
theorem indexFunc (g : Nat) (lb : Array Value) (A : Option Addr) (c : Nat) (l : L) (hl : l.len ≤ 140737488351232) (S : Nat → Prop) (p : Nat → Bool) (I R : Nat → World → Prop) (w : World)
   (he : ∀ (args : Array Value) (W : World), (callFunc g args).run Try.prog W = .ok (.enter g args) W)
   (h0 : I 0 w) (hI : ∀ i W, I i W → Sl W S A l)
   (hstep : ∀ i W A' c', i < l.len → I i W → Sl W S A' (l.get i).it → Calls Try.prog g (#[.agg #[.string (l.get i).nm, .int .i64 (l.get i).k, .int .i64 (l.get i).n, .string (l.get i).s, .slice A' (l.get i).it.len c']] ++ lb) W fun e W' => e = .returned (.bool (p i)) ∧ (p i = false → I (i+1) W') ∧ (p i = true → R i W')) :
    Calls Try.prog 48 #[.slice A l.len c, .func (.func g) #[] lb] w (Found l.len p I R) := by
  have H0 := Kp.mk h0; clear h0
  have HI := Kp.mk hI; clear hI
  have HS := Kp.mk hstep; clear hstep
  go_enter Try.func48, Try.ntmps48
  go_wp2
  go_loopw [5, 8] (fun _ i wr => ∃ k : Nat, k ≤ l.len ∧ i = .int .i64 k ∧ I k wr ∧ Kp (∀ j, j < k → p j = false)) (fun _ i _ => l.len - (intOf i).toNat)
  case atStart => exact ⟨0, by omega, rfl, H0.out, ⟨fun j hj => by omega⟩⟩
  case round =>
    obtain ⟨k, hk, rfl, hi, hp⟩ := hrel
    have Hi := Kp.mk hi
    clear hi
    by_cases hlt : k < l.len
    · obtain ⟨b, o, rfl, hS, hat⟩ := (HI.out _ _ Hi.out).at (by omega)
      obtain ⟨A', c', q0, q1, q2, q3, q4, hs⟩ := hat k hlt
      clear hat hS
      have Hs := Kp.mk hs
      clear hs
      have hst0 := HS.out k wr A' c' hlt Hi.out Hs.out
      have hst := Kp.mk hst0
      clear HS hst0
      cases hpk : p k with
      | true =>
        go_wp2_with (refine (hst.out).mono ?_; rintro e w' ⟨rfl, _, hR⟩; have HR := Kp.mk (hR hpk); clear hR; rw [hpk])
        go_ret
        exact .inl ⟨k, hlt, hpk, hp.out, rfl, HR.out⟩
      | false =>
        go_wp2_with (refine (hst.out).mono ?_; rintro e w' ⟨rfl, hR, _⟩; have HR := Kp.mk (hR hpk); clear hR; rw [hpk])
        go_roundw
        case rel => exact ⟨k + 1, by omega, by go_num, HR.out, ⟨below_succ hp.out hpk⟩⟩
        case measure => simp [intOf]; omega
    · have : k = l.len := by omega
      subst this
      go_wp2
      go_ret
      exact .inr ⟨hp.out, rfl, Hi.out⟩

/-- What slices.ContainsFunc answers. -/
def Any (n : Nat) (p : Nat → Bool) (I R : Nat → World → Prop) (e : Ending) (w' : World) : Prop :=
  (∃ i, i < n ∧ p i = true ∧ (∀ j, j < i → p j = false) ∧ e = .returned (.bool true) ∧ R i w') ∨ ((∀ j, j < n → p j = false) ∧ e = .returned (.bool false) ∧ I n w')
set_option maxHeartbeats 1000000 in
theorem containsFunc (g : Nat) (lb : Array Value) (A : Option Addr) (c : Nat) (l : L) (hl : l.len ≤ 140737488351232) (S : Nat → Prop) (p : Nat → Bool) (I R : Nat → World → Prop) (w : World)
   (he : ∀ (args : Array Value) (W : World), (callFunc g args).run Try.prog W = .ok (.enter g args) W)
   (h0 : I 0 w) (hI : ∀ i W, I i W → Sl W S A l)
   (hstep : ∀ i W A' c', i < l.len → I i W → Sl W S A' (l.get i).it → Calls Try.prog g (#[.agg #[.string (l.get i).nm, .int .i64 (l.get i).k, .int .i64 (l.get i).n, .string (l.get i).s, .slice A' (l.get i).it.len c']] ++ lb) W fun e W' => e = .returned (.bool (p i)) ∧ (p i = false → I (i+1) W') ∧ (p i = true → R i W')) :
    Calls Try.prog 79 #[.slice A l.len c, .func (.func g) #[] lb] w (Any l.len p I R) := by
  have C := Kp.mk (indexFunc g lb A c l hl S p I R w he h0 hI hstep)
  clear h0 hI hstep
  go_enter Try.func79, Try.ntmps79
  go_wp2_with (refine C.out.mono ?_; rintro e w' (⟨i, hi, hpi, hj, rfl, hR⟩ | ⟨hj, rfl, hR⟩))
  · go_wp2
    go_ret
    exact .inl ⟨i, hi, hpi, hj, by simp, hR⟩
  · go_wp2
    go_ret
    exact .inr ⟨hj, by simp, hR⟩

end Go.Proofs.Ytaeainkfllfdfaa
/- B1: The contracts of value.may, value.mayTable, value.MayTable, value.May: they answer what the plain functions answer, and turn nothing. -/
namespace Go.Proofs.Ytaeainkfllfdfaa
open Go.RowKit
set_option linter.unusedVariables false
set_option linter.unusedSimpArgs false
set_option maxRecDepth 100000

def MayTabC (l : L) : Prop := ∀ (d : Nat) (D : Int) (A : Option Addr) (c : Nat) (S : Nat → Prop) (w : World), D = d → d ≤ 5 → l.len ≤ 140737488351232 → l.Ok → Sl w S A l →
  Calls Try.prog 47 #[.slice A l.len c, .int .i64 D] w fun e w' => e = .returned (.bool (l.mayTab d)) ∧ Still w w'
theorem MayTabC.use {l : L} (h : MayTabC l) (d : Nat) (D : Int) (A : Option Addr) (c : Nat) (S : Nat → Prop) (w : World) (hD : D = d) (hd : d ≤ 5) (hl : l.len ≤ 140737488351232) (hO : l.Ok) (hS : Sl w S A l) :
  Calls Try.prog 47 #[.slice A l.len c, .int .i64 D] w fun e w' => e = .returned (.bool (l.mayTab d)) ∧ Still w w' := h d D A c S w hD hd hl hO hS

theorem ret_bool {a b : Bool} (h : a = b) : Ending.returned (.bool a) = .returned (.bool b) := by rw [h]
theorem size_zero (s : ByteArray) : s.toList = [] ↔ s.size = 0 := by
  rw [toList_nil_iff_emptyBytes]
  constructor
  · rintro rfl; rfl
  · intro h; exact ByteArray.ext (Array.eq_empty_of_size_eq_zero h)

set_option maxHeartbeats 2000000 in
theorem mayC (it : L) (hC : MayTabC it) (k n : Int) (s : ByteArray) (d : Nat) (D : Int) (A : Option Addr) (c : Nat) (S : Nat → Prop) (w : World) (hD : D = d) (hd : d ≤ 4) (hs : s.size ≤ 140737488351232) (hl : it.len ≤ 140737488351232) (hO : it.Ok) (hS : Sl w S A it) :
    Calls Try.prog 58 #[.agg #[.int .i64 k, .int .i64 n, .string s, .slice A it.len c], .int .i64 D] w fun e w' => e = .returned (.bool (kindOk k n s.size it.len (it.mayTab (d + 1)))) ∧ Still w w' := by
  subst hD
  have HC := Kp.mk hC; clear hC
  have HO := Kp.mk hO; clear hO
  have HS := Kp.mk hS; clear hS
  go_enter Try.func58, Try.ntmps58
  go_wp2_with ((with_reducible refine (MayTabC.use HC.out (d + 1) _ A c S _ (by omega) (by omega) hl HO.out (HS.out.still ((Still.refl _).alloc _))).mono ?_); rintro e w' ⟨rfl, hw⟩)
  all_goals go_ret
  all_goals refine ⟨ret_bool ?_, ?_⟩
  all_goals first | exact (Still.refl _).alloc _ | exact ((Still.refl _).alloc _).still ‹_› | skip
  all_goals (try simp only [size_zero] at *)
  all_goals clear HC HO HS
  all_goals go_light
  all_goals (try simp only [beq_iff_eq, bne_iff_ne, beq_eq_false_iff_ne, bne_eq_false_iff_eq, ne_eq] at *)
  all_goals (unfold kindOk; (repeat' split) <;> first | rfl | omega | (simp_all; done) | (rw [Bool.eq_iff_iff]; simp; done) | (rw [Bool.eq_iff_iff]; simp; omega))

set_option maxHeartbeats 2000000 in
theorem mayClo (x : It) (hC : MayTabC x.it) (d : Nat) (bs bd bm m : Nat) (seen : List ByteArray) (A : Option Addr) (c : Nat) (S : Nat → Prop) (w : World) (hd : d ≤ 4) (hO : x.Ok) (hS : Sl w S A x.it)
    (hcs : w.cell? ⟨bs, 0, none⟩ = some (.map (some bm))) (hcd : w.cell? ⟨bd, 0, none⟩ = some (.int .i64 d)) (hne1 : bs ≠ bm) (hne2 : bd ≠ bm) (hm : SetB w bm m seen) (hm1 : m < 1000) :
    Calls Try.prog 80 #[.agg #[.string x.nm, .int .i64 x.k, .int .i64 x.n, .string x.s, .slice A x.it.len c], .pointer (some ⟨bs, 0, none⟩), .pointer (some ⟨bd, 0, none⟩)] w fun e w' =>
      e = .returned (.bool (!x.ok d seen)) ∧ Tch (· = bm) w w' ∧ SetB w' bm (m + 1) (x.nm :: seen) := by
  obtain ⟨⟨q1, q2, q3, q4, q5, q6, q7⟩, q8⟩ := hO
  have hnm : x.nm.size ≤ maxLen := by unfold maxLen; omega
  have HC := Kp.mk hC; clear hC
  have HO := Kp.mk q8; clear q8
  have HS := Kp.mk hS; clear hS
  have HM := Kp.mk hm; clear hm
  have hl : ∀ o, (Instr.lookup 115 (.map (some bm)) (.string x.nm) false).run Try.prog (w.alloc o) = .ok (.bool (seenB seen x.nm)) (w.alloc o) := fun o => (HM.out.tch (((Still.refl w).alloc o)) (fun f => f)).look x.nm hnm
  have hcs' : ∀ o, (w.alloc o).cell? ⟨bs, 0, none⟩ = some (.map (some bm)) := fun o => ((Still.refl w).alloc o).scell hcs
  have hcd' : ∀ o, (w.alloc o).cell? ⟨bd, 0, none⟩ = some (.int .i64 d) := fun o => ((Still.refl w).alloc o).scell hcd
  have hbs : bs < w.heap.size := World.block_lt_of_cell? w ⟨bs, 0, none⟩ hcs
  have hfin : ∀ (r : Bool) (w1 w2 : World), Still w w1 → SetB w2 bm (m + 1) (x.nm :: seen) → w1.grownBy w2 (some bm) → (!x.ok d seen) = r →
      Ending.returned (.bool r) = .returned (.bool (!x.ok d seen)) ∧ Tch (· = bm) w w2 ∧ SetB w2 bm (m + 1) (x.nm :: seen) := fun r w1 w2 h1 h2 h3 h4 =>
    ⟨by rw [h4], (Tch.of_still h1).grown h3 (fun k e _ => by cases e; rfl), h2⟩
  have HF := Kp.mk hfin; clear hfin
  by_cases g1 : x.nm.size < 1
  · have e0 : decide (1 ≤ x.nm.size) = false := decide_eq_false (by omega)
    have e1 : (!x.ok d seen) = true := by simp [It.ok, e0]
    have E1 := Kp.mk e1; clear e1 e0
    go_enter Try.func80, Try.ntmps80
    go_wp2_with (at_mapUpdate; (with_reducible refine wpList_seen _ rfl _ _ _ rfl bm m seen x.nm rfl rfl rfl (HM.out.tch ((Still.refl w).alloc _) (fun f => f)) hnm ?_ ?_); (unfold maxLen; omega); intro w2 hs2 hg2; have HS2 := Kp.mk hs2; clear hs2)
    go_ret
    exact HF.out _ _ _ ((Still.refl w).alloc _) HS2.out hg2 E1.out
  by_cases g2 : 40 < x.nm.size
  · have e0 : decide (x.nm.size ≤ 40) = false := decide_eq_false (by omega)
    have e1 : (!x.ok d seen) = true := by simp [It.ok, e0]
    have E1 := Kp.mk e1; clear e1 e0
    go_enter Try.func80, Try.ntmps80
    go_wp2_with (at_mapUpdate; (with_reducible refine wpList_seen _ rfl _ _ _ rfl bm m seen x.nm rfl rfl rfl (HM.out.tch ((Still.refl w).alloc _) (fun f => f)) hnm ?_ ?_); (unfold maxLen; omega); intro w2 hs2 hg2; have HS2 := Kp.mk hs2; clear hs2)
    go_ret
    exact HF.out _ _ _ ((Still.refl w).alloc _) HS2.out hg2 E1.out
  have e0 : decide (1 ≤ x.nm.size) = true := decide_eq_true (by omega)
  have e0' : decide (x.nm.size ≤ 40) = true := decide_eq_true (by omega)
  cases g3 : seenB seen x.nm with
  | true =>
    have e1 : (!x.ok d seen) = true := by simp [It.ok, g3]
    have E1 := Kp.mk e1; clear e1 e0 e0'
    rw [g3] at hl
    go_enter Try.func80, Try.ntmps80
    go_wp2_with (at_mapUpdate; (with_reducible refine wpList_seen _ rfl _ _ _ rfl bm m seen x.nm rfl rfl rfl (HM.out.tch ((Still.refl w).alloc _) (fun f => f)) hnm ?_ ?_); (unfold maxLen; omega); intro w2 hs2 hg2; have HS2 := Kp.mk hs2; clear hs2)
    go_ret
    exact HF.out _ _ _ ((Still.refl w).alloc _) HS2.out hg2 E1.out
  | false =>
    have e1 : (!x.ok d seen) = !x.may d := by simp [It.ok, g3, e0, e0']
    have f1 : decide ((x.nm.size : Int) < 1) = false := decide_eq_false (by omega)
    have f2 : decide (40 < (x.nm.size : Int)) = false := decide_eq_false (by omega)
    have e2 : (!x.ok d seen) = (decide ((x.nm.size : Int) < 1) || decide (40 < (x.nm.size : Int)) || !kindOk x.k x.n x.s.size x.it.len (L.mayTab (d + 1) x.it)) := by rw [e1, f1, f2]; rfl
    have E1 := Kp.mk e2; clear e2 e1 e0 e0' f1 f2
    rw [g3] at hl
    go_enter Try.func80, Try.ntmps80
    go_wp2_with fail
    refine (mayC x.it HC.out x.k x.n x.s d _ A c S _ rfl hd (by omega) (by omega) HO.out (HS.out.still ((Still.refl _).alloc _))).mono ?_
    rintro e w1 ⟨rfl, hw1⟩
    have hc1 := hw1.scell (hcs' _)
    have hc2 := hw1.scell (a := ⟨w.heap.size, 0, none⟩) (v := .string x.nm) (by simp)
    have HM1 := Kp.mk ((HM.out.tch ((Still.refl w).alloc _) (fun f => f)).tch hw1 (fun f => f))
    have HW1 := Kp.mk (((Still.refl w).alloc _).still hw1)
    clear hw1 hl hcs' hcd'
    go_wp2_with (at_mapUpdate; (with_reducible refine wpList_seen _ rfl _ _ _ rfl bm m seen x.nm rfl rfl rfl HM1.out hnm ?_ ?_); (unfold maxLen; omega); intro w2 hs2 hg2; have HS2 := Kp.mk hs2; clear hs2)
    go_ret
    exact HF.out _ _ _ HW1.out HS2.out hg2 E1.out

/-- The world at the head of a round of mayTable's look through its items. -/
structure MayIn (w0 : World) (l : L) (d n0 : Nat) (i : Nat) (W : World) : Prop where
  still : Still w0 W
  deep : W.cell? ⟨n0, 0, none⟩ = some (.int .i64 d)
  var : W.cell? ⟨n0 + 2, 0, none⟩ = some (.map (some (n0 + 1)))
  set : SetB W (n0 + 1) i (l.names i)

theorem mayTab_any (l : L) (d : Nat) (hd : d ≤ 4) (hl : l.len ≤ 32) : (∀ j, j < l.len → (!(l.get j).ok d (l.names j)) = false) ↔ l.mayTab d = true := by
  unfold L.mayTab
  rw [decide_eq_true hd, decide_eq_true hl]
  simp only [Bool.true_and]
  rw [L.mayIts_all]
  simp

theorem enters80 (args : Array Value) (W : World) : (callFunc 80 args).run Try.prog W = .ok (.enter 80 args) W := enters_of Try.func80 (by kernel_rfl) rfl args W

theorem mayContains (l : L) (ih : ∀ i, i < l.len → MayTabC (l.get i).it) (d : Nat) (hd : d ≤ 4) (hl : l.len ≤ 32) (hO : l.Ok) (A : Option Addr) (c : Nat) (S : Nat → Prop) (w0 W : World) (n0 : Nat) (hn : w0.heap.size ≤ n0)
    (H : MayIn w0 l d n0 0 W) (hS : Sl w0 S A l) :
    Calls Try.prog 79 #[.slice A l.len c, .func (.func 80) #[] #[.pointer (some ⟨n0 + 2, 0, none⟩), .pointer (some ⟨n0, 0, none⟩)]] W fun e w' => e = .returned (.bool (!l.mayTab d)) ∧ Still w0 w' := by
  have key := mayTab_any l d hd hl
  refine (containsFunc 80 _ A c l (by omega) S (fun i => !(l.get i).ok d (l.names i)) (MayIn w0 l d n0) (fun _ W => Still w0 W) W enters80 H (fun i W h => hS.still h.still) ?_).mono ?_
  · intro i W A' c' hi h hs
    refine (mayClo (l.get i) (ih i hi) d (n0 + 2) n0 (n0 + 1) i (l.names i) A' c' S W hd (hO.get i hi) hs h.var h.deep (by omega) (by omega) h.set (by omega)).mono ?_
    rintro e w' ⟨rfl, ht, hset⟩
    have hst : Still w0 w' := h.still.trans ht (fun b hb e => by omega)
    exact ⟨rfl, fun _ => ⟨hst, ht.cell h.deep (by simp), ht.cell h.var (by simp), hset⟩, fun _ => hst⟩
  · rintro e w' (⟨i, hi, hp, _, rfl, hR⟩ | ⟨hj, rfl, hI⟩)
    · refine ⟨ret_bool ?_, hR⟩
      cases hm : l.mayTab d with
      | false => rfl
      | true => exact absurd (show (!(l.get i).ok d (l.names i)) = true from hp) (by rw [key.2 hm i hi]; simp)
    · refine ⟨ret_bool ?_, hI.still⟩
      rw [key.1 hj]; rfl

set_option maxHeartbeats 2000000 in
theorem mayTabC : ∀ l, MayTabC l := L.ind fun l ih => by
  intro d D A c S w hD hd hl hO hS
  subst hD
  have HI := Kp.mk ih; clear ih
  have HO := Kp.mk hO; clear hO
  have HS := Kp.mk hS; clear hS
  have hmm := @run_makeMap Try.prog
  by_cases g1 : 4 < d
  · have e1 : l.mayTab d = false := by unfold L.mayTab; rw [decide_eq_false (by omega)]; rfl
    have E1 := Kp.mk e1; clear e1
    go_enter Try.func47, Try.ntmps47
    go_wp2_with fail
    go_ret
    exact ⟨ret_bool E1.out.symm, (Still.refl _).alloc _⟩
  by_cases g2 : 32 < l.len
  · have e1 : l.mayTab d = false := by unfold L.mayTab; rw [decide_eq_false (p := l.len ≤ 32) (by omega)]; simp
    have E1 := Kp.mk e1; clear e1
    go_enter Try.func47, Try.ntmps47
    go_wp2_with fail
    go_ret
    exact ⟨ret_bool E1.out.symm, (Still.refl _).alloc _⟩
  go_enter Try.func47, Try.ntmps47
  go_wp2_with fail
  refine (mayContains l HI.out d (by omega) (by omega) HO.out A c S w _ w.heap.size (Nat.le_refl _) ⟨(((Still.refl w).alloc _).alloc _).alloc _, ?_, ?_, ?_⟩ HS.out).mono ?_
  · go_simp
  · go_simp
  · have h := (SetB.made (w.alloc (Obj.cells #[Value.int IntKind.i64 ↑d] 3))).tch ((Still.refl _).alloc (Obj.cells #[Value.map (some (w.heap.size + 1))] 115)) (fun f => f)
    simpa [L.names] using h
  · rintro e w1 ⟨rfl, hw1⟩
    go_wp2_with fail
    go_ret
    exact ⟨ret_bool (by simp), hw1⟩

/-- value.MayTable. -/
theorem mayTable_ok (l : L) (A : Option Addr) (c : Nat) (S : Nat → Prop) (w : World) (hl : l.len ≤ 140737488351232) (hO : l.Ok) (hS : Sl w S A l) :
    Calls Try.prog 21 #[.slice A l.len c] w fun e w' => e = .returned (.bool (l.mayTab 1)) ∧ Still w w' := by
  have C := Kp.mk (mayTabC l 1 1 A c S w rfl (by omega) hl hO hS)
  clear hO hS
  go_enter Try.func21, Try.ntmps21
  go_wp2_with (refine C.out.mono ?_; rintro e w1 ⟨rfl, hw1⟩)
  go_ret
  exact ⟨rfl, hw1⟩
/-- value.May. -/
theorem may_ok (it : L) (k n : Int) (s : ByteArray) (A : Option Addr) (c : Nat) (S : Nat → Prop) (w : World) (hs : s.size ≤ 140737488351232) (hl : it.len ≤ 140737488351232) (hO : it.Ok) (hS : Sl w S A it) :
    Calls Try.prog 31 #[.agg #[.int .i64 k, .int .i64 n, .string s, .slice A it.len c]] w fun e w' => e = .returned (.bool (kindOk k n s.size it.len (it.mayTab 1))) ∧ Still w w' := by
  have C := Kp.mk (fun W h => mayC it (mayTabC it) k n s 0 0 A c S W rfl (by omega) hs hl hO h)
  have HS := Kp.mk hS
  clear hO hS
  go_enter Try.func31, Try.ntmps31
  go_wp2_with (refine (C.out _ (HS.out.still ((Still.refl _).alloc _))).mono ?_; rintro e w1 ⟨rfl, hw1⟩)
  go_ret
  exact ⟨rfl, ((Still.refl _).alloc _).still hw1⟩
end Go.Proofs.Ytaeainkfllfdfaa
/- B2: The contract of value.Same: it answers whether two tables are one, and turns nothing. -/
namespace Go.Proofs.Ytaeainkfllfdfaa
open Go.RowKit
set_option linter.unusedVariables false
set_option linter.unusedSimpArgs false
set_option maxRecDepth 100000

def SameC (a : L) : Prop := ∀ (b : L) (A B : Option Addr) (ca cb : Nat) (S : Nat → Prop) (w : World), a.len ≤ 140737488351232 → b.len ≤ 140737488351232 → a.Ok → b.Ok → Sl w S A a → Sl w S B b →
  Calls Try.prog 20 #[.slice A a.len ca, .slice B b.len cb] w fun e w' => e = .returned (.bool (decide (a = b))) ∧ Still w w'

theorem str_eq (s t : ByteArray) : s.toList = t.toList ↔ s = t := by
  rw [ByteArray.toList_eq, ByteArray.toList_eq]
  exact ⟨fun h => ByteArray.ext (Array.ext' h), fun h => by rw [h]⟩
theorem L.eq_iff (a b : L) : a = b ↔ a.len = b.len ∧ ∀ i, i < a.len → a.get i = b.get i :=
  ⟨fun h => by subst h; exact ⟨rfl, fun _ _ => rfl⟩, fun ⟨h, k⟩ => L.ext_get a b h k⟩

set_option maxHeartbeats 2000000 in
theorem same_val (x y : It) (hC : SameC x.it) (A B : Option Addr) (ca cb : Nat) (S : Nat → Prop) (w : World) (hx : x.Ok) (hy : y.Ok) (hA : Sl w S A x.it) (hB : Sl w S B y.it) :
    Calls Try.prog 46 #[.agg #[.int .i64 x.k, .int .i64 x.n, .string x.s, .slice A x.it.len ca], .agg #[.int .i64 y.k, .int .i64 y.n, .string y.s, .slice B y.it.len cb]] w fun e w' =>
      e = .returned (.bool (decide (x.k = y.k ∧ x.n = y.n ∧ x.s = y.s ∧ x.it = y.it))) ∧ Still w w' := by
  have C := Kp.mk (fun W hs => hC y.it A B ca cb S W hx.1.2.2.1 hy.1.2.2.1 hx.2 hy.2 (hA.still hs) (hB.still hs))
  clear hC hA hB hx hy
  go_enter Try.func46, Try.ntmps46
  go_wp2_with (refine (C.out _ (((Still.refl _).alloc _).alloc _)).mono ?_; rintro e w1 ⟨rfl, hw1⟩)
  all_goals go_ret
  all_goals go_light
  all_goals refine ⟨ret_bool ?_, ?_⟩
  all_goals first | exact ((Still.refl _).alloc _).alloc _ | exact (((Still.refl _).alloc _).alloc _).still ‹_› | skip
  all_goals (try simp only [str_eq] at *)
  all_goals (rw [Bool.eq_iff_iff]; simp [*])

set_option maxHeartbeats 2000000 in
theorem same_clo (x y : It) (hC : SameC x.it) (A B : Option Addr) (ca cb : Nat) (S : Nat → Prop) (w : World) (hx : x.Ok) (hy : y.Ok) (hA : Sl w S A x.it) (hB : Sl w S B y.it) :
    Calls Try.prog 45 #[.agg #[.string x.nm, .int .i64 x.k, .int .i64 x.n, .string x.s, .slice A x.it.len ca], .agg #[.string y.nm, .int .i64 y.k, .int .i64 y.n, .string y.s, .slice B y.it.len cb]] w fun e w' =>
      e = .returned (.bool (decide (x = y))) ∧ Still w w' := by
  have C := Kp.mk (fun W hs => same_val x y hC A B ca cb S W hx hy (hA.still hs) (hB.still hs))
  have E := Kp.mk (show x = y ↔ x.nm = y.nm ∧ (x.k = y.k ∧ x.n = y.n ∧ x.s = y.s ∧ x.it = y.it) by cases x; cases y; simp)
  clear hC hA hB hx hy
  go_enter Try.func45, Try.ntmps45
  go_wp2_with (refine (C.out _ (((Still.refl _).alloc _).alloc _)).mono ?_; rintro e w1 ⟨rfl, hw1⟩)
  all_goals go_ret
  all_goals go_light
  all_goals refine ⟨ret_bool ?_, ?_⟩
  all_goals first | exact ((Still.refl _).alloc _).alloc _ | exact (((Still.refl _).alloc _).alloc _).still ‹_› | skip
  all_goals (try simp only [str_eq] at *)
  all_goals (rw [Bool.eq_iff_iff]; simp [E.out, *])

theorem enters45 (args : Array Value) (W : World) : (callFunc 45 args).run Try.prog W = .ok (.enter 45 args) W := enters_of Try.func45 (by kernel_rfl) rfl args W

set_option maxHeartbeats 2000000 in
theorem equalFunc (a b : L) (ih : ∀ i, i < a.len → SameC (a.get i).it) (A B : Option Addr) (ca cb : Nat) (S : Nat → Prop) (w : World) (ha : a.len ≤ 140737488351232) (hb : b.len ≤ 140737488351232) (hx : a.Ok) (hy : b.Ok) (hA : Sl w S A a) (hB : Sl w S B b) :
    Calls Try.prog 44 #[.slice A a.len ca, .slice B b.len cb, .func (.func 45) #[] #[]] w fun e w' => e = .returned (.bool (decide (a = b))) ∧ Still w w' := by
  by_cases hl : a.len = b.len
  · have C := Kp.mk (fun i (hi : i < a.len) A' B' ca' cb' W => same_clo (a.get i) (b.get i) (ih i hi) A' B' ca' cb' S W (hx.get i hi) (hy.get i (by omega)))
    have HA := Kp.mk hA
    have HB := Kp.mk hB
    have HE := Kp.mk (L.eq_iff a b)
    have HL := Kp.mk hl
    have g1 : ((a.len : Int) != (b.len : Int)) = false := by simp [hl]
    clear ih hA hB hx hy hl
    go_enter Try.func44, Try.ntmps44
    go_wp2_with fail
    go_loopw [17] (fun i wr => ∃ k : Nat, k ≤ a.len ∧ i = .int .i64 k ∧ Still w wr ∧ Kp (∀ j, j < k → a.get j = b.get j)) (fun i _ => a.len - (intOf i).toNat)
    case atStart => exact ⟨0, by omega, rfl, Still.refl w, ⟨fun j hj => by omega⟩⟩
    case round =>
      obtain ⟨k, hk, rfl, hi, hp⟩ := hrel
      have Hi := Kp.mk hi
      clear hi
      by_cases hlt : k < a.len
      · obtain ⟨ba, oa, rfl, hSa, hata⟩ := (HA.out.still Hi.out).at (by omega)
        obtain ⟨A', ca', p0, p1, p2, p3, p4, hsa⟩ := hata k hlt
        obtain ⟨bb, ob, rfl, hSb, hatb⟩ := (HB.out.still Hi.out).at (by have := HL.out; omega)
        have hlt2 : k < b.len := by have := HL.out; omega
        obtain ⟨B', cb', q0, q1, q2, q3, q4, hsb⟩ := hatb k hlt2
        clear hata hatb hSa hSb
        have Hsa := Kp.mk hsa
        have Hsb := Kp.mk hsb
        clear hsa hsb
        have qq0 := fun o => ((Still.refl wr).alloc o).scell q0
        have qq1 := fun o => ((Still.refl wr).alloc o).scell q1
        have qq2 := fun o => ((Still.refl wr).alloc o).scell q2
        have qq3 := fun o => ((Still.refl wr).alloc o).scell q3
        have qq4 := fun o => ((Still.refl wr).alloc o).scell q4
        clear q0 q1 q2 q3 q4
        go_wp2_with fail
        refine (C.out k hlt A' B' ca' cb' _ (Hsa.out.still (((Still.refl _).alloc _).alloc _)) (Hsb.out.still (((Still.refl _).alloc _).alloc _))).mono ?_
        rintro e w1 ⟨rfl, hw1⟩
        have Hst1 := Kp.mk (((Hi.out.alloc _).alloc _).still hw1)
        clear hw1
        by_cases he : a.get k = b.get k
        · rw [decide_eq_true he]
          have HEQ := Kp.mk he; clear he
          go_wp2_with fail
          go_roundw
          case rel => exact ⟨k + 1, by omega, by go_num, Hst1.out, ⟨below_succ hp.out HEQ.out⟩⟩
          case measure => go_light; simp only [intOf]; omega
        · rw [decide_eq_false he]
          have hne : decide (a = b) = false := decide_eq_false (fun h => he ((HE.out.1 h).2 k hlt))
          have HNE := Kp.mk hne; clear he hne
          go_wp2_with fail
          go_ret
          exact ⟨ret_bool HNE.out.symm, Hst1.out⟩
      · have hkl : k = a.len := by omega
        subst hkl
        have hT : decide (a = b) = true := decide_eq_true (HE.out.2 ⟨HL.out, hp.out⟩)
        have HT := Kp.mk hT; clear hT
        go_wp2_with fail
        go_ret
        exact ⟨ret_bool HT.out.symm, Hi.out⟩
  · have g1 : ((a.len : Int) != (b.len : Int)) = true := by simp; omega
    have hne : decide (a = b) = false := decide_eq_false (fun h => hl (by rw [h]))
    have HNE := Kp.mk hne; clear hne ih hA hB hx hy hl
    go_enter Try.func44, Try.ntmps44
    go_wp2_with fail
    go_ret
    exact ⟨ret_bool HNE.out.symm, Still.refl w⟩

theorem sameC : ∀ a, SameC a := L.ind fun a ih => by
  intro b A B ca cb S w ha hb hx hy hA hB
  have C := Kp.mk (equalFunc a b ih A B ca cb S w ha hb hx hy hA hB)
  clear ih hx hy hA hB
  go_enter Try.func20, Try.ntmps20
  go_wp2_with (refine C.out.mono ?_; rintro e w1 ⟨rfl, hw1⟩)
  go_ret
  exact ⟨rfl, hw1⟩
/-- value.Same. -/
theorem same_ok (a b : L) (A B : Option Addr) (ca cb : Nat) (S : Nat → Prop) (w : World) (ha : a.len ≤ 140737488351232) (hb : b.len ≤ 140737488351232) (hx : a.Ok) (hy : b.Ok) (hA : Sl w S A a) (hB : Sl w S B b) :
    Calls Try.prog 20 #[.slice A a.len ca, .slice B b.len cb] w fun e w' => e = .returned (.bool (decide (a = b))) ∧ Still w w' := sameC a b A B ca cb S w ha hb hx hy hA hB
end Go.Proofs.Ytaeainkfllfdfaa
/- B3: The contract of value.Find: the value of the first item of that name. -/
namespace Go.Proofs.Ytaeainkfllfdfaa
open Go.RowKit
set_option linter.unusedVariables false
set_option linter.unusedSimpArgs false
set_option maxRecDepth 100000

def It.zero : It := ⟨.empty, 0, 0, .empty, .nil⟩
/-- The first item of that name, or nothing. -/
def L.find : L → ByteArray → It
  | .nil, _ => It.zero
  | .cons nm k n s it rest, x => if nm = x then ⟨nm, k, n, s, it⟩ else rest.find x
theorem L.find_at (x : ByteArray) : ∀ (l : L) (i : Nat), i < l.len → (l.get i).nm = x → (∀ j, j < i → (l.get j).nm ≠ x) → l.find x = l.get i
  | .nil, i, hi, _, _ => by simp [L.len] at hi
  | .cons nm k n s it rest, 0, _, h, _ => by simp only [L.get] at h; simp [L.find, L.get, h]
  | .cons nm k n s it rest, i + 1, hi, h, hj => by
    have h0 := hj 0 (by omega)
    simp only [L.get] at h0
    simp only [L.find, if_neg h0, L.get]
    exact L.find_at x rest i (by simp [L.len] at hi; omega) h (fun j hji => hj (j + 1) (by omega))
theorem L.find_none (x : ByteArray) : ∀ (l : L), (∀ j, j < l.len → (l.get j).nm ≠ x) → l.find x = It.zero
  | .nil, _ => rfl
  | .cons nm k n s it rest, hj => by
    have h0 := hj 0 (by simp [L.len])
    simp only [L.get] at h0
    simp only [L.find, if_neg h0]
    exact L.find_none x rest (fun j hji => hj (j + 1) (by simp [L.len]; omega))

theorem enters49 (args : Array Value) (W : World) : (callFunc 49 args).run Try.prog W = .ok (.enter 49 args) W := enters_of Try.func49 (by kernel_rfl) rfl args W
set_option maxHeartbeats 1000000 in
theorem find_clo (x : It) (nm : ByteArray) (A : Option Addr) (c b : Nat) (w : World) (hc : w.cell? ⟨b, 0, none⟩ = some (.string nm)) :
    Calls Try.prog 49 #[.agg #[.string x.nm, .int .i64 x.k, .int .i64 x.n, .string x.s, .slice A x.it.len c], .pointer (some ⟨b, 0, none⟩)] w fun e w' => e = .returned (.bool (decide (x.nm = nm))) ∧ Still w w' := by
  have hc' := fun o => ((Still.refl w).alloc o).scell hc
  clear hc
  go_enter Try.func49, Try.ntmps49
  go_wp2_with fail
  go_ret
  exact ⟨ret_bool (by rw [Bool.eq_iff_iff]; simp [str_eq]), (Still.refl _).alloc _⟩

/-- A value that the call has left: its parts, its items where they lie. -/
def RetVal (w : World) (S : Nat → Prop) (x : It) (e : Ending) (w' : World) : Prop :=
  ∃ A c, e = .returned (.agg #[.int .i64 x.k, .int .i64 x.n, .string x.s, .slice A x.it.len c]) ∧ Sl w' S A x.it ∧ Still w w'

set_option maxHeartbeats 2000000 in
theorem find_ok (l : L) (nm : ByteArray) (A : Option Addr) (c : Nat) (S : Nat → Prop) (w : World) (hl : l.len ≤ 140737488351232) (hS : Sl w S A l) :
    Calls Try.prog 22 #[.slice A l.len c, .string nm] w (RetVal w S (l.find nm)) := by
  have C := Kp.mk (fun W b (h1 : Still w W) (h2 : W.cell? ⟨b, 0, none⟩ = some (.string nm)) =>
    indexFunc 49 #[.pointer (some ⟨b, 0, none⟩)] A c l hl S (fun i => decide ((l.get i).nm = nm)) (fun _ W' => Still W W') (fun _ W' => Still W W') W enters49 (Still.refl W) (fun _ W' h => (hS.still h1).still h)
      (fun i W' A' c' hi hI hs => (find_clo (l.get i) nm A' c' b W' (hI.scell h2)).mono fun e w' ⟨he, hw⟩ => ⟨he, fun _ => hI.still hw, fun _ => hI.still hw⟩))
  have HS := Kp.mk hS; clear hS
  have HF := Kp.mk (L.find_at nm l)
  have HN := Kp.mk (L.find_none nm l)
  go_enter Try.func22, Try.ntmps22
  go_wp2_with fail
  refine (C.out _ _ (((Still.refl _).alloc _).alloc _) ?_).mono ?_
  · go_simp
  · rintro e w1 (⟨i, hi, hp, hj, rfl, hw1⟩ | ⟨hj, rfl, hw1⟩)
    · have hi2 : (0 : Nat) < l.len := by omega
      have f0 := hw1.scell (a := ⟨w.heap.size + 1, 0, none⟩) (by go_simp; exact rfl)
      have f1 := hw1.scell (a := ⟨w.heap.size + 1, 1, none⟩) (by go_simp; exact rfl)
      have f2 := hw1.scell (a := ⟨w.heap.size + 1, 2, none⟩) (by go_simp; exact rfl)
      have f3 := hw1.scell (a := ⟨w.heap.size + 1, 3, none⟩) (by go_simp; exact rfl)
      have fr : ∀ o, w1.frozen? ⟨w.heap.size + 1, o, none⟩ = false := fun o => (hw1.frozen (a := ⟨w.heap.size + 1, o, none⟩) (by simp) (fun f => f)).trans (by go_simp)
      have hlt := hw1.size
      simp only [World.size_alloc] at hlt
      have hlt2 : w.heap.size ≤ w1.heap.size := by omega
      obtain ⟨ba, oa, rfl, hSa, hat⟩ := (HS.out.old.still (((Still.refl _).alloc _).alloc _ |>.still hw1)).at hi2
      obtain ⟨A', ca', p0, p1, p2, p3, p4, hsa⟩ := hat i hi
      have HX := Kp.mk (HF.out i hi (of_decide_eq_true hp) (fun j hji => of_decide_eq_false (hj j hji)))
      have Hsa := Kp.mk hsa
      have Hst := Kp.mk (((Still.refl w).alloc _).alloc _ |>.still hw1)
      clear hp hj hw1 hat hsa hSa
      go_wp2_with fail
      have hfin : ∀ w2, Tch (· = w.heap.size + 1) w1 w2 → RetVal w S (l.find nm) (.returned (.agg #[.int .i64 (l.get i).k, .int .i64 (l.get i).n, .string (l.get i).s, .slice A' (l.get i).it.len ca'])) w2 := fun w2 h2 => by
        rw [HX.out]
        exact ⟨A', ca', rfl, (Hsa.out.tch h2 (fun b hb e => by omega)).weak (fun _ hb => hb.1), Hst.out.trans h2 (fun b hb e => by omega)⟩
      refine bodyPost_ret (v := .agg #[.int .i64 (l.get i).k, .int .i64 (l.get i).n, .string (l.get i).s, .slice A' (l.get i).it.len ca']) (by simp [results, Try.results22, go_sem, f0, f1, f2, f3]) rfl (hfin _ ?_)
      iterate 4 refine Tch.setCell ?_ _ _ (fun _ => rfl)
      exact Tch.refl _ _
    · have f0 := hw1.scell (a := ⟨w.heap.size + 1, 0, none⟩) (by go_simp; exact rfl)
      have f1 := hw1.scell (a := ⟨w.heap.size + 1, 1, none⟩) (by go_simp; exact rfl)
      have f2 := hw1.scell (a := ⟨w.heap.size + 1, 2, none⟩) (by go_simp; exact rfl)
      have f3 := hw1.scell (a := ⟨w.heap.size + 1, 3, none⟩) (by go_simp; exact rfl)
      have fr : ∀ o, w1.frozen? ⟨w.heap.size + 1, o, none⟩ = false := fun o => (hw1.frozen (a := ⟨w.heap.size + 1, o, none⟩) (by simp) (fun f => f)).trans (by go_simp)
      have HX := Kp.mk (HN.out (fun j hji => of_decide_eq_false (hj j hji)))
      have Hst := Kp.mk (((Still.refl w).alloc _).alloc _ |>.still hw1)
      clear hj hw1
      go_wp2_with fail
      have hfin : ∀ w2, Tch (· = w.heap.size + 1) w1 w2 → RetVal w S (l.find nm) (.returned (.agg #[.int .i64 0, .int .i64 0, .string { data := #[] }, .slice none 0 0])) w2 := fun w2 h2 => by
        rw [HX.out]
        exact ⟨none, 0, rfl, Sl.nil _ _ _, Hst.out.trans h2 (fun b hb e => by omega)⟩
      refine bodyPost_ret (v := .agg #[.int .i64 0, .int .i64 0, .string { data := #[] }, .slice none 0 0]) (by simp [results, Try.results22, go_sem, f0, f1, f2, f3]) rfl (hfin _ ?_)
      iterate 4 refine Tch.setCell ?_ _ _ (fun _ => rfl)
      exact Tch.refl _ _
end Go.Proofs.Ytaeainkfllfdfaa
/- A2: The bytes of a table (3.2), as a plain function. No program in sight. -/
namespace Go.Proofs.Ytaeainkfllfdfaa
open Go.RowKit
set_option linter.unusedVariables false
set_option linter.unusedSimpArgs false

/-- The bytes of a number, the greatest first. -/
def be (n : Nat) : Nat → List UInt8
  | 0 => []
  | k + 1 => UInt8.ofNat (n / 256 ^ k) :: be n k
theorem be_length (n k : Nat) : (be n k).length = k := by induction k <;> simp [be, *]

/-- A kind's letter. -/
def letter (k : Int) : UInt8 := if k = 0 then 86 else if k = 1 then 116 else if k = 2 then 73 else if k = 3 then 108 else if k = 4 then 83 else 70
/-- A number of 64 bits without its sign. -/
def u64w (n : Int) : Nat := (IntKind.u64.wrap n).toNat
theorem u64w_eq (n : Int) : IntKind.u64.wrap n = ((u64w n : Nat) : Int) := by
  unfold u64w
  have : 0 ≤ IntKind.u64.wrap n := by simp only [IntKind.wrap]; exact Int.emod_nonneg _ (by decide)
  omega
theorem u64_small (n : Nat) (h : n < 18446744073709551616) : IntKind.u64.wrap (n : Int) = n := by
  simp only [IntKind.wrap, IntKind.signed, Bool.false_and]
  exact Int.emod_eq_of_lt (by omega) (by simp only [IntKind.bits]; omega)
theorem u64w_lt (n : Int) : ((u64w n : Nat) : Int) < 18446744073709551616 := by
  rw [← u64w_eq]
  simp only [IntKind.wrap, IntKind.signed, Bool.false_and]
  exact Int.emod_lt_of_pos _ (by decide)
/-- A value's bytes; tb: its table's. -/
def encBody (k n : Int) (s : ByteArray) (tb : List UInt8) : List UInt8 :=
  letter k :: (if k = 1 then [UInt8.ofNat (n % 256).toNat] else if k = 2 then be (u64w n) 4 else if k = 3 then be (u64w n) 8
    else if k = 4 then be s.size 4 ++ s.data.toList else if k = 5 then tb else [])
def L.encI : L → List UInt8
  | .nil => []
  | .cons nm k n s it rest => (UInt8.ofNat nm.size :: nm.data.toList) ++ encBody k n s (be it.encI.length 4 ++ it.encI) ++ rest.encI
/-- A table's bytes. -/
def L.enc (l : L) : List UInt8 := be l.encI.length 4 ++ l.encI
def It.encV (x : It) : List UInt8 := encBody x.k x.n x.s x.it.enc
def It.enc (x : It) : List UInt8 := (UInt8.ofNat x.nm.size :: x.nm.data.toList) ++ x.encV

theorem L.encI_app (l m : L) : (l.app m).encI = l.encI ++ m.encI := by
  induction l with
  | nil => rfl
  | cons nm k n s it rest _ ih => simp [L.app, L.encI, ih]
theorem L.encI_one (x : It) : (L.one x).encI = x.enc := by simp [L.one, L.encI, It.enc, It.encV, L.enc]
theorem L.encI_succ (l : L) (i : Nat) (h : i < l.len) : (l.take (i + 1)).encI = (l.take i).encI ++ (l.get i).enc := by
  rw [L.take_succ l i h, L.encI_app, L.encI_one]
theorem L.take_drop (l : L) (i : Nat) : (l.take i).app (l.drop i) = l := by
  induction i generalizing l with
  | zero => rfl
  | succ i ih =>
    cases l with
    | nil => rfl
    | cons nm k n s it rest => simp [L.take, L.drop, L.app, ih]
theorem L.encI_le (l : L) (i : Nat) : (l.take i).encI.length ≤ l.encI.length := by
  have := congrArg (fun m => (L.encI m).length) (L.take_drop l i)
  simp only [L.encI_app, List.length_append] at this
  omega
theorem It.enc_length (x : It) : x.enc.length = 1 + x.nm.size + x.encV.length := by
  simp [It.enc]; omega

/-- All kinds are kinds. -/
def L.Kinds : L → Prop
  | .nil => True
  | .cons _ k _ _ it rest => (0 ≤ k ∧ k ≤ 5) ∧ it.Kinds ∧ rest.Kinds
def It.Kinds (x : It) : Prop := (0 ≤ x.k ∧ x.k ≤ 5) ∧ x.it.Kinds
theorem L.Kinds.get {l : L} (h : l.Kinds) : ∀ i, i < l.len → (l.get i).Kinds := by
  induction l with
  | nil => intro i hi; simp [L.len] at hi
  | cons nm k n s it rest _ ih =>
    intro i hi
    cases i with
    | zero => exact ⟨h.1, h.2.1⟩
    | succ i => exact ih h.2.2 i (by simp [L.len] at hi; omega)
theorem kindOk_kind {k n : Int} {a b : Nat} {c : Bool} (h : kindOk k n a b c = true) : 0 ≤ k ∧ k ≤ 5 := by
  unfold kindOk at h
  (repeat' split at h) <;> first | omega | (cases h; done)
/-- What may be has kinds. -/
theorem L.mayIts_kinds : ∀ (d : Nat) (S : List ByteArray) (l : L), l.mayIts d S = true → l.Kinds
  | _, _, .nil, _ => trivial
  | d, S, .cons nm k n s it rest, h => by
    simp only [L.mayIts, Bool.and_eq_true] at h
    refine ⟨kindOk_kind h.1.2, ?_, L.mayIts_kinds d _ rest h.2⟩
    by_cases hk : k = 5
    · subst hk
      have h2 := h.1.2
      unfold kindOk at h2
      split at h2
      · cases h2
      · simp at h2
        exact L.mayIts_kinds (d + 1) [] it h2.2.2
    · have h2 := h.1.2
      unfold kindOk at h2
      split at h2
      · cases h2
      · have : it = .nil := L.len_zero (by omega)
        subst this; trivial
theorem L.mayTab_kinds {d : Nat} {l : L} (h : l.mayTab d = true) : l.Kinds := by
  simp only [L.mayTab, Bool.and_eq_true] at h
  exact L.mayIts_kinds d [] l h.2


/-! ### how long a table that may be is -/
def bnd : Nat → Nat
  | 0 => 204
  | j + 1 => 4 + 32 * (42 + bnd j)
theorem bnd_ge (j : Nat) : 204 ≤ bnd j := by cases j <;> simp [bnd]; omega
theorem encBody_le (k n : Int) (s : ByteArray) (tb : List UInt8) (B : Nat) (hB : 204 ≤ B) (h4 : k = 4 → s.size ≤ 200) (h5 : k = 5 → tb.length ≤ B) : (encBody k n s tb).length ≤ 1 + B := by
  unfold encBody
  (repeat' split) <;> simp [be_length] <;> first | omega | (have := h4 ‹_›; omega) | (have := h5 ‹_›; omega)
theorem kindOk_text {n : Int} {a b : Nat} {c : Bool} (h : kindOk 4 n a b c = true) : a ≤ 200 := by
  unfold kindOk at h
  split at h
  · cases h
  · simp at h; exact h.2
theorem kindOk_tab {n : Int} {a b : Nat} {c : Bool} (h : kindOk 5 n a b c = true) : c = true := by
  unfold kindOk at h
  split at h
  · cases h
  · simp at h; exact h.2
theorem L.encI_bnd : ∀ (l : L) (d : Nat) (S : List ByteArray), l.mayIts d S = true → l.encI.length ≤ l.len * (42 + bnd (4 - d))
  | .nil, _, _, _ => by simp [L.encI]
  | .cons nm k n s it rest, d, S, h => by
    simp only [L.mayIts, Bool.and_eq_true, decide_eq_true_eq] at h
    obtain ⟨⟨⟨⟨h1, h2⟩, h3⟩, h4⟩, h5⟩ := h
    have hr := L.encI_bnd rest d _ h5
    have hb : (encBody k n s (be it.encI.length 4 ++ it.encI)).length ≤ 1 + bnd (4 - d) := by
      refine encBody_le k n s _ _ (bnd_ge _) (fun e => ?_) (fun e => ?_)
      · subst e; exact kindOk_text h4
      · subst e
        have hc := kindOk_tab h4
        simp only [Bool.and_eq_true, decide_eq_true_eq] at hc
        have hi := L.encI_bnd it (d + 1) [] hc.2
        have hm : it.len * (42 + bnd (4 - (d + 1))) ≤ 32 * (42 + bnd (4 - (d + 1))) := Nat.mul_le_mul_right _ hc.1.2
        rw [show 4 - d = (4 - (d + 1)) + 1 from by omega]
        simp only [bnd, List.length_append, be_length]
        omega
    simp only [L.encI, L.len, List.length_append, List.length_cons, Array.length_toList, Nat.add_mul, Nat.one_mul]
    have : nm.data.size = nm.size := rfl
    omega
theorem L.enc_bnd {l : L} (h : l.mayTab 1 = true) : l.enc.length ≤ 259505604 := by
  simp only [L.mayTab, Bool.and_eq_true, decide_eq_true_eq] at h
  have h1 := L.encI_bnd l 1 [] h.2
  have h2 : l.len * (42 + bnd (4 - 1)) ≤ 32 * (42 + bnd (4 - 1)) := Nat.mul_le_mul_right _ h.1.2
  have h3 : 32 * (42 + bnd (4 - 1)) = 259505600 := by decide
  simp only [L.enc, List.length_append, be_length]
  omega

/-- What Put tells of a table, and its bytes. -/
def L.putE (l : L) : Int := if l.mayTab 1 = true then (if 3000 < l.enc.length then 502 else 0) else 1
def L.putB (l : L) : List UInt8 := if l.mayTab 1 = true then (if 3000 < l.enc.length then [] else l.enc) else []
end Go.Proofs.Ytaeainkfllfdfaa
