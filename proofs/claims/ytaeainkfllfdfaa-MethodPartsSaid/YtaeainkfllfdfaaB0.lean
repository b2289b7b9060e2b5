/- The set of seen names as the program's map[string]bool holds it, and the contract of slices.IndexFunc over items. -/
import Derived.Test.YtaeainkfllfdfaaA1
import Derived.Test.YtaeainkfllfdfaaProg
import Derived.Maps.Own
import Derived.Deep.Light
import Derived.Maps.OwnOps
import Derived.Maps.OwnSet
namespace Go.Proofs.Ytaeainkfllfdfaa
open Go.RowKit
set_option linter.unusedVariables false
set_option linter.unusedSimpArgs false
set_option maxRecDepth 100000

theorem below_succ {p : Nat → Prop} {k : Nat} (h : ∀ j, j < k → p j) (hk : p k) : ∀ j, j < k + 1 → p j := fun j hj => by
  by_cases e : j = k
  · rw [e]; exact hk
  · exact h j (by omega)

/-! ### the map of seen names -/
theorem zeroV4 (w : World) : (zeroValue 4).run Try.prog w = .ok (.bool false) w := by kernel_rfl
theorem keyS : Maps.Keyed Try.prog 9 := Maps.string_keyed Try.underlying9

/-- Block b is a map whose keys with true are the names seen. -/
def SetB (w : World) (b : Nat) (n : Nat) (seen : List ByteArray) : Prop :=
  ∃ D : DataW Unit, w.ownsMap Try.prog 9 (plainElem Try.prog 4) b n D ∧ ∀ nm : ByteArray, nm.size ≤ maxLen → D.atKey (.string nm.data.toList) (.lit (.bool false)) = .lit (.bool (seenB seen nm))

theorem plainElem_bool_inv {H : Type} {P : Program} {e : TypeId} (he : P.underlying e = some .bool) {v : Value} {z : DataW H × List MemPlace} (h : plainElem P e v = some z) : ∃ x, v = .bool x ∧ z = (.lit (.bool x), []) := by
  unfold plainElem at h
  rw [he] at h
  cases v <;> simp at h
  exact ⟨_, rfl, h.symm⟩

theorem SetB.made (w : World) : SetB (w.alloc (.map #[] 0)) w.heap.size 0 [] :=
  ⟨.map [], World.ownsMap_made w _ _ _, fun nm _ => by simp [DataW.atKey, seenB]⟩

theorem SetB.look {w : World} {b n : Nat} {seen : List ByteArray} (h : SetB w b n seen) (nm : ByteArray) (hn : nm.size ≤ maxLen) :
    (Instr.lookup 115 (.map (some b)) (.string nm) false).run Try.prog w = .ok (.bool (seenB seen nm)) w := by
  obtain ⟨D, ho, hD⟩ := h
  obtain ⟨v, ps, hrun, hv⟩ := ho.lookup keyS Try.underlying115 (zeroV4 w) (plainElem_bool Try.underlying4 false) (WideMaps.keyOf_string_mk Try.underlying9 hn)
  obtain ⟨x, rfl, hx⟩ := plainElem_bool_inv Try.underlying4 hv
  rw [hD nm hn] at hx
  simp only [Prod.mk.injEq, DataW.lit.injEq, Lit.bool.injEq] at hx
  rw [hrun, hx.1]

theorem SetB.put {w : World} {b n : Nat} {seen : List ByteArray} (h : SetB w b n seen) (nm : ByteArray) (hn : nm.size ≤ maxLen) (hc : n < maxLen) :
    ∃ w', (Instr.mapUpdate 115 (.map (some b)) (.string nm) (.bool true)).run Try.prog w = .ok () w' ∧ SetB w' b (n + 1) (nm :: seen) ∧ w.grownBy w' (some b) := by
  obtain ⟨D, ho, hD⟩ := h
  obtain ⟨w', hrun, ho', hg⟩ := ho.update (val := .bool true) keyS Try.underlying115 hc (WideMaps.keyOf_string_mk Try.underlying9 hn) (plainElem_bool Try.underlying4 true)
  refine ⟨w', hrun, ⟨_, ho', fun nm' hn' => ?_⟩, hg⟩
  by_cases e : nm' = nm
  · subst e
    rw [Maps.atKey_put_same ho.isMap (by exact trivial)]
    simp [seenB]
  · rw [Maps.atKey_put_other (by intro h; apply e; simp at h; exact ByteArray.ext h), hD nm' hn']
    simp [seenB, show nm ≠ nm' from fun h => e h.symm]

theorem SetB.tch {w w' : World} {S : Nat → Prop} {b n : Nat} {seen : List ByteArray} (h : SetB w b n seen) (k : Tch S w w') (hb : ¬ S b) : SetB w' b n seen := by
  obtain ⟨D, ⟨es, clock, hh, r⟩, hD⟩ := h
  exact ⟨D, ⟨es, clock, (k.block b (Array.getElem?_eq_some_iff.1 hh).1 hb).trans hh, r⟩, hD⟩
theorem SetB.lt {w : World} {b n : Nat} {seen : List ByteArray} (h : SetB w b n seen) : b < w.heap.size := by
  obtain ⟨D, ho, _⟩ := h
  exact ho.lt

/-- 'seen[nm] = true' at the operation. -/
theorem wpList_seen {ops : Array Oper} {rest : List Oper} {o : Oper} {a : Act} {Q : Exit → Act → World → Prop} (w : World) (hg : o.guard = none) (m x v : Operand) (hop : o.op = Op.mapUpdate 115 m x v)
    (b n : Nat) (seen : List ByteArray) (nm : ByteArray) (hm : a.eval m = .map (some b)) (hx : a.eval x = .string nm) (hv : a.eval v = .bool true) (hs : SetB w b n seen) (hn : nm.size ≤ maxLen) (hc : n < maxLen)
    (hK : ∀ w', SetB w' b (n + 1) (nm :: seen) → w.grownBy w' (some b) → wpList Try.prog ops Q rest (a.put o.dst undef) w') : wpList Try.prog ops Q (o :: rest) a w := by
  refine wpList_plain hg fun K' hK' => ?_
  obtain ⟨w', hrun, r1, r2⟩ := hs.put nm hn hc
  unfold Oper.wp
  simp [execOp, hop, hm, hx, hv, hrun, Result.andThen]
  exact hK' _ _ (hK w' r1 r2)

/-! ### slices.IndexFunc over items -/
/-- What it answers: the first place of which p holds, or -1. -/
def Found (n : Nat) (p : Nat → Bool) (I R : Nat → World → Prop) (e : Ending) (w' : World) : Prop :=
  (∃ i, i < n ∧ p i = true ∧ (∀ j, j < i → p j = false) ∧ e = .returned (.int .i64 i) ∧ R i w') ∨ ((∀ j, j < n → p j = false) ∧ e = .returned (.int .i64 (-1)) ∧ I n w')
set_option maxHeartbeats 1000000 in
theorem indexFunc (g : Nat) (lb : Array Value) (A : Option Addr) (c : Nat) (l : L) (hl : l.len ≤ 140737488351232) (S : Nat → Prop) (p : Nat → Bool) (I R : Nat → World → Prop) (w : World)
   (he : ∀ (args : Array Value) (W : World), (callFunc g args).run Try.prog W = .ok (.enter g args) W)
   (h0 : I 0 w) (hI : ∀ i W, I i W → Sl W S A l)
   (hstep : ∀ i W A' c', i < l.len → I i W → Sl W S A' (l.get i).it → Calls Try.prog g (#[.agg #[.string (l.get i).nm, .int .i64 (l.get i).k, .int .i64 (l.get i).n, .string (l.get i).s, .slice A' (l.get i).it.len c']] ++ lb) W fun e W' => e = .returned (.bool (p i)) ∧ (p i = false → I (i+1) W') ∧ (p i = true → R i W')) :
    Calls Try.prog 48 #[.slice A l.len c, .func (.func g) #[] lb] w (Found l.len p I R) := by
  have H0 := Kp.mk h0; clear h0
  have HI := Kp.mk hI; clear hI
  have HS := Kp.mk hstep; clear hstep
  go_enter Try.func48, Try.ntmps48
  go_wp2
  go_loopw [5, 8] (fun _ i wr => ∃ k : Nat, k ≤ l.len ∧ i = .int .i64 k ∧ I k wr ∧ Kp (∀ j, j < k → p j = false)) (fun _ i _ => l.len - (intOf i).toNat)
  case atStart => exact ⟨0, by omega, rfl, H0.out, ⟨fun j hj => by omega⟩⟩
  case round =>
    obtain ⟨k, hk, rfl, hi, hp⟩ := hrel
    have Hi := Kp.mk hi
    clear hi
    by_cases hlt : k < l.len
    · obtain ⟨b, o, rfl, hS, hat⟩ := (HI.out _ _ Hi.out).at (by omega)
      obtain ⟨A', c', q0, q1, q2, q3, q4, hs⟩ := hat k hlt
      clear hat hS
      have Hs := Kp.mk hs
      clear hs
      have hst0 := HS.out k wr A' c' hlt Hi.out Hs.out
      have hst := Kp.mk hst0
      clear HS hst0
      cases hpk : p k with
      | true =>
        go_wp2_with (refine (hst.out).mono ?_; rintro e w' ⟨rfl, _, hR⟩; have HR := Kp.mk (hR hpk); clear hR; rw [hpk])
        go_ret
        exact .inl ⟨k, hlt, hpk, hp.out, rfl, HR.out⟩
      | false =>
        go_wp2_with (refine (hst.out).mono ?_; rintro e w' ⟨rfl, hR, _⟩; have HR := Kp.mk (hR hpk); clear hR; rw [hpk])
        go_roundw
        case rel => exact ⟨k + 1, by omega, by go_num, HR.out, ⟨below_succ hp.out hpk⟩⟩
        case measure => simp [intOf]; omega
    · have : k = l.len := by omega
      subst this
      go_wp2
      go_ret
      exact .inr ⟨hp.out, rfl, Hi.out⟩

/-- What slices.ContainsFunc answers. -/
def Any (n : Nat) (p : Nat → Bool) (I R : Nat → World → Prop) (e : Ending) (w' : World) : Prop :=
  (∃ i, i < n ∧ p i = true ∧ (∀ j, j < i → p j = false) ∧ e = .returned (.bool true) ∧ R i w') ∨ ((∀ j, j < n → p j = false) ∧ e = .returned (.bool false) ∧ I n w')
set_option maxHeartbeats 1000000 in
theorem containsFunc (g : Nat) (lb : Array Value) (A : Option Addr) (c : Nat) (l : L) (hl : l.len ≤ 140737488351232) (S : Nat → Prop) (p : Nat → Bool) (I R : Nat → World → Prop) (w : World)
   (he : ∀ (args : Array Value) (W : World), (callFunc g args).run Try.prog W = .ok (.enter g args) W)
   (h0 : I 0 w) (hI : ∀ i W, I i W → Sl W S A l)
   (hstep : ∀ i W A' c', i < l.len → I i W → Sl W S A' (l.get i).it → Calls Try.prog g (#[.agg #[.string (l.get i).nm, .int .i64 (l.get i).k, .int .i64 (l.get i).n, .string (l.get i).s, .slice A' (l.get i).it.len c']] ++ lb) W fun e W' => e = .returned (.bool (p i)) ∧ (p i = false → I (i+1) W') ∧ (p i = true → R i W')) :
    Calls Try.prog 79 #[.slice A l.len c, .func (.func g) #[] lb] w (Any l.len p I R) := by
  have C := Kp.mk (indexFunc g lb A c l hl S p I R w he h0 hI hstep)
  clear h0 hI hstep
  go_enter Try.func79, Try.ntmps79
  go_wp2_with (refine C.out.mono ?_; rintro e w' (⟨i, hi, hpi, hj, rfl, hR⟩ | ⟨hj, rfl, hR⟩))
  · go_wp2
    go_ret
    exact .inl ⟨i, hi, hpi, hj, by simp, hR⟩
  · go_wp2
    go_ret
    exact .inr ⟨hj, by simp, hR⟩

end Go.Proofs.Ytaeainkfllfdfaa
