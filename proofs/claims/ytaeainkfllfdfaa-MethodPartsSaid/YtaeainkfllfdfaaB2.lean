/- The contract of value.Same: it answers whether two tables are one, and turns nothing. -/
import Derived.Test.YtaeainkfllfdfaaB1
namespace Go.Proofs.Ytaeainkfllfdfaa
open Go.RowKit
set_option linter.unusedVariables false
set_option linter.unusedSimpArgs false
set_option maxRecDepth 100000

def SameC (a : L) : Prop := ∀ (b : L) (A B : Option Addr) (ca cb : Nat) (S : Nat → Prop) (w : World), a.len ≤ 140737488351232 → b.len ≤ 140737488351232 → a.Ok → b.Ok → Sl w S A a → Sl w S B b →
  Calls Try.prog 20 #[.slice A a.len ca, .slice B b.len cb] w fun e w' => e = .returned (.bool (decide (a = b))) ∧ Still w w'

theorem str_eq (s t : ByteArray) : s.toList = t.toList ↔ s = t := by
  rw [ByteArray.toList_eq, ByteArray.toList_eq]
  exact ⟨fun h => ByteArray.ext (Array.ext' h), fun h => by rw [h]⟩
theorem L.eq_iff (a b : L) : a = b ↔ a.len = b.len ∧ ∀ i, i < a.len → a.get i = b.get i :=
  ⟨fun h => by subst h; exact ⟨rfl, fun _ _ => rfl⟩, fun ⟨h, k⟩ => L.ext_get a b h k⟩

set_option maxHeartbeats 2000000 in
theorem same_val (x y : It) (hC : SameC x.it) (A B : Option Addr) (ca cb : Nat) (S : Nat → Prop) (w : World) (hx : x.Ok) (hy : y.Ok) (hA : Sl w S A x.it) (hB : Sl w S B y.it) :
    Calls Try.prog 46 #[.agg #[.int .i64 x.k, .int .i64 x.n, .string x.s, .slice A x.it.len ca], .agg #[.int .i64 y.k, .int .i64 y.n, .string y.s, .slice B y.it.len cb]] w fun e w' =>
      e = .returned (.bool (decide (x.k = y.k ∧ x.n = y.n ∧ x.s = y.s ∧ x.it = y.it))) ∧ Still w w' := by
  have C := Kp.mk (fun W hs => hC y.it A B ca cb S W hx.1.2.2.1 hy.1.2.2.1 hx.2 hy.2 (hA.still hs) (hB.still hs))
  clear hC hA hB hx hy
  go_enter Try.func46, Try.ntmps46
  go_wp2_with (refine (C.out _ (((Still.refl _).alloc _).alloc _)).mono ?_; rintro e w1 ⟨rfl, hw1⟩)
  all_goals go_ret
  all_goals go_light
  all_goals refine ⟨ret_bool ?_, ?_⟩
  all_goals first | exact ((Still.refl _).alloc _).alloc _ | exact (((Still.refl _).alloc _).alloc _).still ‹_› | skip
  all_goals (try simp only [str_eq] at *)
  all_goals (rw [Bool.eq_iff_iff]; simp [*])

set_option maxHeartbeats 2000000 in
theorem same_clo (x y : It) (hC : SameC x.it) (A B : Option Addr) (ca cb : Nat) (S : Nat → Prop) (w : World) (hx : x.Ok) (hy : y.Ok) (hA : Sl w S A x.it) (hB : Sl w S B y.it) :
    Calls Try.prog 45 #[.agg #[.string x.nm, .int .i64 x.k, .int .i64 x.n, .string x.s, .slice A x.it.len ca], .agg #[.string y.nm, .int .i64 y.k, .int .i64 y.n, .string y.s, .slice B y.it.len cb]] w fun e w' =>
      e = .returned (.bool (decide (x = y))) ∧ Still w w' := by
  have C := Kp.mk (fun W hs => same_val x y hC A B ca cb S W hx hy (hA.still hs) (hB.still hs))
  have E := Kp.mk (show x = y ↔ x.nm = y.nm ∧ (x.k = y.k ∧ x.n = y.n ∧ x.s = y.s ∧ x.it = y.it) by cases x; cases y; simp)
  clear hC hA hB hx hy
  go_enter Try.func45, Try.ntmps45
  go_wp2_with (refine (C.out _ (((Still.refl _).alloc _).alloc _)).mono ?_; rintro e w1 ⟨rfl, hw1⟩)
  all_goals go_ret
  all_goals go_light
  all_goals refine ⟨ret_bool ?_, ?_⟩
  all_goals first | exact ((Still.refl _).alloc _).alloc _ | exact (((Still.refl _).alloc _).alloc _).still ‹_› | skip
  all_goals (try simp only [str_eq] at *)
  all_goals (rw [Bool.eq_iff_iff]; simp [E.out, *])

theorem enters45 (args : Array Value) (W : World) : (callFunc 45 args).run Try.prog W = .ok (.enter 45 args) W := enters_of Try.func45 (by kernel_rfl) rfl args W

set_option maxHeartbeats 2000000 in
theorem equalFunc (a b : L) (ih : ∀ i, i < a.len → SameC (a.get i).it) (A B : Option Addr) (ca cb : Nat) (S : Nat → Prop) (w : World) (ha : a.len ≤ 140737488351232) (hb : b.len ≤ 140737488351232) (hx : a.Ok) (hy : b.Ok) (hA : Sl w S A a) (hB : Sl w S B b) :
    Calls Try.prog 44 #[.slice A a.len ca, .slice B b.len cb, .func (.func 45) #[] #[]] w fun e w' => e = .returned (.bool (decide (a = b))) ∧ Still w w' := by
  by_cases hl : a.len = b.len
  · have C := Kp.mk (fun i (hi : i < a.len) A' B' ca' cb' W => same_clo (a.get i) (b.get i) (ih i hi) A' B' ca' cb' S W (hx.get i hi) (hy.get i (by omega)))
    have HA := Kp.mk hA
    have HB := Kp.mk hB
    have HE := Kp.mk (L.eq_iff a b)
    have HL := Kp.mk hl
    have g1 : ((a.len : Int) != (b.len : Int)) = false := by simp [hl]
    clear ih hA hB hx hy hl
    go_enter Try.func44, Try.ntmps44
    go_wp2_with fail
    go_loopw [17] (fun i wr => ∃ k : Nat, k ≤ a.len ∧ i = .int .i64 k ∧ Still w wr ∧ Kp (∀ j, j < k → a.get j = b.get j)) (fun i _ => a.len - (intOf i).toNat)
    case atStart => exact ⟨0, by omega, rfl, Still.refl w, ⟨fun j hj => by omega⟩⟩
    case round =>
      obtain ⟨k, hk, rfl, hi, hp⟩ := hrel
      have Hi := Kp.mk hi
      clear hi
      by_cases hlt : k < a.len
      · obtain ⟨ba, oa, rfl, hSa, hata⟩ := (HA.out.still Hi.out).at (by omega)
        obtain ⟨A', ca', p0, p1, p2, p3, p4, hsa⟩ := hata k hlt
        obtain ⟨bb, ob, rfl, hSb, hatb⟩ := (HB.out.still Hi.out).at (by have := HL.out; omega)
        have hlt2 : k < b.len := by have := HL.out; omega
        obtain ⟨B', cb', q0, q1, q2, q3, q4, hsb⟩ := hatb k hlt2
        clear hata hatb hSa hSb
        have Hsa := Kp.mk hsa
        have Hsb := Kp.mk hsb
        clear hsa hsb
        have qq0 := fun o => ((Still.refl wr).alloc o).scell q0
        have qq1 := fun o => ((Still.refl wr).alloc o).scell q1
        have qq2 := fun o => ((Still.refl wr).alloc o).scell q2
        have qq3 := fun o => ((Still.refl wr).alloc o).scell q3
        have qq4 := fun o => ((Still.refl wr).alloc o).scell q4
        clear q0 q1 q2 q3 q4
        go_wp2_with fail
        refine (C.out k hlt A' B' ca' cb' _ (Hsa.out.still (((Still.refl _).alloc _).alloc _)) (Hsb.out.still (((Still.refl _).alloc _).alloc _))).mono ?_
        rintro e w1 ⟨rfl, hw1⟩
        have Hst1 := Kp.mk (((Hi.out.alloc _).alloc _).still hw1)
        clear hw1
        by_cases he : a.get k = b.get k
        · rw [decide_eq_true he]
          have HEQ := Kp.mk he; clear he
          go_wp2_with fail
          go_roundw
          case rel => exact ⟨k + 1, by omega, by go_num, Hst1.out, ⟨below_succ hp.out HEQ.out⟩⟩
          case measure => go_light; simp only [intOf]; omega
        · rw [decide_eq_false he]
          have hne : decide (a = b) = false := decide_eq_false (fun h => he ((HE.out.1 h).2 k hlt))
          have HNE := Kp.mk hne; clear he hne
          go_wp2_with fail
          go_ret
          exact ⟨ret_bool HNE.out.symm, Hst1.out⟩
      · have hkl : k = a.len := by omega
        subst hkl
        have hT : decide (a = b) = true := decide_eq_true (HE.out.2 ⟨HL.out, hp.out⟩)
        have HT := Kp.mk hT; clear hT
        go_wp2_with fail
        go_ret
        exact ⟨ret_bool HT.out.symm, Hi.out⟩
  · have g1 : ((a.len : Int) != (b.len : Int)) = true := by simp; omega
    have hne : decide (a = b) = false := decide_eq_false (fun h => hl (by rw [h]))
    have HNE := Kp.mk hne; clear hne ih hA hB hx hy hl
    go_enter Try.func44, Try.ntmps44
    go_wp2_with fail
    go_ret
    exact ⟨ret_bool HNE.out.symm, Still.refl w⟩

theorem sameC : ∀ a, SameC a := L.ind fun a ih => by
  intro b A B ca cb S w ha hb hx hy hA hB
  have C := Kp.mk (equalFunc a b ih A B ca cb S w ha hb hx hy hA hB)
  clear ih hx hy hA hB
  go_enter Try.func20, Try.ntmps20
  go_wp2_with (refine C.out.mono ?_; rintro e w1 ⟨rfl, hw1⟩)
  go_ret
  exact ⟨rfl, hw1⟩
/-- value.Same. -/
theorem same_ok (a b : L) (A B : Option Addr) (ca cb : Nat) (S : Nat → Prop) (w : World) (ha : a.len ≤ 140737488351232) (hb : b.len ≤ 140737488351232) (hx : a.Ok) (hy : b.Ok) (hA : Sl w S A a) (hB : Sl w S B b) :
    Calls Try.prog 20 #[.slice A a.len ca, .slice B b.len cb] w fun e w' => e = .returned (.bool (decide (a = b))) ∧ Still w w' := sameC a b A B ca cb S w ha hb hx hy hA hB
end Go.Proofs.Ytaeainkfllfdfaa
