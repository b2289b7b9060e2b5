/- What the document says of a few tables: carrefourlaw3.told. -/
import Derived.Test.YtaeainkfllfdfaaB11
namespace Go.Proofs.Ytaeainkfllfdfaa
open Go.RowKit
set_option linter.unusedVariables false
set_option linter.unusedSimpArgs false
set_option maxRecDepth 100000

theorem OwnB.caps {w : World} {base : Nat} {A : Option Addr} {c : Nat} {bs : List UInt8} (h : OwnB w base A c bs) : bs.length ≤ c ∧ c ≤ 9223372036854775807 := by
  rcases h.2 with ⟨hv, hn⟩ | ⟨g, cap, cur, hv, hg, hh, hle, hm, _⟩
  · simp at hv; obtain ⟨-, -, rfl⟩ := hv; exact ⟨by omega, by omega⟩
  · simp at hv; obtain ⟨rfl, rfl⟩ := hv; unfold maxLen at hm; omega

/-- A row of items that was just laid. -/
theorem Sl.new {W : World} {S : Nat → Prop} {b n : Nat} {l : L} {us : List Value} (hb : W.heap.size = b) (hn : n = l.len) (hv : Vals (W.alloc (.cells us.toArray 37)) S l us) (hS : S b) : Sl (W.alloc (.cells us.toArray 37)) S (some ⟨b, 0, none⟩) l := by
  refine .inr ⟨b, 0, us, rfl, hS, hv, fun j u hj => ?_⟩
  rw [Nat.zero_add]
  exact cell_new' hb (by rw [← hj]; simp only [List.getElem?_toArray])

/-- The table that told tries. -/
def tl : L := .cons ⟨#[97]⟩ 1 1 .empty .nil (.cons ⟨#[98]⟩ 5 0 .empty .nil .nil)
def t0 : L := .cons .empty 0 0 .empty .nil .nil
theorem tl_putE : tl.putE = 0 := by decide +kernel
theorem tl_putB : tl.putB = [0, 0, 0, 11, 1, 97, 116, 1, 1, 98, 70, 0, 0, 0, 0] := by decide +kernel
theorem tl_getE : getE [0, 0, 0, 11, 1, 97, 116, 1, 1, 98, 70, 0, 0, 0, 0] = 0 := by decide +kernel
theorem tl_getL : getL [0, 0, 0, 11, 1, 97, 116, 1, 1, 98, 70, 0, 0, 0, 0] = tl := by decide +kernel
theorem nil_getE : getE [] = 502 := by decide +kernel
theorem nil_getL : getL [] = .nil := by decide +kernel
theorem t0_putE : t0.putE = 1 := by decide +kernel
theorem t0_putB : t0.putB = [] := by decide +kernel
theorem tl_a : tl.find ⟨#[97]⟩ = ⟨⟨#[97]⟩, 1, 1, .empty, .nil⟩ := by decide +kernel
theorem tl_c : tl.find ⟨#[99]⟩ = It.zero := by decide +kernel
theorem tl_ok : tl.Ok := by refine ⟨by decide, trivial, by decide, trivial, trivial⟩
theorem t0_ok : t0.Ok := by refine ⟨by decide, trivial, trivial⟩

theorem field34_1 (k n : Int) (s : ByteArray) (A : Option Addr) (m c : Nat) (w : World) : (Instr.field 34 (.agg #[.int .i64 k, .int .i64 n, .string s, .slice A m c]) 1).run Try.prog w = .ok (.int .i64 n) w := by kernel_rfl
theorem field34_0 (k n : Int) (s : ByteArray) (A : Option Addr) (m c : Nat) (w : World) : (Instr.field 34 (.agg #[.int .i64 k, .int .i64 n, .string s, .slice A m c]) 0).run Try.prog w = .ok (.int .i64 k) w := by kernel_rfl

set_option maxHeartbeats 4000000 in
theorem told17 (w : World) : Calls Try.prog 17 #[] w fun e w' => e = .returned (.bool true) ∧ Still w w' := by
  go_enter Try.func17, Try.ntmps17
  go_wp2_with fail
  have hA : Sl (w.alloc (.cells #[.string ⟨#[97]⟩, .int .i64 1, .int .i64 1, .string ⟨#[]⟩, .slice none 0 0, .string ⟨#[98]⟩, .int .i64 5, .int .i64 0, .string ⟨#[]⟩, .slice none 0 0] 37)) (· = w.heap.size) (some ⟨w.heap.size, 0, none⟩) tl :=
    Sl.new (l := tl) (n := 2) rfl rfl ⟨none, 0, _, rfl, Sl.nil _ _ _, ⟨none, 0, _, rfl, Sl.nil _ _ _, rfl⟩⟩ rfl
  have HA := Kp.mk hA; clear hA
  refine (put_ok tl (some ⟨w.heap.size, 0, none⟩) 2 _ _ (by decide) tl_ok HA.out).mono ?_
  rintro e w1 ⟨A1, c1, rfl, ho1, ht1⟩
  rw [tl_putE]
  rw [tl_putB] at ho1 ⊢
  have HO1 := Kp.mk ho1
  have hc1 := ho1.caps
  clear ho1
  have HT1 := Kp.mk ht1
  clear ht1
  go_wp2_with fail
  refine (get_ok _ A1 c1 _ _ w1 rfl (by simp) hc1.1 hc1.2 HO1.out.bs).mono ?_
  rintro e w2 ⟨A2, c2, rfl, hs2, ht2⟩
  rw [tl_getE]
  rw [tl_getL] at hs2 ⊢
  have HS2 := Kp.mk hs2; have HT2 := Kp.mk ht2; clear hs2 ht2
  go_wp2_with fail
  refine (get_ok [] none 0 _ (fun _ => True) w2 rfl (by simp) (by simp) (by simp) (Bs.nil _ _ _)).mono ?_
  rintro e w3 ⟨A3, c3, rfl, hs3, ht3⟩
  rw [nil_getE, nil_getL]
  have HT3 := Kp.mk ht3; clear hs3 ht3
  go_wp2_with fail
  have h4 : Sl (w3.alloc (.cells #[.string ⟨#[]⟩, .int .i64 0, .int .i64 0, .string ⟨#[]⟩, .slice none 0 0] 37)) (· = w3.heap.size) (some ⟨w3.heap.size, 0, none⟩) t0 :=
    Sl.new (l := t0) (n := 1) rfl rfl ⟨none, 0, _, rfl, Sl.nil _ _ _, rfl⟩ rfl
  refine (put_ok t0 (some ⟨w3.heap.size, 0, none⟩) 1 _ _ (by decide) t0_ok h4).mono ?_
  rintro e w4 ⟨A4, c4, rfl, ho4, ht4⟩
  rw [t0_putE]
  rw [t0_putB]
  have HT4 := Kp.mk ((Still.refl w3).alloc _ |>.strans ht4); clear ho4 ht4 h4
  have HS4 := Kp.mk (HS2.out.still (HT3.out.strans HT4.out))
  have HA4 := Kp.mk (HA.out.still (HT1.out.strans (HT2.out.strans (HT3.out.strans HT4.out))))
  have HW4 := Kp.mk (((Still.refl w).alloc _).strans (HT1.out.strans (HT2.out.strans (HT3.out.strans HT4.out))))
  have hcv := run_conv (c := c1) (HO1.out.bs.still (HT2.out.strans (HT3.out.strans HT4.out))) 15 rfl
  clear HS2 HA HO1 HT1 HT2 HT3 HT4
  go_wp2_with fail
  refine (same_ok tl tl A2 _ c2 _ (fun _ => True) w4 (by decide) (by decide) tl_ok tl_ok (HS4.out.weak (fun _ _ => trivial)) (HA4.out.weak (fun _ _ => trivial))).mono ?_
  rintro e w5 ⟨rfl, ht5⟩
  rw [show decide (tl = tl) = true from decide_eq_true rfl]
  have HW5 := Kp.mk (HW4.out.strans ht5)
  have HA5 := Kp.mk (HA4.out.still ht5); clear ht5 hcv
  clear HW4 HA4 HS4
  go_wp2_with fail
  refine (find_ok tl ⟨#[97]⟩ _ 2 _ w5 (by decide) HA5.out).mono ?_
  rintro e w6 ⟨A6, c6, rfl, hs6, ht6⟩
  rw [tl_a]
  have HW6 := Kp.mk (HW5.out.strans ht6)
  have HA6 := Kp.mk (HA5.out.still ht6); clear ht6 hs6 HA5 HW5
  have hf1 := field34_1 1 1 .empty A6 L.nil.len c6 w6
  go_wp2_with fail
  refine (find_ok tl ⟨#[99]⟩ _ 2 _ w6 (by decide) HA6.out).mono ?_
  rintro e w7 ⟨A7, c7, rfl, hs7, ht7⟩
  rw [tl_c]
  have HW7 := Kp.mk (HW6.out.strans ht7)
  clear ht7 hs7 HA6 HW6
  have hf2 := field34_0 It.zero.k It.zero.n It.zero.s A7 It.zero.it.len c7 w7
  go_wp2_with fail
  refine (may_ok .nil 0 0 .empty none 0 (fun _ => True) w7 (by decide) (by decide) trivial (Sl.nil _ _ _)).mono ?_
  rintro e w8 ⟨rfl, ht8⟩
  rw [show kindOk 0 0 ByteArray.empty.size L.nil.len (L.nil.mayTab 1) = true from by decide]
  have HW8 := Kp.mk (HW7.out.strans ht8)
  clear ht8 HW7
  go_wp2_with fail
  refine (may_ok .nil 9 0 .empty none 0 (fun _ => True) w8 (by decide) (by decide) trivial (Sl.nil _ _ _)).mono ?_
  rintro e w9 ⟨rfl, ht9⟩
  rw [show kindOk 9 0 ByteArray.empty.size L.nil.len (L.nil.mayTab 1) = false from by decide]
  have HW9 := Kp.mk (HW8.out.strans ht9)
  clear ht9 HW8
  go_wp2_with fail
  go_ret
  exact ⟨rfl, HW9.out⟩
end Go.Proofs.Ytaeainkfllfdfaa
