/- What the document says of a few calls: carrefourlaw5.told; and which calls are few: carrefourlaw5.Few. -/
import Derived.Test.YtaeainkfllfdfaaC7
namespace Go.Proofs.Ytaeainkfllfdfaa
open Go.RowKit
set_option linter.unusedVariables false
set_option linter.unusedSimpArgs false
set_option maxRecDepth 100000

def SomeBool (w : World) (e : Ending) (w' : World) : Prop := (∃ b : Bool, e = .returned (.bool b)) ∧ Still w w'
set_option maxHeartbeats 4000000 in
theorem few23 (m : M) (A : Option Addr) (n : Nat) (S : Nat → Prop) (w : World) (hm : m.Ok) (hA : Sl w S A m.ar) :
    Calls Try.prog 23 #[m.val A n] w (SomeBool w) := by
  have C := Kp.mk (fun W hs => few16 m.ar A n S W hm.arl hm.ar (hA.still hs))
  clear hA hm
  go_enter Try.func23, Try.ntmps23
  go_wp2_with (refine (C.out _ ((Still.refl _).alloc _)).mono ?_; rintro e w1 ⟨⟨fb, rfl⟩, hw1⟩)
  all_goals go_ret
  all_goals first | exact ⟨⟨_, rfl⟩, (Still.refl _).alloc _⟩ | exact ⟨⟨_, rfl⟩, ((Still.refl _).alloc _).still ‹_›⟩

def m1 : M := { M.zero with id := 2010 }
def m2 : M := { M.zero with id := 6080, tg := 258, fl := true }
def m3 : M := { M.zero with id := 6070, ky := ⟨#[120]⟩ }
theorem m1_put : m1.putE = 0 ∧ m1.putB = [0, 20, 0, 10] := by decide +kernel
theorem m2_put : m2.putE = 0 ∧ m2.putB = [0, 60, 0, 80, 0, 0, 0, 0, 0, 0, 1, 2, 1] := by decide +kernel
theorem m3_put : m3.putE = 1 ∧ m3.putB = [] := by decide +kernel
theorem m2_get : mgE [0, 60, 0, 80, 0, 0, 0, 0, 0, 0, 1, 2, 1] = 0 ∧ mgM [0, 60, 0, 80, 0, 0, 0, 0, 0, 0, 1, 2, 1] = m2 := by decide +kernel
theorem m4_get : mgE [0, 19, 0, 110] = 503 ∧ mgM [0, 19, 0, 110] = M.zero := by decide +kernel
theorem m5_get : mgE [0, 20] = 502 ∧ mgM [0, 20] = M.zero := by decide +kernel
theorem with_ok {m : M} (h : m.Ok) (id : Int) (h1 : 0 ≤ id) (h2 : id ≤ 100000) : ({ m with id := id } : M).Ok :=
  ⟨by show _ ≤ id; omega, by show id ≤ _; omega, h.nm, h.ty, h.ex, h.ky, h.tx, h.co1, h.co2, h.cn1, h.cn2, h.tg1, h.tg2, h.ar, h.arl⟩
theorem m1_ok : m1.Ok := with_ok M.zero_ok 2010 (by decide) (by decide)
theorem m2_ok : m2.Ok := by constructor <;> first | decide | trivial
theorem m3_ok : m3.Ok := by constructor <;> first | decide | trivial
theorem p6120 : partsL 6120 = [116, 102, 98] := by decide
theorem p7 : partsL 7 = [45] := by decide

/-- A row of bytes that was just laid. -/
theorem Bs.new {W : World} {S : Nat → Prop} {b : Nat} {bs : List UInt8} (hb : W.heap.size = b) (hS : S b) : Bs (W.alloc (.cells (nb bs).toArray 5)) S (some ⟨b, 0, none⟩) bs := by
  refine .inr ⟨b, 0, rfl, hS, fun j hj => ?_⟩
  rw [Nat.zero_add]
  exact cell_new' hb (by simp [nb, hj])

set_option maxHeartbeats 8000000 in
theorem told34 (w : World) : Calls Try.prog 34 #[] w fun e w' => e = .returned (.bool true) ∧ Still w w' := by
  go_enter Try.func34, Try.ntmps34
  go_wp2_with fail
  refine (put35 m1 m1_ok (fun _ => True) none 0 w (Sl.nil _ _ _)).mono ?_
  rintro e w1 ⟨A1, c1, rfl, ho1, ht1⟩
  rw [m1_put.1]
  rw [m1_put.2] at ho1 ⊢
  have HO1 := Kp.mk ho1; have HT1 := Kp.mk ht1; clear ho1 ht1
  go_wp2_with fail
  refine (put35 m2 m2_ok (fun _ => True) none 0 w1 (Sl.nil _ _ _)).mono ?_
  rintro e w2 ⟨A2, c2, rfl, ho2, ht2⟩
  rw [m2_put.1]
  rw [m2_put.2] at ho2 ⊢
  have hc2 := ho2.caps
  have HO2 := Kp.mk ho2; have HT2 := Kp.mk (HT1.out.strans ht2)
  have HO12 := Kp.mk (HO1.out.still ht2); clear ho2 ht2 HO1
  go_wp2_with fail
  refine (get36 [0, 60, 0, 80, 0, 0, 0, 0, 0, 0, 1, 2, 1] A2 c2 _ _ w2 rfl (by simp) hc2.1 hc2.2 HO2.out.bs).mono ?_
  rintro e w3 ⟨A3, c3, rfl, hs3, ht3⟩
  rw [m2_get.1, m2_get.2]
  have HT3 := Kp.mk (HT2.out.strans ht3)
  have HO13 := Kp.mk (HO12.out.still ht3); have HO23 := Kp.mk (HO2.out.still ht3); clear hs3 ht3 HO12 HO2
  go_wp2_with fail
  have x8 := fun o => ((Still.refl _).alloc o).scell (show (w3.alloc (.cells #[.int .i64 6080, .string { data := #[] }, .string { data := #[] }, .string { data := #[] }, .string { data := #[] }, .string { data := #[] }, .int .i64 0, .int .i64 0, .int .u64 258, .bool true, .bool false, .slice A3 m2.ar.len c3] 42)).cell? ⟨w3.heap.size, 8, none⟩ = some (.int .u64 258) from cell_new' rfl rfl)
  have x9 := fun o => ((Still.refl _).alloc o).scell (show (w3.alloc (.cells #[.int .i64 6080, .string { data := #[] }, .string { data := #[] }, .string { data := #[] }, .string { data := #[] }, .string { data := #[] }, .int .i64 0, .int .i64 0, .int .u64 258, .bool true, .bool false, .slice A3 m2.ar.len c3] 42)).cell? ⟨w3.heap.size, 9, none⟩ = some (.bool true) from cell_new' rfl rfl)
  have X8 := Kp.mk x8; have X9 := Kp.mk x9; clear x8 x9
  refine (get36 [0, 19, 0, 110] _ 4 4 (fun _ => True) _ rfl (by simp) (by simp) (by simp) (Bs.new (by simp) trivial)).mono ?_
  rintro e w4 ⟨A4, c4, rfl, hs4, ht4⟩
  rw [m4_get.1, m4_get.2]
  have x8 := ht4.scell (X8.out _)
  have x9 := ht4.scell (X9.out _)
  have HT4 := Kp.mk (((HT3.out.alloc _).alloc _).strans ht4)
  have HO14 := Kp.mk (HO13.out.still (((Still.refl _).alloc _).alloc _ |>.strans ht4)); have HO24 := Kp.mk (HO23.out.still (((Still.refl _).alloc _).alloc _ |>.strans ht4)); clear hs4 ht4 HO13 HO23 X8 X9
  go_wp2_with fail
  have y8 := fun o o' => (((Still.refl w4).alloc o).alloc o').scell x8
  have y9 := fun o o' => (((Still.refl w4).alloc o).alloc o').scell x9
  refine (get36 [0, 20] _ 2 2 (fun _ => True) _ rfl (by simp) (by simp) (by simp) (Bs.new (by simp) trivial)).mono ?_
  rintro e w5 ⟨A5, c5, rfl, hs5, ht5⟩
  rw [m5_get.1, m5_get.2]
  have z8 := ht5.scell (y8 _ _)
  have z9 := ht5.scell (y9 _ _)
  have HT5 := Kp.mk (((HT4.out.alloc _).alloc _).strans ht5)
  have HO15 := Kp.mk (HO14.out.still (((Still.refl _).alloc _).alloc _ |>.strans ht5)); have HO25 := Kp.mk (HO24.out.still (((Still.refl _).alloc _).alloc _ |>.strans ht5)); clear hs5 ht5 HO14 HO24 x8 x9 y8 y9
  go_wp2_with fail
  refine (put35 m3 m3_ok (fun _ => True) none 0 _ (Sl.nil _ _ _)).mono ?_
  rintro e w6 ⟨A6, c6, rfl, ho6, ht6⟩
  rw [m3_put.1, m3_put.2]
  have u8 := ht6.scell ((((Still.refl w5).alloc _)).scell z8)
  have u9 := ht6.scell ((((Still.refl w5).alloc _)).scell z9)
  have HT6 := Kp.mk ((HT5.out.alloc _).strans ht6)
  have hcv1 := run_conv (c := c1) (HO15.out.bs.still ((Still.refl _).alloc _ |>.strans ht6)) 4 rfl
  have hcv2 := run_conv (c := c2) (HO25.out.bs.still ((Still.refl _).alloc _ |>.strans ht6)) 13 rfl
  have p1 := ps_list (partsL 6120); have p2 := ps_list (partsL 7)
  rw [p6120] at p1; rw [p7] at p2
  clear ho6 ht6 z8 z9 HO15 HO25
  go_wp2_with fail
  refine (parts33 6120 w6).mono ?_
  rintro e w7 ⟨rfl, rfl⟩
  rw [p6120]
  go_wp2_with fail
  refine (parts33 7 w6).mono ?_
  rintro e w7 ⟨rfl, rfl⟩
  rw [p7]
  go_wp2_with fail
  go_ret
  exact ⟨rfl, HT6.out⟩
end Go.Proofs.Ytaeainkfllfdfaa
