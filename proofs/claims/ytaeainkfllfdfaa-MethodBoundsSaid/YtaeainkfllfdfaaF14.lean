/- The walk of MethodBounds. -/
import Derived.Test.YtaeainkfllfdfaaF12
namespace Go.Proofs.Ytaeainkfllfdfaa
open Go.RowKit
set_option linter.unusedVariables false
set_option linter.unusedSimpArgs false
set_option maxRecDepth 100000

/-- The calls at their bounds (0), and beyond (1). -/
def mB (k n : Nat) : M :=
  match k with
  | 0 => { M.zero with id := 5010, nm := zs (255 + n) }
  | 1 => { M.zero with id := 4010, ty := zs (255 + n) }
  | 2 => { M.zero with id := 6040, ex := zs (255 + n) }
  | 3 => { M.zero with id := 6040, ky := zs (255 + n) }
  | 4 => { M.zero with id := 6021, tx := zs (255 + n) }
  | 5 => { M.zero with id := 2040, co := 65535 + n }
  | _ => { M.zero with id := 6010, cn := 4294967295 + n }
theorem mB_yes : ∀ k : Fin 7, (mB k.val 0).mayB = true ∧ (mB k.val 0).putE = 0 := by decide +kernel
theorem mB_no : ∀ k : Fin 7, (mB k.val 1).mayB = false ∧ (mB k.val 1).putE = 1 ∧ (mB k.val 1).putB = [] := by decide +kernel
theorem nil_mget : mgE [] = 502 ∧ mgM [] = M.zero := by decide +kernel
theorem mB_ok : ∀ (k n : Nat), k < 7 → n ≤ 1 → (mB k n).Ok := by
  intro k n hk hn
  have hz : (zs (255 + n)).size ≤ 140737488351232 := by rw [zs_size]; omega
  obtain ⟨a1, a2, a3, a4, a5, a6, a7, a8, a9, a10, a11, a12, a13, a14, a15⟩ := M.zero_ok
  match k, hk with
  | 0, _ => exact ⟨(by decide : (-9223372036854775808 : Int) ≤ 5010), (by decide : (5010 : Int) ≤ 9223372036854775807), hz, a4, a5, a6, a7, a8, a9, a10, a11, a12, a13, a14, a15⟩
  | 1, _ => exact ⟨(by decide : (-9223372036854775808 : Int) ≤ 4010), (by decide : (4010 : Int) ≤ 9223372036854775807), a3, hz, a5, a6, a7, a8, a9, a10, a11, a12, a13, a14, a15⟩
  | 2, _ => exact ⟨(by decide : (-9223372036854775808 : Int) ≤ 6040), (by decide : (6040 : Int) ≤ 9223372036854775807), a3, a4, hz, a6, a7, a8, a9, a10, a11, a12, a13, a14, a15⟩
  | 3, _ => exact ⟨(by decide : (-9223372036854775808 : Int) ≤ 6040), (by decide : (6040 : Int) ≤ 9223372036854775807), a3, a4, a5, hz, a7, a8, a9, a10, a11, a12, a13, a14, a15⟩
  | 4, _ => exact ⟨(by decide : (-9223372036854775808 : Int) ≤ 6021), (by decide : (6021 : Int) ≤ 9223372036854775807), a3, a4, a5, a6, hz, a8, a9, a10, a11, a12, a13, a14, a15⟩
  | 5, _ => exact ⟨(by decide : (-9223372036854775808 : Int) ≤ 2040), (by decide : (2040 : Int) ≤ 9223372036854775807), a3, a4, a5, a6, a7, (show (-9223372036854775808 : Int) ≤ 65535 + n by omega), (show (65535 + n : Int) ≤ 9223372036854775807 by omega), a10, a11, a12, a13, a14, a15⟩
  | 6, _ => exact ⟨(by decide : (-9223372036854775808 : Int) ≤ 6010), (by decide : (6010 : Int) ≤ 9223372036854775807), a3, a4, a5, a6, a7, a8, a9, (show (-9223372036854775808 : Int) ≤ 4294967295 + n by omega), (show (4294967295 + n : Int) ≤ 9223372036854775807 by omega), a12, a13, a14, a15⟩

set_option maxHeartbeats 8000000 in
theorem bounds14_0_0 (a : Int) (w : World) (hk : wrap64 ((IntKind.u64.wrap a).tmod 7) = 0) : Calls Try.prog 14 #[.int .i64 a, .bool false] w fun e w' => e = .returned (.bool true) ∧ Still w w' := by
  have hmk : ∀ w, (Instr.makeSlice 25 (.int .i64 255) (.int .i64 255)).run Try.prog w = .ok (.slice (some ⟨w.heap.size, 0, none⟩) 255 255) (w.alloc (.cells (madeCells #[.int .u8 0] 255) 5)) := fun w => make25 255 (by decide) w
  have hcv : (convert 25 9 (.slice (some ⟨w.heap.size, 0, none⟩) 255 255)).run Try.prog (w.alloc (.cells (madeCells #[.int .u8 0] 255) 5)) = .ok (.string (zs 255)) (w.alloc (.cells (madeCells #[.int .u8 0] 255) 5)) :=
    run_conv (c := 255) (made_cells w 255 (fun _ => True) trivial) 255 (by simp)
  have HM := Kp.mk (show MAt ((w.alloc (.cells (madeCells #[.int .u8 0] 255) 5)).alloc (.cells #[.int .i64 5010, .string (zs 255), .string { data := #[] }, .string { data := #[] }, .string { data := #[] }, .string { data := #[] }, .int .i64 0, .int .i64 0, .int .u64 0, .bool false, .bool false, .slice none 0 0] 42)) (fun _ => True) (w.heap.size + 1) none 0 (mB 0 0) from by
    have h := MAt.new (w := w.alloc (.cells (madeCells #[.int .u8 0] 255) 5)) (S := fun _ => True) (A := none) (c := 0) (mB 0 0) (Sl.nil _ _ _)
    rw [World.size_alloc] at h
    exact h)
  have HO := Kp.mk (mB_ok 0 0 (by decide) (by decide))
  have HY := Kp.mk (mB_yes ⟨0, by decide⟩)
  have HG := Kp.mk (M.good HO.out HY.out.2)
  go_enter Try.func14, Try.ntmps14
  go_wp2_with fail
  refine (put35 (mB 0 0) HO.out (fun _ => True) none 0 _ (Sl.nil _ _ _)).mono ?_
  rintro e w1 ⟨A1, c1, rfl, ho1, ht1⟩
  rw [HY.out.2]
  rw [HG.out.putB] at ho1 ⊢
  have hc1 := ho1.caps
  have hmx := enc_max HG.out
  have HM1 := Kp.mk (HM.out.still ht1)
  have HT1 := Kp.mk ((((Still.refl w).alloc _).alloc _).strans ht1)
  have HO1 := Kp.mk ho1
  clear ho1 ht1 HM hcv hmk hk
  go_wp2_with fail
  refine (get36n (mB 0 0).enc A1 c1 _ _ w1 rfl (by omega) hc1.1 hc1.2 HO1.out.bs).mono ?_
  rintro e w2 ⟨A2, c2, rfl, hs2, ht2⟩
  rw [HG.out.get.2] at hs2 ⊢
  rw [HG.out.get.1]
  have hx2 := MAt.new (c := c2) (mB 0 0) hs2
  have HT2 := Kp.mk ((HT1.out.strans ht2).alloc ((mB 0 0).obj A2 c2))
  have HM2 := Kp.mk (HM1.out.still (ht2.alloc ((mB 0 0).obj A2 c2)))
  have HX2 := Kp.mk hx2
  clear hs2 ht2 hx2 HM1 HO1
  go_wp2_with fail
  refine (told34 _).mono ?_
  rintro e w3 ⟨rfl, ht3⟩
  have HT3 := Kp.mk (HT2.out.strans ht3)
  have HM3 := Kp.mk (HM2.out.still ht3)
  have HX3 := Kp.mk (HX2.out.still ht3); clear ht3 HM2 HX2
  have q0 := HM3.out.id
  have q1 := HM3.out.nm
  have q2 := HM3.out.ty
  have q3 := HM3.out.ex
  have q4 := HM3.out.ky
  have q5 := HM3.out.tx
  have q6 := HM3.out.co
  have q7 := HM3.out.cn
  have q8 := HM3.out.tg
  have q9 := HM3.out.fl
  have q10 := HM3.out.bk
  have q11 := HM3.out.ar
  go_wp2_with fail
  refine (may32 (mB 0 0) HO.out (fun _ => True) none 0 _ (Sl.nil _ _ _)).mono ?_
  rintro e w4 ⟨rfl, ht4⟩
  rw [HY.out.1]
  have HT4 := Kp.mk (HT3.out.strans ht4)
  have HM4 := Kp.mk (HM3.out.still ht4)
  have HX4 := Kp.mk (HX3.out.still ht4); clear ht4 HM3 HX3 q0 q1 q2 q3 q4 q5 q6 q7 q8 q9 q10 q11
  have q0 := HM4.out.id
  have q1 := HM4.out.nm
  have q2 := HM4.out.ty
  have q3 := HM4.out.ex
  have q4 := HM4.out.ky
  have q5 := HM4.out.tx
  have q6 := HM4.out.co
  have q7 := HM4.out.cn
  have q8 := HM4.out.tg
  have q9 := HM4.out.fl
  have q10 := HM4.out.bk
  have q11 := HM4.out.ar
  have x0 := HX4.out.id
  have x1 := HX4.out.nm
  have x2 := HX4.out.ty
  have x3 := HX4.out.ex
  have x4 := HX4.out.ky
  have x5 := HX4.out.tx
  have x6 := HX4.out.co
  have x7 := HX4.out.cn
  have x8 := HX4.out.tg
  have x9 := HX4.out.fl
  have x10 := HX4.out.bk
  have x11 := HX4.out.ar
  go_wp2_with fail
  refine (same37 (mB 0 0) (mB 0 0) A2 none c2 0 (fun _ => True) _ HO.out HO.out (HX4.out.sl.weak (fun _ _ => trivial)) (Sl.nil _ _ _)).mono ?_
  rintro e w5 ⟨rfl, ht5⟩
  rw [decide_eq_true (rfl : mB 0 0 = mB 0 0)]
  have HT5 := Kp.mk (HT4.out.strans ht5); clear ht5 q0 q1 q2 q3 q4 q5 q6 q7 q8 q9 q10 q11 x0 x1 x2 x3 x4 x5 x6 x7 x8 x9 x10 x11
  go_wp2_with fail
  go_ret
  exact ⟨rfl, HT5.out⟩

set_option maxHeartbeats 8000000 in
theorem bounds14_0_1 (a : Int) (w : World) (hk : wrap64 ((IntKind.u64.wrap a).tmod 7) = 0) : Calls Try.prog 14 #[.int .i64 a, .bool true] w fun e w' => e = .returned (.bool true) ∧ Still w w' := by
  have hmk : ∀ w, (Instr.makeSlice 25 (.int .i64 256) (.int .i64 256)).run Try.prog w = .ok (.slice (some ⟨w.heap.size, 0, none⟩) 256 256) (w.alloc (.cells (madeCells #[.int .u8 0] 256) 5)) := fun w => make25 256 (by decide) w
  have hcv : (convert 25 9 (.slice (some ⟨w.heap.size, 0, none⟩) 256 256)).run Try.prog (w.alloc (.cells (madeCells #[.int .u8 0] 256) 5)) = .ok (.string (zs 256)) (w.alloc (.cells (madeCells #[.int .u8 0] 256) 5)) :=
    run_conv (c := 256) (made_cells w 256 (fun _ => True) trivial) 256 (by simp)
  have HM := Kp.mk (show MAt ((w.alloc (.cells (madeCells #[.int .u8 0] 256) 5)).alloc (.cells #[.int .i64 5010, .string (zs 256), .string { data := #[] }, .string { data := #[] }, .string { data := #[] }, .string { data := #[] }, .int .i64 0, .int .i64 0, .int .u64 0, .bool false, .bool false, .slice none 0 0] 42)) (fun _ => True) (w.heap.size + 1) none 0 (mB 0 1) from by
    have h := MAt.new (w := w.alloc (.cells (madeCells #[.int .u8 0] 256) 5)) (S := fun _ => True) (A := none) (c := 0) (mB 0 1) (Sl.nil _ _ _)
    rw [World.size_alloc] at h
    exact h)
  have HO := Kp.mk (mB_ok 0 1 (by decide) (by decide))
  have HY := Kp.mk (mB_no ⟨0, by decide⟩)
  go_enter Try.func14, Try.ntmps14
  go_wp2_with fail
  refine (put35 (mB 0 1) HO.out (fun _ => True) none 0 _ (Sl.nil _ _ _)).mono ?_
  rintro e w1 ⟨A1, c1, rfl, ho1, ht1⟩
  rw [HY.out.2.1]
  rw [HY.out.2.2] at ho1 ⊢
  have hc1 := ho1.caps
  have HM1 := Kp.mk (HM.out.still ht1)
  have HT1 := Kp.mk ((((Still.refl w).alloc _).alloc _).strans ht1)
  clear ho1 ht1 HM hcv hmk hk
  go_wp2_with fail
  refine (get36n [] A1 c1 _ (fun _ => True) w1 rfl (by simp) hc1.1 hc1.2 (Bs.nil _ _ _)).mono ?_
  rintro e w2 ⟨A2, c2, rfl, hs2, ht2⟩
  rw [nil_mget.2] at hs2 ⊢
  rw [nil_mget.1]
  have HT2 := Kp.mk ((HT1.out.strans ht2).alloc (M.zero.obj A2 c2))
  have HM2 := Kp.mk (HM1.out.still (ht2.alloc (M.zero.obj A2 c2)))
  clear hs2 ht2 HM1
  go_wp2_with fail
  refine (told34 _).mono ?_
  rintro e w3 ⟨rfl, ht3⟩
  have HT3 := Kp.mk (HT2.out.strans ht3)
  have HM3 := Kp.mk (HM2.out.still ht3); clear ht3 HM2
  have q0 := HM3.out.id
  have q1 := HM3.out.nm
  have q2 := HM3.out.ty
  have q3 := HM3.out.ex
  have q4 := HM3.out.ky
  have q5 := HM3.out.tx
  have q6 := HM3.out.co
  have q7 := HM3.out.cn
  have q8 := HM3.out.tg
  have q9 := HM3.out.fl
  have q10 := HM3.out.bk
  have q11 := HM3.out.ar
  go_wp2_with fail
  refine (may32 (mB 0 1) HO.out (fun _ => True) none 0 _ (Sl.nil _ _ _)).mono ?_
  rintro e w4 ⟨rfl, ht4⟩
  rw [HY.out.1]
  have HT4 := Kp.mk (HT3.out.strans ht4); clear ht4 q0 q1 q2 q3 q4 q5 q6 q7 q8 q9 q10 q11
  go_wp2_with fail
  go_ret
  exact ⟨rfl, HT4.out⟩

set_option maxHeartbeats 8000000 in
theorem bounds14_1_0 (a : Int) (w : World) (hk : wrap64 ((IntKind.u64.wrap a).tmod 7) = 1) : Calls Try.prog 14 #[.int .i64 a, .bool false] w fun e w' => e = .returned (.bool true) ∧ Still w w' := by
  have hmk : ∀ w, (Instr.makeSlice 25 (.int .i64 255) (.int .i64 255)).run Try.prog w = .ok (.slice (some ⟨w.heap.size, 0, none⟩) 255 255) (w.alloc (.cells (madeCells #[.int .u8 0] 255) 5)) := fun w => make25 255 (by decide) w
  have hcv : (convert 25 9 (.slice (some ⟨w.heap.size, 0, none⟩) 255 255)).run Try.prog (w.alloc (.cells (madeCells #[.int .u8 0] 255) 5)) = .ok (.string (zs 255)) (w.alloc (.cells (madeCells #[.int .u8 0] 255) 5)) :=
    run_conv (c := 255) (made_cells w 255 (fun _ => True) trivial) 255 (by simp)
  have HM := Kp.mk (show MAt ((w.alloc (.cells (madeCells #[.int .u8 0] 255) 5)).alloc (.cells #[.int .i64 4010, .string { data := #[] }, .string (zs 255), .string { data := #[] }, .string { data := #[] }, .string { data := #[] }, .int .i64 0, .int .i64 0, .int .u64 0, .bool false, .bool false, .slice none 0 0] 42)) (fun _ => True) (w.heap.size + 1) none 0 (mB 1 0) from by
    have h := MAt.new (w := w.alloc (.cells (madeCells #[.int .u8 0] 255) 5)) (S := fun _ => True) (A := none) (c := 0) (mB 1 0) (Sl.nil _ _ _)
    rw [World.size_alloc] at h
    exact h)
  have HO := Kp.mk (mB_ok 1 0 (by decide) (by decide))
  have HY := Kp.mk (mB_yes ⟨1, by decide⟩)
  have HG := Kp.mk (M.good HO.out HY.out.2)
  go_enter Try.func14, Try.ntmps14
  go_wp2_with fail
  refine (put35 (mB 1 0) HO.out (fun _ => True) none 0 _ (Sl.nil _ _ _)).mono ?_
  rintro e w1 ⟨A1, c1, rfl, ho1, ht1⟩
  rw [HY.out.2]
  rw [HG.out.putB] at ho1 ⊢
  have hc1 := ho1.caps
  have hmx := enc_max HG.out
  have HM1 := Kp.mk (HM.out.still ht1)
  have HT1 := Kp.mk ((((Still.refl w).alloc _).alloc _).strans ht1)
  have HO1 := Kp.mk ho1
  clear ho1 ht1 HM hcv hmk hk
  go_wp2_with fail
  refine (get36n (mB 1 0).enc A1 c1 _ _ w1 rfl (by omega) hc1.1 hc1.2 HO1.out.bs).mono ?_
  rintro e w2 ⟨A2, c2, rfl, hs2, ht2⟩
  rw [HG.out.get.2] at hs2 ⊢
  rw [HG.out.get.1]
  have hx2 := MAt.new (c := c2) (mB 1 0) hs2
  have HT2 := Kp.mk ((HT1.out.strans ht2).alloc ((mB 1 0).obj A2 c2))
  have HM2 := Kp.mk (HM1.out.still (ht2.alloc ((mB 1 0).obj A2 c2)))
  have HX2 := Kp.mk hx2
  clear hs2 ht2 hx2 HM1 HO1
  go_wp2_with fail
  refine (told34 _).mono ?_
  rintro e w3 ⟨rfl, ht3⟩
  have HT3 := Kp.mk (HT2.out.strans ht3)
  have HM3 := Kp.mk (HM2.out.still ht3)
  have HX3 := Kp.mk (HX2.out.still ht3); clear ht3 HM2 HX2
  have q0 := HM3.out.id
  have q1 := HM3.out.nm
  have q2 := HM3.out.ty
  have q3 := HM3.out.ex
  have q4 := HM3.out.ky
  have q5 := HM3.out.tx
  have q6 := HM3.out.co
  have q7 := HM3.out.cn
  have q8 := HM3.out.tg
  have q9 := HM3.out.fl
  have q10 := HM3.out.bk
  have q11 := HM3.out.ar
  go_wp2_with fail
  refine (may32 (mB 1 0) HO.out (fun _ => True) none 0 _ (Sl.nil _ _ _)).mono ?_
  rintro e w4 ⟨rfl, ht4⟩
  rw [HY.out.1]
  have HT4 := Kp.mk (HT3.out.strans ht4)
  have HM4 := Kp.mk (HM3.out.still ht4)
  have HX4 := Kp.mk (HX3.out.still ht4); clear ht4 HM3 HX3 q0 q1 q2 q3 q4 q5 q6 q7 q8 q9 q10 q11
  have q0 := HM4.out.id
  have q1 := HM4.out.nm
  have q2 := HM4.out.ty
  have q3 := HM4.out.ex
  have q4 := HM4.out.ky
  have q5 := HM4.out.tx
  have q6 := HM4.out.co
  have q7 := HM4.out.cn
  have q8 := HM4.out.tg
  have q9 := HM4.out.fl
  have q10 := HM4.out.bk
  have q11 := HM4.out.ar
  have x0 := HX4.out.id
  have x1 := HX4.out.nm
  have x2 := HX4.out.ty
  have x3 := HX4.out.ex
  have x4 := HX4.out.ky
  have x5 := HX4.out.tx
  have x6 := HX4.out.co
  have x7 := HX4.out.cn
  have x8 := HX4.out.tg
  have x9 := HX4.out.fl
  have x10 := HX4.out.bk
  have x11 := HX4.out.ar
  go_wp2_with fail
  refine (same37 (mB 1 0) (mB 1 0) A2 none c2 0 (fun _ => True) _ HO.out HO.out (HX4.out.sl.weak (fun _ _ => trivial)) (Sl.nil _ _ _)).mono ?_
  rintro e w5 ⟨rfl, ht5⟩
  rw [decide_eq_true (rfl : mB 1 0 = mB 1 0)]
  have HT5 := Kp.mk (HT4.out.strans ht5); clear ht5 q0 q1 q2 q3 q4 q5 q6 q7 q8 q9 q10 q11 x0 x1 x2 x3 x4 x5 x6 x7 x8 x9 x10 x11
  go_wp2_with fail
  go_ret
  exact ⟨rfl, HT5.out⟩

set_option maxHeartbeats 8000000 in
theorem bounds14_1_1 (a : Int) (w : World) (hk : wrap64 ((IntKind.u64.wrap a).tmod 7) = 1) : Calls Try.prog 14 #[.int .i64 a, .bool true] w fun e w' => e = .returned (.bool true) ∧ Still w w' := by
  have hmk : ∀ w, (Instr.makeSlice 25 (.int .i64 256) (.int .i64 256)).run Try.prog w = .ok (.slice (some ⟨w.heap.size, 0, none⟩) 256 256) (w.alloc (.cells (madeCells #[.int .u8 0] 256) 5)) := fun w => make25 256 (by decide) w
  have hcv : (convert 25 9 (.slice (some ⟨w.heap.size, 0, none⟩) 256 256)).run Try.prog (w.alloc (.cells (madeCells #[.int .u8 0] 256) 5)) = .ok (.string (zs 256)) (w.alloc (.cells (madeCells #[.int .u8 0] 256) 5)) :=
    run_conv (c := 256) (made_cells w 256 (fun _ => True) trivial) 256 (by simp)
  have HM := Kp.mk (show MAt ((w.alloc (.cells (madeCells #[.int .u8 0] 256) 5)).alloc (.cells #[.int .i64 4010, .string { data := #[] }, .string (zs 256), .string { data := #[] }, .string { data := #[] }, .string { data := #[] }, .int .i64 0, .int .i64 0, .int .u64 0, .bool false, .bool false, .slice none 0 0] 42)) (fun _ => True) (w.heap.size + 1) none 0 (mB 1 1) from by
    have h := MAt.new (w := w.alloc (.cells (madeCells #[.int .u8 0] 256) 5)) (S := fun _ => True) (A := none) (c := 0) (mB 1 1) (Sl.nil _ _ _)
    rw [World.size_alloc] at h
    exact h)
  have HO := Kp.mk (mB_ok 1 1 (by decide) (by decide))
  have HY := Kp.mk (mB_no ⟨1, by decide⟩)
  go_enter Try.func14, Try.ntmps14
  go_wp2_with fail
  refine (put35 (mB 1 1) HO.out (fun _ => True) none 0 _ (Sl.nil _ _ _)).mono ?_
  rintro e w1 ⟨A1, c1, rfl, ho1, ht1⟩
  rw [HY.out.2.1]
  rw [HY.out.2.2] at ho1 ⊢
  have hc1 := ho1.caps
  have HM1 := Kp.mk (HM.out.still ht1)
  have HT1 := Kp.mk ((((Still.refl w).alloc _).alloc _).strans ht1)
  clear ho1 ht1 HM hcv hmk hk
  go_wp2_with fail
  refine (get36n [] A1 c1 _ (fun _ => True) w1 rfl (by simp) hc1.1 hc1.2 (Bs.nil _ _ _)).mono ?_
  rintro e w2 ⟨A2, c2, rfl, hs2, ht2⟩
  rw [nil_mget.2] at hs2 ⊢
  rw [nil_mget.1]
  have HT2 := Kp.mk ((HT1.out.strans ht2).alloc (M.zero.obj A2 c2))
  have HM2 := Kp.mk (HM1.out.still (ht2.alloc (M.zero.obj A2 c2)))
  clear hs2 ht2 HM1
  go_wp2_with fail
  refine (told34 _).mono ?_
  rintro e w3 ⟨rfl, ht3⟩
  have HT3 := Kp.mk (HT2.out.strans ht3)
  have HM3 := Kp.mk (HM2.out.still ht3); clear ht3 HM2
  have q0 := HM3.out.id
  have q1 := HM3.out.nm
  have q2 := HM3.out.ty
  have q3 := HM3.out.ex
  have q4 := HM3.out.ky
  have q5 := HM3.out.tx
  have q6 := HM3.out.co
  have q7 := HM3.out.cn
  have q8 := HM3.out.tg
  have q9 := HM3.out.fl
  have q10 := HM3.out.bk
  have q11 := HM3.out.ar
  go_wp2_with fail
  refine (may32 (mB 1 1) HO.out (fun _ => True) none 0 _ (Sl.nil _ _ _)).mono ?_
  rintro e w4 ⟨rfl, ht4⟩
  rw [HY.out.1]
  have HT4 := Kp.mk (HT3.out.strans ht4); clear ht4 q0 q1 q2 q3 q4 q5 q6 q7 q8 q9 q10 q11
  go_wp2_with fail
  go_ret
  exact ⟨rfl, HT4.out⟩

set_option maxHeartbeats 8000000 in
theorem bounds14_2_0 (a : Int) (w : World) (hk : wrap64 ((IntKind.u64.wrap a).tmod 7) = 2) : Calls Try.prog 14 #[.int .i64 a, .bool false] w fun e w' => e = .returned (.bool true) ∧ Still w w' := by
  have hmk : ∀ w, (Instr.makeSlice 25 (.int .i64 255) (.int .i64 255)).run Try.prog w = .ok (.slice (some ⟨w.heap.size, 0, none⟩) 255 255) (w.alloc (.cells (madeCells #[.int .u8 0] 255) 5)) := fun w => make25 255 (by decide) w
  have hcv : (convert 25 9 (.slice (some ⟨w.heap.size, 0, none⟩) 255 255)).run Try.prog (w.alloc (.cells (madeCells #[.int .u8 0] 255) 5)) = .ok (.string (zs 255)) (w.alloc (.cells (madeCells #[.int .u8 0] 255) 5)) :=
    run_conv (c := 255) (made_cells w 255 (fun _ => True) trivial) 255 (by simp)
  have HM := Kp.mk (show MAt ((w.alloc (.cells (madeCells #[.int .u8 0] 255) 5)).alloc (.cells #[.int .i64 6040, .string { data := #[] }, .string { data := #[] }, .string (zs 255), .string { data := #[] }, .string { data := #[] }, .int .i64 0, .int .i64 0, .int .u64 0, .bool false, .bool false, .slice none 0 0] 42)) (fun _ => True) (w.heap.size + 1) none 0 (mB 2 0) from by
    have h := MAt.new (w := w.alloc (.cells (madeCells #[.int .u8 0] 255) 5)) (S := fun _ => True) (A := none) (c := 0) (mB 2 0) (Sl.nil _ _ _)
    rw [World.size_alloc] at h
    exact h)
  have HO := Kp.mk (mB_ok 2 0 (by decide) (by decide))
  have HY := Kp.mk (mB_yes ⟨2, by decide⟩)
  have HG := Kp.mk (M.good HO.out HY.out.2)
  go_enter Try.func14, Try.ntmps14
  go_wp2_with fail
  refine (put35 (mB 2 0) HO.out (fun _ => True) none 0 _ (Sl.nil _ _ _)).mono ?_
  rintro e w1 ⟨A1, c1, rfl, ho1, ht1⟩
  rw [HY.out.2]
  rw [HG.out.putB] at ho1 ⊢
  have hc1 := ho1.caps
  have hmx := enc_max HG.out
  have HM1 := Kp.mk (HM.out.still ht1)
  have HT1 := Kp.mk ((((Still.refl w).alloc _).alloc _).strans ht1)
  have HO1 := Kp.mk ho1
  clear ho1 ht1 HM hcv hmk hk
  go_wp2_with fail
  refine (get36n (mB 2 0).enc A1 c1 _ _ w1 rfl (by omega) hc1.1 hc1.2 HO1.out.bs).mono ?_
  rintro e w2 ⟨A2, c2, rfl, hs2, ht2⟩
  rw [HG.out.get.2] at hs2 ⊢
  rw [HG.out.get.1]
  have hx2 := MAt.new (c := c2) (mB 2 0) hs2
  have HT2 := Kp.mk ((HT1.out.strans ht2).alloc ((mB 2 0).obj A2 c2))
  have HM2 := Kp.mk (HM1.out.still (ht2.alloc ((mB 2 0).obj A2 c2)))
  have HX2 := Kp.mk hx2
  clear hs2 ht2 hx2 HM1 HO1
  go_wp2_with fail
  refine (told34 _).mono ?_
  rintro e w3 ⟨rfl, ht3⟩
  have HT3 := Kp.mk (HT2.out.strans ht3)
  have HM3 := Kp.mk (HM2.out.still ht3)
  have HX3 := Kp.mk (HX2.out.still ht3); clear ht3 HM2 HX2
  have q0 := HM3.out.id
  have q1 := HM3.out.nm
  have q2 := HM3.out.ty
  have q3 := HM3.out.ex
  have q4 := HM3.out.ky
  have q5 := HM3.out.tx
  have q6 := HM3.out.co
  have q7 := HM3.out.cn
  have q8 := HM3.out.tg
  have q9 := HM3.out.fl
  have q10 := HM3.out.bk
  have q11 := HM3.out.ar
  go_wp2_with fail
  refine (may32 (mB 2 0) HO.out (fun _ => True) none 0 _ (Sl.nil _ _ _)).mono ?_
  rintro e w4 ⟨rfl, ht4⟩
  rw [HY.out.1]
  have HT4 := Kp.mk (HT3.out.strans ht4)
  have HM4 := Kp.mk (HM3.out.still ht4)
  have HX4 := Kp.mk (HX3.out.still ht4); clear ht4 HM3 HX3 q0 q1 q2 q3 q4 q5 q6 q7 q8 q9 q10 q11
  have q0 := HM4.out.id
  have q1 := HM4.out.nm
  have q2 := HM4.out.ty
  have q3 := HM4.out.ex
  have q4 := HM4.out.ky
  have q5 := HM4.out.tx
  have q6 := HM4.out.co
  have q7 := HM4.out.cn
  have q8 := HM4.out.tg
  have q9 := HM4.out.fl
  have q10 := HM4.out.bk
  have q11 := HM4.out.ar
  have x0 := HX4.out.id
  have x1 := HX4.out.nm
  have x2 := HX4.out.ty
  have x3 := HX4.out.ex
  have x4 := HX4.out.ky
  have x5 := HX4.out.tx
  have x6 := HX4.out.co
  have x7 := HX4.out.cn
  have x8 := HX4.out.tg
  have x9 := HX4.out.fl
  have x10 := HX4.out.bk
  have x11 := HX4.out.ar
  go_wp2_with fail
  refine (same37 (mB 2 0) (mB 2 0) A2 none c2 0 (fun _ => True) _ HO.out HO.out (HX4.out.sl.weak (fun _ _ => trivial)) (Sl.nil _ _ _)).mono ?_
  rintro e w5 ⟨rfl, ht5⟩
  rw [decide_eq_true (rfl : mB 2 0 = mB 2 0)]
  have HT5 := Kp.mk (HT4.out.strans ht5); clear ht5 q0 q1 q2 q3 q4 q5 q6 q7 q8 q9 q10 q11 x0 x1 x2 x3 x4 x5 x6 x7 x8 x9 x10 x11
  go_wp2_with fail
  go_ret
  exact ⟨rfl, HT5.out⟩

set_option maxHeartbeats 8000000 in
theorem bounds14_2_1 (a : Int) (w : World) (hk : wrap64 ((IntKind.u64.wrap a).tmod 7) = 2) : Calls Try.prog 14 #[.int .i64 a, .bool true] w fun e w' => e = .returned (.bool true) ∧ Still w w' := by
  have hmk : ∀ w, (Instr.makeSlice 25 (.int .i64 256) (.int .i64 256)).run Try.prog w = .ok (.slice (some ⟨w.heap.size, 0, none⟩) 256 256) (w.alloc (.cells (madeCells #[.int .u8 0] 256) 5)) := fun w => make25 256 (by decide) w
  have hcv : (convert 25 9 (.slice (some ⟨w.heap.size, 0, none⟩) 256 256)).run Try.prog (w.alloc (.cells (madeCells #[.int .u8 0] 256) 5)) = .ok (.string (zs 256)) (w.alloc (.cells (madeCells #[.int .u8 0] 256) 5)) :=
    run_conv (c := 256) (made_cells w 256 (fun _ => True) trivial) 256 (by simp)
  have HM := Kp.mk (show MAt ((w.alloc (.cells (madeCells #[.int .u8 0] 256) 5)).alloc (.cells #[.int .i64 6040, .string { data := #[] }, .string { data := #[] }, .string (zs 256), .string { data := #[] }, .string { data := #[] }, .int .i64 0, .int .i64 0, .int .u64 0, .bool false, .bool false, .slice none 0 0] 42)) (fun _ => True) (w.heap.size + 1) none 0 (mB 2 1) from by
    have h := MAt.new (w := w.alloc (.cells (madeCells #[.int .u8 0] 256) 5)) (S := fun _ => True) (A := none) (c := 0) (mB 2 1) (Sl.nil _ _ _)
    rw [World.size_alloc] at h
    exact h)
  have HO := Kp.mk (mB_ok 2 1 (by decide) (by decide))
  have HY := Kp.mk (mB_no ⟨2, by decide⟩)
  go_enter Try.func14, Try.ntmps14
  go_wp2_with fail
  refine (put35 (mB 2 1) HO.out (fun _ => True) none 0 _ (Sl.nil _ _ _)).mono ?_
  rintro e w1 ⟨A1, c1, rfl, ho1, ht1⟩
  rw [HY.out.2.1]
  rw [HY.out.2.2] at ho1 ⊢
  have hc1 := ho1.caps
  have HM1 := Kp.mk (HM.out.still ht1)
  have HT1 := Kp.mk ((((Still.refl w).alloc _).alloc _).strans ht1)
  clear ho1 ht1 HM hcv hmk hk
  go_wp2_with fail
  refine (get36n [] A1 c1 _ (fun _ => True) w1 rfl (by simp) hc1.1 hc1.2 (Bs.nil _ _ _)).mono ?_
  rintro e w2 ⟨A2, c2, rfl, hs2, ht2⟩
  rw [nil_mget.2] at hs2 ⊢
  rw [nil_mget.1]
  have HT2 := Kp.mk ((HT1.out.strans ht2).alloc (M.zero.obj A2 c2))
  have HM2 := Kp.mk (HM1.out.still (ht2.alloc (M.zero.obj A2 c2)))
  clear hs2 ht2 HM1
  go_wp2_with fail
  refine (told34 _).mono ?_
  rintro e w3 ⟨rfl, ht3⟩
  have HT3 := Kp.mk (HT2.out.strans ht3)
  have HM3 := Kp.mk (HM2.out.still ht3); clear ht3 HM2
  have q0 := HM3.out.id
  have q1 := HM3.out.nm
  have q2 := HM3.out.ty
  have q3 := HM3.out.ex
  have q4 := HM3.out.ky
  have q5 := HM3.out.tx
  have q6 := HM3.out.co
  have q7 := HM3.out.cn
  have q8 := HM3.out.tg
  have q9 := HM3.out.fl
  have q10 := HM3.out.bk
  have q11 := HM3.out.ar
  go_wp2_with fail
  refine (may32 (mB 2 1) HO.out (fun _ => True) none 0 _ (Sl.nil _ _ _)).mono ?_
  rintro e w4 ⟨rfl, ht4⟩
  rw [HY.out.1]
  have HT4 := Kp.mk (HT3.out.strans ht4); clear ht4 q0 q1 q2 q3 q4 q5 q6 q7 q8 q9 q10 q11
  go_wp2_with fail
  go_ret
  exact ⟨rfl, HT4.out⟩

set_option maxHeartbeats 8000000 in
theorem bounds14_3_0 (a : Int) (w : World) (hk : wrap64 ((IntKind.u64.wrap a).tmod 7) = 3) : Calls Try.prog 14 #[.int .i64 a, .bool false] w fun e w' => e = .returned (.bool true) ∧ Still w w' := by
  have hmk : ∀ w, (Instr.makeSlice 25 (.int .i64 255) (.int .i64 255)).run Try.prog w = .ok (.slice (some ⟨w.heap.size, 0, none⟩) 255 255) (w.alloc (.cells (madeCells #[.int .u8 0] 255) 5)) := fun w => make25 255 (by decide) w
  have hcv : (convert 25 9 (.slice (some ⟨w.heap.size, 0, none⟩) 255 255)).run Try.prog (w.alloc (.cells (madeCells #[.int .u8 0] 255) 5)) = .ok (.string (zs 255)) (w.alloc (.cells (madeCells #[.int .u8 0] 255) 5)) :=
    run_conv (c := 255) (made_cells w 255 (fun _ => True) trivial) 255 (by simp)
  have HM := Kp.mk (show MAt ((w.alloc (.cells (madeCells #[.int .u8 0] 255) 5)).alloc (.cells #[.int .i64 6040, .string { data := #[] }, .string { data := #[] }, .string { data := #[] }, .string (zs 255), .string { data := #[] }, .int .i64 0, .int .i64 0, .int .u64 0, .bool false, .bool false, .slice none 0 0] 42)) (fun _ => True) (w.heap.size + 1) none 0 (mB 3 0) from by
    have h := MAt.new (w := w.alloc (.cells (madeCells #[.int .u8 0] 255) 5)) (S := fun _ => True) (A := none) (c := 0) (mB 3 0) (Sl.nil _ _ _)
    rw [World.size_alloc] at h
    exact h)
  have HO := Kp.mk (mB_ok 3 0 (by decide) (by decide))
  have HY := Kp.mk (mB_yes ⟨3, by decide⟩)
  have HG := Kp.mk (M.good HO.out HY.out.2)
  go_enter Try.func14, Try.ntmps14
  go_wp2_with fail
  refine (put35 (mB 3 0) HO.out (fun _ => True) none 0 _ (Sl.nil _ _ _)).mono ?_
  rintro e w1 ⟨A1, c1, rfl, ho1, ht1⟩
  rw [HY.out.2]
  rw [HG.out.putB] at ho1 ⊢
  have hc1 := ho1.caps
  have hmx := enc_max HG.out
  have HM1 := Kp.mk (HM.out.still ht1)
  have HT1 := Kp.mk ((((Still.refl w).alloc _).alloc _).strans ht1)
  have HO1 := Kp.mk ho1
  clear ho1 ht1 HM hcv hmk hk
  go_wp2_with fail
  refine (get36n (mB 3 0).enc A1 c1 _ _ w1 rfl (by omega) hc1.1 hc1.2 HO1.out.bs).mono ?_
  rintro e w2 ⟨A2, c2, rfl, hs2, ht2⟩
  rw [HG.out.get.2] at hs2 ⊢
  rw [HG.out.get.1]
  have hx2 := MAt.new (c := c2) (mB 3 0) hs2
  have HT2 := Kp.mk ((HT1.out.strans ht2).alloc ((mB 3 0).obj A2 c2))
  have HM2 := Kp.mk (HM1.out.still (ht2.alloc ((mB 3 0).obj A2 c2)))
  have HX2 := Kp.mk hx2
  clear hs2 ht2 hx2 HM1 HO1
  go_wp2_with fail
  refine (told34 _).mono ?_
  rintro e w3 ⟨rfl, ht3⟩
  have HT3 := Kp.mk (HT2.out.strans ht3)
  have HM3 := Kp.mk (HM2.out.still ht3)
  have HX3 := Kp.mk (HX2.out.still ht3); clear ht3 HM2 HX2
  have q0 := HM3.out.id
  have q1 := HM3.out.nm
  have q2 := HM3.out.ty
  have q3 := HM3.out.ex
  have q4 := HM3.out.ky
  have q5 := HM3.out.tx
  have q6 := HM3.out.co
  have q7 := HM3.out.cn
  have q8 := HM3.out.tg
  have q9 := HM3.out.fl
  have q10 := HM3.out.bk
  have q11 := HM3.out.ar
  go_wp2_with fail
  refine (may32 (mB 3 0) HO.out (fun _ => True) none 0 _ (Sl.nil _ _ _)).mono ?_
  rintro e w4 ⟨rfl, ht4⟩
  rw [HY.out.1]
  have HT4 := Kp.mk (HT3.out.strans ht4)
  have HM4 := Kp.mk (HM3.out.still ht4)
  have HX4 := Kp.mk (HX3.out.still ht4); clear ht4 HM3 HX3 q0 q1 q2 q3 q4 q5 q6 q7 q8 q9 q10 q11
  have q0 := HM4.out.id
  have q1 := HM4.out.nm
  have q2 := HM4.out.ty
  have q3 := HM4.out.ex
  have q4 := HM4.out.ky
  have q5 := HM4.out.tx
  have q6 := HM4.out.co
  have q7 := HM4.out.cn
  have q8 := HM4.out.tg
  have q9 := HM4.out.fl
  have q10 := HM4.out.bk
  have q11 := HM4.out.ar
  have x0 := HX4.out.id
  have x1 := HX4.out.nm
  have x2 := HX4.out.ty
  have x3 := HX4.out.ex
  have x4 := HX4.out.ky
  have x5 := HX4.out.tx
  have x6 := HX4.out.co
  have x7 := HX4.out.cn
  have x8 := HX4.out.tg
  have x9 := HX4.out.fl
  have x10 := HX4.out.bk
  have x11 := HX4.out.ar
  go_wp2_with fail
  refine (same37 (mB 3 0) (mB 3 0) A2 none c2 0 (fun _ => True) _ HO.out HO.out (HX4.out.sl.weak (fun _ _ => trivial)) (Sl.nil _ _ _)).mono ?_
  rintro e w5 ⟨rfl, ht5⟩
  rw [decide_eq_true (rfl : mB 3 0 = mB 3 0)]
  have HT5 := Kp.mk (HT4.out.strans ht5); clear ht5 q0 q1 q2 q3 q4 q5 q6 q7 q8 q9 q10 q11 x0 x1 x2 x3 x4 x5 x6 x7 x8 x9 x10 x11
  go_wp2_with fail
  go_ret
  exact ⟨rfl, HT5.out⟩

set_option maxHeartbeats 8000000 in
theorem bounds14_3_1 (a : Int) (w : World) (hk : wrap64 ((IntKind.u64.wrap a).tmod 7) = 3) : Calls Try.prog 14 #[.int .i64 a, .bool true] w fun e w' => e = .returned (.bool true) ∧ Still w w' := by
  have hmk : ∀ w, (Instr.makeSlice 25 (.int .i64 256) (.int .i64 256)).run Try.prog w = .ok (.slice (some ⟨w.heap.size, 0, none⟩) 256 256) (w.alloc (.cells (madeCells #[.int .u8 0] 256) 5)) := fun w => make25 256 (by decide) w
  have hcv : (convert 25 9 (.slice (some ⟨w.heap.size, 0, none⟩) 256 256)).run Try.prog (w.alloc (.cells (madeCells #[.int .u8 0] 256) 5)) = .ok (.string (zs 256)) (w.alloc (.cells (madeCells #[.int .u8 0] 256) 5)) :=
    run_conv (c := 256) (made_cells w 256 (fun _ => True) trivial) 256 (by simp)
  have HM := Kp.mk (show MAt ((w.alloc (.cells (madeCells #[.int .u8 0] 256) 5)).alloc (.cells #[.int .i64 6040, .string { data := #[] }, .string { data := #[] }, .string { data := #[] }, .string (zs 256), .string { data := #[] }, .int .i64 0, .int .i64 0, .int .u64 0, .bool false, .bool false, .slice none 0 0] 42)) (fun _ => True) (w.heap.size + 1) none 0 (mB 3 1) from by
    have h := MAt.new (w := w.alloc (.cells (madeCells #[.int .u8 0] 256) 5)) (S := fun _ => True) (A := none) (c := 0) (mB 3 1) (Sl.nil _ _ _)
    rw [World.size_alloc] at h
    exact h)
  have HO := Kp.mk (mB_ok 3 1 (by decide) (by decide))
  have HY := Kp.mk (mB_no ⟨3, by decide⟩)
  go_enter Try.func14, Try.ntmps14
  go_wp2_with fail
  refine (put35 (mB 3 1) HO.out (fun _ => True) none 0 _ (Sl.nil _ _ _)).mono ?_
  rintro e w1 ⟨A1, c1, rfl, ho1, ht1⟩
  rw [HY.out.2.1]
  rw [HY.out.2.2] at ho1 ⊢
  have hc1 := ho1.caps
  have HM1 := Kp.mk (HM.out.still ht1)
  have HT1 := Kp.mk ((((Still.refl w).alloc _).alloc _).strans ht1)
  clear ho1 ht1 HM hcv hmk hk
  go_wp2_with fail
  refine (get36n [] A1 c1 _ (fun _ => True) w1 rfl (by simp) hc1.1 hc1.2 (Bs.nil _ _ _)).mono ?_
  rintro e w2 ⟨A2, c2, rfl, hs2, ht2⟩
  rw [nil_mget.2] at hs2 ⊢
  rw [nil_mget.1]
  have HT2 := Kp.mk ((HT1.out.strans ht2).alloc (M.zero.obj A2 c2))
  have HM2 := Kp.mk (HM1.out.still (ht2.alloc (M.zero.obj A2 c2)))
  clear hs2 ht2 HM1
  go_wp2_with fail
  refine (told34 _).mono ?_
  rintro e w3 ⟨rfl, ht3⟩
  have HT3 := Kp.mk (HT2.out.strans ht3)
  have HM3 := Kp.mk (HM2.out.still ht3); clear ht3 HM2
  have q0 := HM3.out.id
  have q1 := HM3.out.nm
  have q2 := HM3.out.ty
  have q3 := HM3.out.ex
  have q4 := HM3.out.ky
  have q5 := HM3.out.tx
  have q6 := HM3.out.co
  have q7 := HM3.out.cn
  have q8 := HM3.out.tg
  have q9 := HM3.out.fl
  have q10 := HM3.out.bk
  have q11 := HM3.out.ar
  go_wp2_with fail
  refine (may32 (mB 3 1) HO.out (fun _ => True) none 0 _ (Sl.nil _ _ _)).mono ?_
  rintro e w4 ⟨rfl, ht4⟩
  rw [HY.out.1]
  have HT4 := Kp.mk (HT3.out.strans ht4); clear ht4 q0 q1 q2 q3 q4 q5 q6 q7 q8 q9 q10 q11
  go_wp2_with fail
  go_ret
  exact ⟨rfl, HT4.out⟩

set_option maxHeartbeats 8000000 in
theorem bounds14_4_0 (a : Int) (w : World) (hk : wrap64 ((IntKind.u64.wrap a).tmod 7) = 4) : Calls Try.prog 14 #[.int .i64 a, .bool false] w fun e w' => e = .returned (.bool true) ∧ Still w w' := by
  have hmk : ∀ w, (Instr.makeSlice 25 (.int .i64 255) (.int .i64 255)).run Try.prog w = .ok (.slice (some ⟨w.heap.size, 0, none⟩) 255 255) (w.alloc (.cells (madeCells #[.int .u8 0] 255) 5)) := fun w => make25 255 (by decide) w
  have hcv : (convert 25 9 (.slice (some ⟨w.heap.size, 0, none⟩) 255 255)).run Try.prog (w.alloc (.cells (madeCells #[.int .u8 0] 255) 5)) = .ok (.string (zs 255)) (w.alloc (.cells (madeCells #[.int .u8 0] 255) 5)) :=
    run_conv (c := 255) (made_cells w 255 (fun _ => True) trivial) 255 (by simp)
  have HM := Kp.mk (show MAt ((w.alloc (.cells (madeCells #[.int .u8 0] 255) 5)).alloc (.cells #[.int .i64 6021, .string { data := #[] }, .string { data := #[] }, .string { data := #[] }, .string { data := #[] }, .string (zs 255), .int .i64 0, .int .i64 0, .int .u64 0, .bool false, .bool false, .slice none 0 0] 42)) (fun _ => True) (w.heap.size + 1) none 0 (mB 4 0) from by
    have h := MAt.new (w := w.alloc (.cells (madeCells #[.int .u8 0] 255) 5)) (S := fun _ => True) (A := none) (c := 0) (mB 4 0) (Sl.nil _ _ _)
    rw [World.size_alloc] at h
    exact h)
  have HO := Kp.mk (mB_ok 4 0 (by decide) (by decide))
  have HY := Kp.mk (mB_yes ⟨4, by decide⟩)
  have HG := Kp.mk (M.good HO.out HY.out.2)
  go_enter Try.func14, Try.ntmps14
  go_wp2_with fail
  refine (put35 (mB 4 0) HO.out (fun _ => True) none 0 _ (Sl.nil _ _ _)).mono ?_
  rintro e w1 ⟨A1, c1, rfl, ho1, ht1⟩
  rw [HY.out.2]
  rw [HG.out.putB] at ho1 ⊢
  have hc1 := ho1.caps
  have hmx := enc_max HG.out
  have HM1 := Kp.mk (HM.out.still ht1)
  have HT1 := Kp.mk ((((Still.refl w).alloc _).alloc _).strans ht1)
  have HO1 := Kp.mk ho1
  clear ho1 ht1 HM hcv hmk hk
  go_wp2_with fail
  refine (get36n (mB 4 0).enc A1 c1 _ _ w1 rfl (by omega) hc1.1 hc1.2 HO1.out.bs).mono ?_
  rintro e w2 ⟨A2, c2, rfl, hs2, ht2⟩
  rw [HG.out.get.2] at hs2 ⊢
  rw [HG.out.get.1]
  have hx2 := MAt.new (c := c2) (mB 4 0) hs2
  have HT2 := Kp.mk ((HT1.out.strans ht2).alloc ((mB 4 0).obj A2 c2))
  have HM2 := Kp.mk (HM1.out.still (ht2.alloc ((mB 4 0).obj A2 c2)))
  have HX2 := Kp.mk hx2
  clear hs2 ht2 hx2 HM1 HO1
  go_wp2_with fail
  refine (told34 _).mono ?_
  rintro e w3 ⟨rfl, ht3⟩
  have HT3 := Kp.mk (HT2.out.strans ht3)
  have HM3 := Kp.mk (HM2.out.still ht3)
  have HX3 := Kp.mk (HX2.out.still ht3); clear ht3 HM2 HX2
  have q0 := HM3.out.id
  have q1 := HM3.out.nm
  have q2 := HM3.out.ty
  have q3 := HM3.out.ex
  have q4 := HM3.out.ky
  have q5 := HM3.out.tx
  have q6 := HM3.out.co
  have q7 := HM3.out.cn
  have q8 := HM3.out.tg
  have q9 := HM3.out.fl
  have q10 := HM3.out.bk
  have q11 := HM3.out.ar
  go_wp2_with fail
  refine (may32 (mB 4 0) HO.out (fun _ => True) none 0 _ (Sl.nil _ _ _)).mono ?_
  rintro e w4 ⟨rfl, ht4⟩
  rw [HY.out.1]
  have HT4 := Kp.mk (HT3.out.strans ht4)
  have HM4 := Kp.mk (HM3.out.still ht4)
  have HX4 := Kp.mk (HX3.out.still ht4); clear ht4 HM3 HX3 q0 q1 q2 q3 q4 q5 q6 q7 q8 q9 q10 q11
  have q0 := HM4.out.id
  have q1 := HM4.out.nm
  have q2 := HM4.out.ty
  have q3 := HM4.out.ex
  have q4 := HM4.out.ky
  have q5 := HM4.out.tx
  have q6 := HM4.out.co
  have q7 := HM4.out.cn
  have q8 := HM4.out.tg
  have q9 := HM4.out.fl
  have q10 := HM4.out.bk
  have q11 := HM4.out.ar
  have x0 := HX4.out.id
  have x1 := HX4.out.nm
  have x2 := HX4.out.ty
  have x3 := HX4.out.ex
  have x4 := HX4.out.ky
  have x5 := HX4.out.tx
  have x6 := HX4.out.co
  have x7 := HX4.out.cn
  have x8 := HX4.out.tg
  have x9 := HX4.out.fl
  have x10 := HX4.out.bk
  have x11 := HX4.out.ar
  go_wp2_with fail
  refine (same37 (mB 4 0) (mB 4 0) A2 none c2 0 (fun _ => True) _ HO.out HO.out (HX4.out.sl.weak (fun _ _ => trivial)) (Sl.nil _ _ _)).mono ?_
  rintro e w5 ⟨rfl, ht5⟩
  rw [decide_eq_true (rfl : mB 4 0 = mB 4 0)]
  have HT5 := Kp.mk (HT4.out.strans ht5); clear ht5 q0 q1 q2 q3 q4 q5 q6 q7 q8 q9 q10 q11 x0 x1 x2 x3 x4 x5 x6 x7 x8 x9 x10 x11
  go_wp2_with fail
  go_ret
  exact ⟨rfl, HT5.out⟩

set_option maxHeartbeats 8000000 in
theorem bounds14_4_1 (a : Int) (w : World) (hk : wrap64 ((IntKind.u64.wrap a).tmod 7) = 4) : Calls Try.prog 14 #[.int .i64 a, .bool true] w fun e w' => e = .returned (.bool true) ∧ Still w w' := by
  have hmk : ∀ w, (Instr.makeSlice 25 (.int .i64 256) (.int .i64 256)).run Try.prog w = .ok (.slice (some ⟨w.heap.size, 0, none⟩) 256 256) (w.alloc (.cells (madeCells #[.int .u8 0] 256) 5)) := fun w => make25 256 (by decide) w
  have hcv : (convert 25 9 (.slice (some ⟨w.heap.size, 0, none⟩) 256 256)).run Try.prog (w.alloc (.cells (madeCells #[.int .u8 0] 256) 5)) = .ok (.string (zs 256)) (w.alloc (.cells (madeCells #[.int .u8 0] 256) 5)) :=
    run_conv (c := 256) (made_cells w 256 (fun _ => True) trivial) 256 (by simp)
  have HM := Kp.mk (show MAt ((w.alloc (.cells (madeCells #[.int .u8 0] 256) 5)).alloc (.cells #[.int .i64 6021, .string { data := #[] }, .string { data := #[] }, .string { data := #[] }, .string { data := #[] }, .string (zs 256), .int .i64 0, .int .i64 0, .int .u64 0, .bool false, .bool false, .slice none 0 0] 42)) (fun _ => True) (w.heap.size + 1) none 0 (mB 4 1) from by
    have h := MAt.new (w := w.alloc (.cells (madeCells #[.int .u8 0] 256) 5)) (S := fun _ => True) (A := none) (c := 0) (mB 4 1) (Sl.nil _ _ _)
    rw [World.size_alloc] at h
    exact h)
  have HO := Kp.mk (mB_ok 4 1 (by decide) (by decide))
  have HY := Kp.mk (mB_no ⟨4, by decide⟩)
  go_enter Try.func14, Try.ntmps14
  go_wp2_with fail
  refine (put35 (mB 4 1) HO.out (fun _ => True) none 0 _ (Sl.nil _ _ _)).mono ?_
  rintro e w1 ⟨A1, c1, rfl, ho1, ht1⟩
  rw [HY.out.2.1]
  rw [HY.out.2.2] at ho1 ⊢
  have hc1 := ho1.caps
  have HM1 := Kp.mk (HM.out.still ht1)
  have HT1 := Kp.mk ((((Still.refl w).alloc _).alloc _).strans ht1)
  clear ho1 ht1 HM hcv hmk hk
  go_wp2_with fail
  refine (get36n [] A1 c1 _ (fun _ => True) w1 rfl (by simp) hc1.1 hc1.2 (Bs.nil _ _ _)).mono ?_
  rintro e w2 ⟨A2, c2, rfl, hs2, ht2⟩
  rw [nil_mget.2] at hs2 ⊢
  rw [nil_mget.1]
  have HT2 := Kp.mk ((HT1.out.strans ht2).alloc (M.zero.obj A2 c2))
  have HM2 := Kp.mk (HM1.out.still (ht2.alloc (M.zero.obj A2 c2)))
  clear hs2 ht2 HM1
  go_wp2_with fail
  refine (told34 _).mono ?_
  rintro e w3 ⟨rfl, ht3⟩
  have HT3 := Kp.mk (HT2.out.strans ht3)
  have HM3 := Kp.mk (HM2.out.still ht3); clear ht3 HM2
  have q0 := HM3.out.id
  have q1 := HM3.out.nm
  have q2 := HM3.out.ty
  have q3 := HM3.out.ex
  have q4 := HM3.out.ky
  have q5 := HM3.out.tx
  have q6 := HM3.out.co
  have q7 := HM3.out.cn
  have q8 := HM3.out.tg
  have q9 := HM3.out.fl
  have q10 := HM3.out.bk
  have q11 := HM3.out.ar
  go_wp2_with fail
  refine (may32 (mB 4 1) HO.out (fun _ => True) none 0 _ (Sl.nil _ _ _)).mono ?_
  rintro e w4 ⟨rfl, ht4⟩
  rw [HY.out.1]
  have HT4 := Kp.mk (HT3.out.strans ht4); clear ht4 q0 q1 q2 q3 q4 q5 q6 q7 q8 q9 q10 q11
  go_wp2_with fail
  go_ret
  exact ⟨rfl, HT4.out⟩

set_option maxHeartbeats 8000000 in
theorem bounds14_5_0 (a : Int) (w : World) (hk : wrap64 ((IntKind.u64.wrap a).tmod 7) = 5) : Calls Try.prog 14 #[.int .i64 a, .bool false] w fun e w' => e = .returned (.bool true) ∧ Still w w' := by
  have hmk : ∀ w, (Instr.makeSlice 25 (.int .i64 255) (.int .i64 255)).run Try.prog w = .ok (.slice (some ⟨w.heap.size, 0, none⟩) 255 255) (w.alloc (.cells (madeCells #[.int .u8 0] 255) 5)) := fun w => make25 255 (by decide) w
  have hcv : (convert 25 9 (.slice (some ⟨w.heap.size, 0, none⟩) 255 255)).run Try.prog (w.alloc (.cells (madeCells #[.int .u8 0] 255) 5)) = .ok (.string (zs 255)) (w.alloc (.cells (madeCells #[.int .u8 0] 255) 5)) :=
    run_conv (c := 255) (made_cells w 255 (fun _ => True) trivial) 255 (by simp)
  have HM := Kp.mk (show MAt ((w.alloc (.cells (madeCells #[.int .u8 0] 255) 5)).alloc (.cells #[.int .i64 2040, .string { data := #[] }, .string { data := #[] }, .string { data := #[] }, .string { data := #[] }, .string { data := #[] }, .int .i64 65535, .int .i64 0, .int .u64 0, .bool false, .bool false, .slice none 0 0] 42)) (fun _ => True) (w.heap.size + 1) none 0 (mB 5 0) from by
    have h := MAt.new (w := w.alloc (.cells (madeCells #[.int .u8 0] 255) 5)) (S := fun _ => True) (A := none) (c := 0) (mB 5 0) (Sl.nil _ _ _)
    rw [World.size_alloc] at h
    exact h)
  have HO := Kp.mk (mB_ok 5 0 (by decide) (by decide))
  have HY := Kp.mk (mB_yes ⟨5, by decide⟩)
  have HG := Kp.mk (M.good HO.out HY.out.2)
  go_enter Try.func14, Try.ntmps14
  go_wp2_with fail
  refine (put35 (mB 5 0) HO.out (fun _ => True) none 0 _ (Sl.nil _ _ _)).mono ?_
  rintro e w1 ⟨A1, c1, rfl, ho1, ht1⟩
  rw [HY.out.2]
  rw [HG.out.putB] at ho1 ⊢
  have hc1 := ho1.caps
  have hmx := enc_max HG.out
  have HM1 := Kp.mk (HM.out.still ht1)
  have HT1 := Kp.mk ((((Still.refl w).alloc _).alloc _).strans ht1)
  have HO1 := Kp.mk ho1
  clear ho1 ht1 HM hcv hmk hk
  go_wp2_with fail
  refine (get36n (mB 5 0).enc A1 c1 _ _ w1 rfl (by omega) hc1.1 hc1.2 HO1.out.bs).mono ?_
  rintro e w2 ⟨A2, c2, rfl, hs2, ht2⟩
  rw [HG.out.get.2] at hs2 ⊢
  rw [HG.out.get.1]
  have hx2 := MAt.new (c := c2) (mB 5 0) hs2
  have HT2 := Kp.mk ((HT1.out.strans ht2).alloc ((mB 5 0).obj A2 c2))
  have HM2 := Kp.mk (HM1.out.still (ht2.alloc ((mB 5 0).obj A2 c2)))
  have HX2 := Kp.mk hx2
  clear hs2 ht2 hx2 HM1 HO1
  go_wp2_with fail
  refine (told34 _).mono ?_
  rintro e w3 ⟨rfl, ht3⟩
  have HT3 := Kp.mk (HT2.out.strans ht3)
  have HM3 := Kp.mk (HM2.out.still ht3)
  have HX3 := Kp.mk (HX2.out.still ht3); clear ht3 HM2 HX2
  have q0 := HM3.out.id
  have q1 := HM3.out.nm
  have q2 := HM3.out.ty
  have q3 := HM3.out.ex
  have q4 := HM3.out.ky
  have q5 := HM3.out.tx
  have q6 := HM3.out.co
  have q7 := HM3.out.cn
  have q8 := HM3.out.tg
  have q9 := HM3.out.fl
  have q10 := HM3.out.bk
  have q11 := HM3.out.ar
  go_wp2_with fail
  refine (may32 (mB 5 0) HO.out (fun _ => True) none 0 _ (Sl.nil _ _ _)).mono ?_
  rintro e w4 ⟨rfl, ht4⟩
  rw [HY.out.1]
  have HT4 := Kp.mk (HT3.out.strans ht4)
  have HM4 := Kp.mk (HM3.out.still ht4)
  have HX4 := Kp.mk (HX3.out.still ht4); clear ht4 HM3 HX3 q0 q1 q2 q3 q4 q5 q6 q7 q8 q9 q10 q11
  have q0 := HM4.out.id
  have q1 := HM4.out.nm
  have q2 := HM4.out.ty
  have q3 := HM4.out.ex
  have q4 := HM4.out.ky
  have q5 := HM4.out.tx
  have q6 := HM4.out.co
  have q7 := HM4.out.cn
  have q8 := HM4.out.tg
  have q9 := HM4.out.fl
  have q10 := HM4.out.bk
  have q11 := HM4.out.ar
  have x0 := HX4.out.id
  have x1 := HX4.out.nm
  have x2 := HX4.out.ty
  have x3 := HX4.out.ex
  have x4 := HX4.out.ky
  have x5 := HX4.out.tx
  have x6 := HX4.out.co
  have x7 := HX4.out.cn
  have x8 := HX4.out.tg
  have x9 := HX4.out.fl
  have x10 := HX4.out.bk
  have x11 := HX4.out.ar
  go_wp2_with fail
  refine (same37 (mB 5 0) (mB 5 0) A2 none c2 0 (fun _ => True) _ HO.out HO.out (HX4.out.sl.weak (fun _ _ => trivial)) (Sl.nil _ _ _)).mono ?_
  rintro e w5 ⟨rfl, ht5⟩
  rw [decide_eq_true (rfl : mB 5 0 = mB 5 0)]
  have HT5 := Kp.mk (HT4.out.strans ht5); clear ht5 q0 q1 q2 q3 q4 q5 q6 q7 q8 q9 q10 q11 x0 x1 x2 x3 x4 x5 x6 x7 x8 x9 x10 x11
  go_wp2_with fail
  go_ret
  exact ⟨rfl, HT5.out⟩

set_option maxHeartbeats 8000000 in
theorem bounds14_5_1 (a : Int) (w : World) (hk : wrap64 ((IntKind.u64.wrap a).tmod 7) = 5) : Calls Try.prog 14 #[.int .i64 a, .bool true] w fun e w' => e = .returned (.bool true) ∧ Still w w' := by
  have hmk : ∀ w, (Instr.makeSlice 25 (.int .i64 256) (.int .i64 256)).run Try.prog w = .ok (.slice (some ⟨w.heap.size, 0, none⟩) 256 256) (w.alloc (.cells (madeCells #[.int .u8 0] 256) 5)) := fun w => make25 256 (by decide) w
  have hcv : (convert 25 9 (.slice (some ⟨w.heap.size, 0, none⟩) 256 256)).run Try.prog (w.alloc (.cells (madeCells #[.int .u8 0] 256) 5)) = .ok (.string (zs 256)) (w.alloc (.cells (madeCells #[.int .u8 0] 256) 5)) :=
    run_conv (c := 256) (made_cells w 256 (fun _ => True) trivial) 256 (by simp)
  have HM := Kp.mk (show MAt ((w.alloc (.cells (madeCells #[.int .u8 0] 256) 5)).alloc (.cells #[.int .i64 2040, .string { data := #[] }, .string { data := #[] }, .string { data := #[] }, .string { data := #[] }, .string { data := #[] }, .int .i64 65536, .int .i64 0, .int .u64 0, .bool false, .bool false, .slice none 0 0] 42)) (fun _ => True) (w.heap.size + 1) none 0 (mB 5 1) from by
    have h := MAt.new (w := w.alloc (.cells (madeCells #[.int .u8 0] 256) 5)) (S := fun _ => True) (A := none) (c := 0) (mB 5 1) (Sl.nil _ _ _)
    rw [World.size_alloc] at h
    exact h)
  have HO := Kp.mk (mB_ok 5 1 (by decide) (by decide))
  have HY := Kp.mk (mB_no ⟨5, by decide⟩)
  go_enter Try.func14, Try.ntmps14
  go_wp2_with fail
  refine (put35 (mB 5 1) HO.out (fun _ => True) none 0 _ (Sl.nil _ _ _)).mono ?_
  rintro e w1 ⟨A1, c1, rfl, ho1, ht1⟩
  rw [HY.out.2.1]
  rw [HY.out.2.2] at ho1 ⊢
  have hc1 := ho1.caps
  have HM1 := Kp.mk (HM.out.still ht1)
  have HT1 := Kp.mk ((((Still.refl w).alloc _).alloc _).strans ht1)
  clear ho1 ht1 HM hcv hmk hk
  go_wp2_with fail
  refine (get36n [] A1 c1 _ (fun _ => True) w1 rfl (by simp) hc1.1 hc1.2 (Bs.nil _ _ _)).mono ?_
  rintro e w2 ⟨A2, c2, rfl, hs2, ht2⟩
  rw [nil_mget.2] at hs2 ⊢
  rw [nil_mget.1]
  have HT2 := Kp.mk ((HT1.out.strans ht2).alloc (M.zero.obj A2 c2))
  have HM2 := Kp.mk (HM1.out.still (ht2.alloc (M.zero.obj A2 c2)))
  clear hs2 ht2 HM1
  go_wp2_with fail
  refine (told34 _).mono ?_
  rintro e w3 ⟨rfl, ht3⟩
  have HT3 := Kp.mk (HT2.out.strans ht3)
  have HM3 := Kp.mk (HM2.out.still ht3); clear ht3 HM2
  have q0 := HM3.out.id
  have q1 := HM3.out.nm
  have q2 := HM3.out.ty
  have q3 := HM3.out.ex
  have q4 := HM3.out.ky
  have q5 := HM3.out.tx
  have q6 := HM3.out.co
  have q7 := HM3.out.cn
  have q8 := HM3.out.tg
  have q9 := HM3.out.fl
  have q10 := HM3.out.bk
  have q11 := HM3.out.ar
  go_wp2_with fail
  refine (may32 (mB 5 1) HO.out (fun _ => True) none 0 _ (Sl.nil _ _ _)).mono ?_
  rintro e w4 ⟨rfl, ht4⟩
  rw [HY.out.1]
  have HT4 := Kp.mk (HT3.out.strans ht4); clear ht4 q0 q1 q2 q3 q4 q5 q6 q7 q8 q9 q10 q11
  go_wp2_with fail
  go_ret
  exact ⟨rfl, HT4.out⟩

set_option maxHeartbeats 8000000 in
theorem bounds14_6_0 (a : Int) (w : World) (hk : wrap64 ((IntKind.u64.wrap a).tmod 7) = 6) : Calls Try.prog 14 #[.int .i64 a, .bool false] w fun e w' => e = .returned (.bool true) ∧ Still w w' := by
  have hmk : ∀ w, (Instr.makeSlice 25 (.int .i64 255) (.int .i64 255)).run Try.prog w = .ok (.slice (some ⟨w.heap.size, 0, none⟩) 255 255) (w.alloc (.cells (madeCells #[.int .u8 0] 255) 5)) := fun w => make25 255 (by decide) w
  have hcv : (convert 25 9 (.slice (some ⟨w.heap.size, 0, none⟩) 255 255)).run Try.prog (w.alloc (.cells (madeCells #[.int .u8 0] 255) 5)) = .ok (.string (zs 255)) (w.alloc (.cells (madeCells #[.int .u8 0] 255) 5)) :=
    run_conv (c := 255) (made_cells w 255 (fun _ => True) trivial) 255 (by simp)
  have HM := Kp.mk (show MAt ((w.alloc (.cells (madeCells #[.int .u8 0] 255) 5)).alloc (.cells #[.int .i64 6010, .string { data := #[] }, .string { data := #[] }, .string { data := #[] }, .string { data := #[] }, .string { data := #[] }, .int .i64 0, .int .i64 4294967295, .int .u64 0, .bool false, .bool false, .slice none 0 0] 42)) (fun _ => True) (w.heap.size + 1) none 0 (mB 6 0) from by
    have h := MAt.new (w := w.alloc (.cells (madeCells #[.int .u8 0] 255) 5)) (S := fun _ => True) (A := none) (c := 0) (mB 6 0) (Sl.nil _ _ _)
    rw [World.size_alloc] at h
    exact h)
  have HO := Kp.mk (mB_ok 6 0 (by decide) (by decide))
  have HY := Kp.mk (mB_yes ⟨6, by decide⟩)
  have HG := Kp.mk (M.good HO.out HY.out.2)
  go_enter Try.func14, Try.ntmps14
  go_wp2_with fail
  refine (put35 (mB 6 0) HO.out (fun _ => True) none 0 _ (Sl.nil _ _ _)).mono ?_
  rintro e w1 ⟨A1, c1, rfl, ho1, ht1⟩
  rw [HY.out.2]
  rw [HG.out.putB] at ho1 ⊢
  have hc1 := ho1.caps
  have hmx := enc_max HG.out
  have HM1 := Kp.mk (HM.out.still ht1)
  have HT1 := Kp.mk ((((Still.refl w).alloc _).alloc _).strans ht1)
  have HO1 := Kp.mk ho1
  clear ho1 ht1 HM hcv hmk hk
  go_wp2_with fail
  refine (get36n (mB 6 0).enc A1 c1 _ _ w1 rfl (by omega) hc1.1 hc1.2 HO1.out.bs).mono ?_
  rintro e w2 ⟨A2, c2, rfl, hs2, ht2⟩
  rw [HG.out.get.2] at hs2 ⊢
  rw [HG.out.get.1]
  have hx2 := MAt.new (c := c2) (mB 6 0) hs2
  have HT2 := Kp.mk ((HT1.out.strans ht2).alloc ((mB 6 0).obj A2 c2))
  have HM2 := Kp.mk (HM1.out.still (ht2.alloc ((mB 6 0).obj A2 c2)))
  have HX2 := Kp.mk hx2
  clear hs2 ht2 hx2 HM1 HO1
  go_wp2_with fail
  refine (told34 _).mono ?_
  rintro e w3 ⟨rfl, ht3⟩
  have HT3 := Kp.mk (HT2.out.strans ht3)
  have HM3 := Kp.mk (HM2.out.still ht3)
  have HX3 := Kp.mk (HX2.out.still ht3); clear ht3 HM2 HX2
  have q0 := HM3.out.id
  have q1 := HM3.out.nm
  have q2 := HM3.out.ty
  have q3 := HM3.out.ex
  have q4 := HM3.out.ky
  have q5 := HM3.out.tx
  have q6 := HM3.out.co
  have q7 := HM3.out.cn
  have q8 := HM3.out.tg
  have q9 := HM3.out.fl
  have q10 := HM3.out.bk
  have q11 := HM3.out.ar
  go_wp2_with fail
  refine (may32 (mB 6 0) HO.out (fun _ => True) none 0 _ (Sl.nil _ _ _)).mono ?_
  rintro e w4 ⟨rfl, ht4⟩
  rw [HY.out.1]
  have HT4 := Kp.mk (HT3.out.strans ht4)
  have HM4 := Kp.mk (HM3.out.still ht4)
  have HX4 := Kp.mk (HX3.out.still ht4); clear ht4 HM3 HX3 q0 q1 q2 q3 q4 q5 q6 q7 q8 q9 q10 q11
  have q0 := HM4.out.id
  have q1 := HM4.out.nm
  have q2 := HM4.out.ty
  have q3 := HM4.out.ex
  have q4 := HM4.out.ky
  have q5 := HM4.out.tx
  have q6 := HM4.out.co
  have q7 := HM4.out.cn
  have q8 := HM4.out.tg
  have q9 := HM4.out.fl
  have q10 := HM4.out.bk
  have q11 := HM4.out.ar
  have x0 := HX4.out.id
  have x1 := HX4.out.nm
  have x2 := HX4.out.ty
  have x3 := HX4.out.ex
  have x4 := HX4.out.ky
  have x5 := HX4.out.tx
  have x6 := HX4.out.co
  have x7 := HX4.out.cn
  have x8 := HX4.out.tg
  have x9 := HX4.out.fl
  have x10 := HX4.out.bk
  have x11 := HX4.out.ar
  go_wp2_with fail
  refine (same37 (mB 6 0) (mB 6 0) A2 none c2 0 (fun _ => True) _ HO.out HO.out (HX4.out.sl.weak (fun _ _ => trivial)) (Sl.nil _ _ _)).mono ?_
  rintro e w5 ⟨rfl, ht5⟩
  rw [decide_eq_true (rfl : mB 6 0 = mB 6 0)]
  have HT5 := Kp.mk (HT4.out.strans ht5); clear ht5 q0 q1 q2 q3 q4 q5 q6 q7 q8 q9 q10 q11 x0 x1 x2 x3 x4 x5 x6 x7 x8 x9 x10 x11
  go_wp2_with fail
  go_ret
  exact ⟨rfl, HT5.out⟩

set_option maxHeartbeats 8000000 in
theorem bounds14_6_1 (a : Int) (w : World) (hk : wrap64 ((IntKind.u64.wrap a).tmod 7) = 6) : Calls Try.prog 14 #[.int .i64 a, .bool true] w fun e w' => e = .returned (.bool true) ∧ Still w w' := by
  have hmk : ∀ w, (Instr.makeSlice 25 (.int .i64 256) (.int .i64 256)).run Try.prog w = .ok (.slice (some ⟨w.heap.size, 0, none⟩) 256 256) (w.alloc (.cells (madeCells #[.int .u8 0] 256) 5)) := fun w => make25 256 (by decide) w
  have hcv : (convert 25 9 (.slice (some ⟨w.heap.size, 0, none⟩) 256 256)).run Try.prog (w.alloc (.cells (madeCells #[.int .u8 0] 256) 5)) = .ok (.string (zs 256)) (w.alloc (.cells (madeCells #[.int .u8 0] 256) 5)) :=
    run_conv (c := 256) (made_cells w 256 (fun _ => True) trivial) 256 (by simp)
  have HM := Kp.mk (show MAt ((w.alloc (.cells (madeCells #[.int .u8 0] 256) 5)).alloc (.cells #[.int .i64 6010, .string { data := #[] }, .string { data := #[] }, .string { data := #[] }, .string { data := #[] }, .string { data := #[] }, .int .i64 0, .int .i64 4294967296, .int .u64 0, .bool false, .bool false, .slice none 0 0] 42)) (fun _ => True) (w.heap.size + 1) none 0 (mB 6 1) from by
    have h := MAt.new (w := w.alloc (.cells (madeCells #[.int .u8 0] 256) 5)) (S := fun _ => True) (A := none) (c := 0) (mB 6 1) (Sl.nil _ _ _)
    rw [World.size_alloc] at h
    exact h)
  have HO := Kp.mk (mB_ok 6 1 (by decide) (by decide))
  have HY := Kp.mk (mB_no ⟨6, by decide⟩)
  go_enter Try.func14, Try.ntmps14
  go_wp2_with fail
  refine (put35 (mB 6 1) HO.out (fun _ => True) none 0 _ (Sl.nil _ _ _)).mono ?_
  rintro e w1 ⟨A1, c1, rfl, ho1, ht1⟩
  rw [HY.out.2.1]
  rw [HY.out.2.2] at ho1 ⊢
  have hc1 := ho1.caps
  have HM1 := Kp.mk (HM.out.still ht1)
  have HT1 := Kp.mk ((((Still.refl w).alloc _).alloc _).strans ht1)
  clear ho1 ht1 HM hcv hmk hk
  go_wp2_with fail
  refine (get36n [] A1 c1 _ (fun _ => True) w1 rfl (by simp) hc1.1 hc1.2 (Bs.nil _ _ _)).mono ?_
  rintro e w2 ⟨A2, c2, rfl, hs2, ht2⟩
  rw [nil_mget.2] at hs2 ⊢
  rw [nil_mget.1]
  have HT2 := Kp.mk ((HT1.out.strans ht2).alloc (M.zero.obj A2 c2))
  have HM2 := Kp.mk (HM1.out.still (ht2.alloc (M.zero.obj A2 c2)))
  clear hs2 ht2 HM1
  go_wp2_with fail
  refine (told34 _).mono ?_
  rintro e w3 ⟨rfl, ht3⟩
  have HT3 := Kp.mk (HT2.out.strans ht3)
  have HM3 := Kp.mk (HM2.out.still ht3); clear ht3 HM2
  have q0 := HM3.out.id
  have q1 := HM3.out.nm
  have q2 := HM3.out.ty
  have q3 := HM3.out.ex
  have q4 := HM3.out.ky
  have q5 := HM3.out.tx
  have q6 := HM3.out.co
  have q7 := HM3.out.cn
  have q8 := HM3.out.tg
  have q9 := HM3.out.fl
  have q10 := HM3.out.bk
  have q11 := HM3.out.ar
  go_wp2_with fail
  refine (may32 (mB 6 1) HO.out (fun _ => True) none 0 _ (Sl.nil _ _ _)).mono ?_
  rintro e w4 ⟨rfl, ht4⟩
  rw [HY.out.1]
  have HT4 := Kp.mk (HT3.out.strans ht4); clear ht4 q0 q1 q2 q3 q4 q5 q6 q7 q8 q9 q10 q11
  go_wp2_with fail
  go_ret
  exact ⟨rfl, HT4.out⟩

theorem bounds14 (a : Int) (b : Bool) (w : World) : Calls Try.prog 14 #[.int .i64 a, .bool b] w fun e w' => e = .returned (.bool true) ∧ Still w w' := by
  obtain ⟨h0, h6⟩ := rem7 a
  have : wrap64 ((IntKind.u64.wrap a).tmod 7) = 0 ∨ wrap64 ((IntKind.u64.wrap a).tmod 7) = 1 ∨ wrap64 ((IntKind.u64.wrap a).tmod 7) = 2 ∨ wrap64 ((IntKind.u64.wrap a).tmod 7) = 3 ∨ wrap64 ((IntKind.u64.wrap a).tmod 7) = 4 ∨ wrap64 ((IntKind.u64.wrap a).tmod 7) = 5 ∨ wrap64 ((IntKind.u64.wrap a).tmod 7) = 6 := by omega
  rcases this with h | h | h | h | h | h | h <;> cases b
  · exact bounds14_0_0 a w h
  · exact bounds14_0_1 a w h
  · exact bounds14_1_0 a w h
  · exact bounds14_1_1 a w h
  · exact bounds14_2_0 a w h
  · exact bounds14_2_1 a w h
  · exact bounds14_3_0 a w h
  · exact bounds14_3_1 a w h
  · exact bounds14_4_0 a w h
  · exact bounds14_4_1 a w h
  · exact bounds14_5_0 a w h
  · exact bounds14_5_1 a w h
  · exact bounds14_6_0 a w h
  · exact bounds14_6_1 a w h
end Go.Proofs.Ytaeainkfllfdfaa
