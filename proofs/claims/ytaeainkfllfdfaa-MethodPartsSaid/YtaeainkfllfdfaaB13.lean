/- The walk of ValueKinds. -/
import Derived.Test.YtaeainkfllfdfaaB12
namespace Go.Proofs.Ytaeainkfllfdfaa
open Go.RowKit
set_option linter.unusedVariables false
set_option linter.unusedSimpArgs false
set_option maxRecDepth 100000

theorem kindOk_num (K n : Int) (h : 0 ≤ K) : kindOk K n ByteArray.empty.size L.nil.len (L.mayTab 1 .nil) = decide (K = 3 ∨ (n = 0 ∧ K ≤ 5) ∨ (K = 1 ∧ n = 1) ∨ (K = 2 ∧ -2147483648 ≤ n ∧ n < 2147483648)) := by
  rw [Bool.eq_iff_iff, show L.mayTab 1 .nil = true from by decide, show ByteArray.empty.size = 0 from rfl, show L.nil.len = 0 from rfl]
  unfold kindOk
  simp only [decide_eq_true_eq]
  split
  · simp; omega
  split
  · simp only [decide_eq_true_eq]; omega
  split
  · simp only [decide_eq_true_eq]; omega
  split
  · simp only [true_iff]; omega
  split
  · simp only [decide_eq_true_eq]; omega
  split
  · simp only [decide_eq_true_eq]; omega
  split
  · simp only [Bool.and_true, decide_eq_true_eq]; omega
  · simp only [Bool.false_eq_true, false_iff]; omega
theorem kindOk_txt (K : Int) (s : ByteArray) (h : 0 ≤ K) : kindOk K 0 s.size L.nil.len (L.mayTab 1 .nil) = decide (K ≤ 5 ∧ (s.size = 0 ∨ (K = 4 ∧ s.size ≤ 200))) := by
  rw [Bool.eq_iff_iff, show L.mayTab 1 .nil = true from by decide, show L.nil.len = 0 from rfl]
  unfold kindOk
  generalize s.size = m
  simp only [decide_eq_true_eq]
  split
  · simp only [Bool.false_eq_true, false_iff]; omega
  split
  · simp only [true_or, decide_true, true_iff]; omega
  split
  · simp only [show ((-2147483648 : Int) ≤ 0 ∧ (0 : Int) ≤ 2147483647) = True from by simp, decide_true, true_iff]; omega
  split
  · simp only [true_iff]; omega
  split
  · simp only [decide_true, true_iff]; omega
  split
  · simp only [true_and, decide_eq_true_eq]; omega
  split
  · simp only [decide_true, Bool.and_true, true_iff]; omega
  · simp only [Bool.false_eq_true, false_iff]; omega
theorem rem7 (kind : Int) : 0 ≤ wrap64 ((IntKind.u64.wrap kind).tmod 7) ∧ wrap64 ((IntKind.u64.wrap kind).tmod 7) ≤ 6 := by
  have h0 : 0 ≤ IntKind.u64.wrap kind := by simp only [IntKind.wrap]; exact Int.emod_nonneg _ (by decide)
  rw [Int.tmod_eq_emod_of_nonneg h0]
  unfold wrap64
  omega

set_option maxHeartbeats 8000000 in
theorem kinds8 (kind n : Int) (s : ByteArray) (w : World) (hs : s.size ≤ 140737488351232) : Calls Try.prog 8 #[.int .i64 kind, .int .i64 n, .string s] w fun e w' => e = .returned (.bool true) ∧ Still w w' := by
  by_cases hlong : 300 < s.size
  · go_enter Try.func8, Try.ntmps8
    go_wp2_with fail
    refine (told17 w).mono ?_
    rintro e w1 ⟨rfl, ht1⟩
    have HT1 := Kp.mk ht1; clear ht1
    go_wp2_with fail
    go_ret
    exact ⟨rfl, HT1.out⟩
  · have hz0 := size_zero s
    have hr := rem7 kind
    have HR := Kp.mk hr; clear hr
    have HZ := Kp.mk hz0; clear hz0
    go_enter Try.func8, Try.ntmps8
    go_wp2_with fail
    all_goals refine (told17 _).mono ?_
    all_goals rintro e w1 ⟨rfl, ht1⟩
    all_goals have x0 := ht1.scell (a := ⟨w.heap.size, 0, none⟩) (by go_simp; exact rfl)
    all_goals have x1 := ht1.scell (a := ⟨w.heap.size, 1, none⟩) (by go_simp; exact rfl)
    all_goals have x2 := ht1.scell (a := ⟨w.heap.size, 2, none⟩) (by go_simp; exact rfl)
    all_goals have x3 := ht1.scell (a := ⟨w.heap.size, 3, none⟩) (by go_simp; exact rfl)
    all_goals have y0 := ht1.scell (a := ⟨w.heap.size + 1, 0, none⟩) (by go_simp; exact rfl)
    all_goals have y1 := ht1.scell (a := ⟨w.heap.size + 1, 1, none⟩) (by go_simp; exact rfl)
    all_goals have y2 := ht1.scell (a := ⟨w.heap.size + 1, 2, none⟩) (by go_simp; exact rfl)
    all_goals have y3 := ht1.scell (a := ⟨w.heap.size + 1, 3, none⟩) (by go_simp; exact rfl)
    all_goals have HT1 := Kp.mk (((Still.refl w).alloc _).alloc _ |>.strans ht1)
    all_goals clear ht1
    all_goals go_wp2_with fail
    all_goals refine (may_ok .nil _ _ .empty none 0 (fun _ => True) _ (by decide) (by decide) trivial (Sl.nil _ _ _)).mono ?_
    all_goals rintro e w2 ⟨rfl, ht2⟩
    all_goals have y0 := ht2.scell y0
    all_goals have y1 := ht2.scell y1
    all_goals have y2 := ht2.scell y2
    all_goals have y3 := ht2.scell y3
    all_goals have HT2 := Kp.mk (HT1.out.strans ht2)
    all_goals clear x0 x1 x2 x3 ht2
    all_goals rw [kindOk_num _ _ (by first | exact HR.out.1 | omega)]
    all_goals (obtain ⟨HR⟩ := HR; obtain ⟨HZ⟩ := HZ)
    all_goals first | rw [decide_eq_true (by omega)] | rw [decide_eq_false (by omega)] | (by_cases hh : n < 2147483648 <;> first | rw [decide_eq_true (by omega)] | rw [decide_eq_false (by omega)])
    all_goals have HR := Kp.mk HR
    all_goals have HZ := Kp.mk HZ
    all_goals go_wp2_with fail
    all_goals refine (may_ok .nil _ 0 s none 0 (fun _ => True) _ hs (by decide) trivial (Sl.nil _ _ _)).mono ?_
    all_goals rintro e w3 ⟨rfl, ht3⟩
    all_goals have HT3 := Kp.mk (HT2.out.strans ht3)
    all_goals clear ht3
    all_goals rw [kindOk_txt _ _ (by first | exact HR.out.1 | omega)]
    all_goals (obtain ⟨HR⟩ := HR; obtain ⟨HZ⟩ := HZ)
    all_goals first | rw [decide_eq_true (by first | omega | (simp only [HZ] at *; omega))] | rw [decide_eq_false (by first | omega | (simp only [HZ] at *; omega))] | (by_cases hh : s.size ≤ 200 <;> first | rw [decide_eq_true (by first | omega | (simp only [HZ] at *; omega))] | rw [decide_eq_false (by first | omega | (simp only [HZ] at *; omega))])
    all_goals have HR := Kp.mk HR
    all_goals have HZ := Kp.mk HZ
    all_goals go_wp2_with fail
    all_goals go_ret
    all_goals first | exact ⟨rfl, HT3.out⟩ | (refine ⟨ret_bool ?_, HT3.out⟩; go_light; simp; first | assumption | omega | ((repeat' apply And.intro) <;> first | assumption | omega | (intros; omega)))
end Go.Proofs.Ytaeainkfllfdfaa
