/- The walk of ValueLong. -/
import Derived.Test.YtaeainkfllfdfaaF9
import Derived.Test.YtaeainkfllfdfaaA6
import Derived.Deep.OwnRows
namespace Go.Proofs.Ytaeainkfllfdfaa
open Go.RowKit
set_option linter.unusedVariables false
set_option linter.unusedSimpArgs false
set_option maxRecDepth 100000

theorem rem20 (i : Int) : ∃ k : Nat, wrap64 ((IntKind.u64.wrap i).tmod 20) = k ∧ k < 20 := remL i 20 (by decide) (by decide)
theorem made_cells (W : World) (n : Nat) (S : Nat → Prop) (hS : S W.heap.size) : Bs (W.alloc (.cells (madeCells #[.int .u8 0] n) 5)) S (some ⟨W.heap.size, 0, none⟩) (List.replicate n 0) := by
  refine .inr ⟨W.heap.size, 0, rfl, hS, fun j hj => ?_⟩
  rw [Nat.zero_add]
  refine cell_new' rfl ?_
  have hj' : j < n := by simpa using hj
  simp [madeCells, hj', Nat.mod_one]
theorem make25 (n : Nat) (hn : n ≤ 281474976710656) (w : World) : (Instr.makeSlice 25 (.int .i64 (n : Int)) (.int .i64 (n : Int))).run Try.prog w = .ok (.slice (some ⟨w.heap.size, 0, none⟩) n n) (w.alloc (.cells (madeCells #[.int .u8 0] n) 5)) :=
  run_make_row' (P := Try.prog) 25 5 (.int .u8 0) 1 Try.underlying25 info5 rfl .i64 .i64 n (by omega) (by omega) w

theorem slice14 (j : Nat) (hj : j < 14) (w : World) : (Instr.slice 9 (.string ⟨#[48, 49, 50, 51, 52, 53, 54, 55, 56, 57, 97, 98, 99, 100]⟩) (some (.int .i64 (j : Int))) (some (.int .i64 ((j : Int) + 1))) none).run Try.prog w = .ok (.string (nm14 j)) w := by
  have h := run_slice_string (P := Try.prog) w 9 ⟨#[48, 49, 50, 51, 52, 53, 54, 55, 56, 57, 97, 98, 99, 100]⟩ .i64 .i64 (j : Int) ((j : Int) + 1) Try.underlying9 (by omega) (by omega) (by rw [show (ByteArray.mk #[48, 49, 50, 51, 52, 53, 54, 55, 56, 57, 97, 98, 99, 100]).size = 14 from rfl]; omega)
  rw [h, show ((j : Int) + 1).toNat = j + 1 from by omega, Int.toNat_natCast]
  have key : ∀ j : Fin 14, (ByteArray.mk #[48, 49, 50, 51, 52, 53, 54, 55, 56, 57, 97, 98, 99, 100]).extract j.val (j.val + 1) = nm14 j.val := by decide +kernel
  rw [key ⟨j, hj⟩]

theorem put_okn (l : L) (n : Nat) (hn : n = l.len) (A : Option Addr) (c : Nat) (S : Nat → Prop) (w : World) (hl : l.len ≤ 140737488351232) (hO : l.Ok) (hS : Sl w S A l) :
    Calls Try.prog 18 #[.slice A n c] w (RetPut w l.putB l.putE) := by
  subst hn; exact put_ok l A c S w hl hO hS
theorem tab15_put (k : Nat) (h : k < 20) : (10 < k → (tab15 (81 + k)).putE = 502 ∧ (tab15 (81 + k)).putB = []) ∧ (k ≤ 10 → (tab15 (81 + k)).putE = 0 ∧ (tab15 (81 + k)).putB.length = 2990 + k) := by
  obtain ⟨h1, h2⟩ := tab15_all ⟨k, h⟩
  simp only at h1 h2
  unfold L.putE L.putB
  rw [if_pos h1, if_pos h1]
  refine ⟨fun hk => ?_, fun hk => ?_⟩
  · rw [if_pos (by omega), if_pos (by omega)]; exact ⟨rfl, rfl⟩
  · rw [if_neg (by omega), if_neg (by omega)]; exact ⟨rfl, h2⟩

set_option maxHeartbeats 8000000 in
theorem long10 (n : Int) (w : World) : Calls Try.prog 10 #[.int .i64 n] w fun e w' => e = .returned (.bool true) ∧ Still w w' := by
  obtain ⟨k, hk, hk20⟩ := rem20 n
  have hm200 : ∀ w, (Instr.makeSlice 25 (.int .i64 200) (.int .i64 200)).run Try.prog w = .ok (.slice (some ⟨w.heap.size, 0, none⟩) 200 200) (w.alloc (.cells (madeCells #[.int .u8 0] 200) 5)) := fun w => make25 200 (by decide) w
  have HML := Kp.mk tab14_len
  go_enter Try.func10, Try.ntmps10
  go_wp2_with fail
  simp only [hk]
  clear hk
  go_loopw [4, 5, 6] (fun v s i wr => ∃ (j : Nat) (A : Option Addr) (c : Nat), j ≤ 14 ∧ i = .int .i64 j ∧ s = .int .i64 (4 + 207 * (j : Int)) ∧ v = .slice A j c ∧ Kp (OwnI wr w.heap.size (w.heap.size ≤ ·) A c (tab14 j)) ∧ Kp (Still w wr)) (fun _ _ i _ => (14 - intOf i).toNat)
  case atStart => exact ⟨0, none, 0, by omega, rfl, rfl, rfl, ⟨OwnI.nil _ _ _⟩, ⟨Still.refl _⟩⟩
  case round =>
    obtain ⟨j, A, c, hj, rfl, rfl, rfl, HO, HT⟩ := hrel
    by_cases hlt : j < 14
    · have hsl := slice14 j hlt
      have hbs : ∀ W, Tch (fun b => b ≠ wr.heap.size) (wr.alloc (.cells (madeCells #[.int .u8 0] 200) 5)) W → (convert 25 9 (.slice (some ⟨wr.heap.size, 0, none⟩) 200 200)).run Try.prog W = .ok (.string (zs 200)) W := fun W h =>
        run_conv (c := 200) ((made_cells wr 200 (· = wr.heap.size) rfl).tch h (fun b hb hn => hn hb)) 200 (by simp)
      have hcv := hbs _ (Tch.refl _ _)
      have HCV := Kp.mk hbs; clear hbs
      have HSL := HT.out.size
      have hj1 : IntKind.i64.wrap ((j : Int) + 1) = (j : Int) + 1 := by have := wrap64_in; unfold IntKind.wrap; simp [IntKind.signed, IntKind.bits]; omega
      go_wp2_with fail
      go_region_held3 (fun W => (convert 25 9 (.slice (some ⟨wr.heap.size, 0, none⟩) 200 200)).run Try.prog W = .ok (.string (zs 200)) W)
        ((refine HCV.out _ ?_; (repeat' (first | exact Tch.refl _ _ | exact HT3.out | refine Tch.alloc ?_ _ | refine Tch.drew ?_))))
        (first
         | (refine step_appI _ (by rfl) _ _ rfl w.heap.size (w.heap.size ≤ ·) (fun _ => False) A c _ 1 (tab14 j) (L.one ⟨nm14 j, 4, 0, zs 200, .nil⟩) (by rfl) ?_ (HO.out.still ?_) _ 1 [.string (nm14 j), .int .i64 4, .int .i64 0, .string (zs 200), .slice none 0 0] (by rfl) rfl (.inr ⟨_, 0, rfl, ?_⟩) ⟨none, 0, [], rfl, Sl.nil _ _ _, rfl⟩ (fun _ h => h.elim) ?_ ?_ ?_; (exact (HML.out j).symm); (repeat' (first | exact Tch.refl _ _ | refine Tch.alloc ?_ _ | refine Tch.drew ?_)); (intro m u hm; rw [Nat.zero_add]; exact cell_new' (by simp) (by rw [← hm]; simp only [List.getElem?_toArray])); (rw [HML.out]; simp only [L.len_one]; omega); ((try simp only [World.size_alloc, World.size_drew]); omega); intro A2 c2 w2 ho2 ht2 hat2; have HO2 := Kp.mk ho2; have HT2 := Kp.mk ht2; have HT3 := Kp.mk (show Tch (fun b => b ≠ wr.heap.size) (wr.alloc (.cells (madeCells #[.int .u8 0] 200) 5)) w2 from Tch.trans (by (repeat' (first | exact Tch.refl _ _ | refine Tch.alloc ?_ _ | refine Tch.drew ?_))) ht2 (fun b _ h => Nat.ne_of_lt (HO.out.base h).2)); clear ho2 ht2 hat2))
      clear hj1 hcv hsl
      go_wp2_with fail
      go_roundw
      case rel =>
        refine ⟨j + 1, A2, c2, by omega, by go_num, by go_num, rfl, ⟨HO2.out⟩, ⟨HT.out.trans (T := fun x => w.heap.size ≤ x) (((Still.refl wr).alloc _).of_still.trans ((Tch.refl _ _).alloc _ |>.drew.trans (HT2.out.mono (T := fun x => w.heap.size ≤ x) (fun b _ h => (HO.out.base h).1)) (fun b _ h => h)) (fun b _ h => h)) (fun b hb h => by omega)⟩⟩
      case measure => go_light; simp only [intOf]; omega
    · obtain rfl : j = 14 := by omega
      clear hlt hj hm200
      have hmk : ∀ w, (Instr.makeSlice 25 (.int .i64 (2990 + (k : Int) - 2902 - 7)) (.int .i64 (2990 + (k : Int) - 2902 - 7))).run Try.prog w = .ok (.slice (some ⟨w.heap.size, 0, none⟩) (81 + k) (81 + k)) (w.alloc (.cells (madeCells #[.int .u8 0] (81 + k)) 5)) := fun w => by
        have := make25 (81 + k) (by omega) w
        rwa [show ((81 + k : Nat) : Int) = 2990 + (k : Int) - 2902 - 7 by omega] at this
      have hcv := run_conv (c := 81 + k) (made_cells wr (81 + k) (fun _ => True) trivial) (81 + k) (by simp)
      rw [show (⟨(List.replicate (81 + k) (0 : UInt8)).toArray⟩ : ByteArray) = zs (81 + k) from rfl] at hcv
      have HSL := HT.out.size
      have HOK := Kp.mk (tab15_ok (81 + k) (by omega))
      have HLN := Kp.mk (tab15_len (81 + k))
      have HPT := Kp.mk (tab15_put k hk20)
      go_wp2_with (at_builtin; (refine wpList_appI _ rfl _ _ rfl w.heap.size (w.heap.size ≤ ·) (fun _ => False) A c _ 1 (tab14 14) (L.one ⟨⟨#[122]⟩, 4, 0, zs (81 + k), .nil⟩) rfl ?_ (HO.out.still ?_) _ 1 [.string ⟨#[122]⟩, .int .i64 4, .int .i64 0, .string (zs (81 + k)), .slice none 0 0] rfl rfl (.inr ⟨_, 0, rfl, ?_⟩) ⟨none, 0, [], rfl, Sl.nil _ _ _, rfl⟩ (fun _ h => h.elim) ?_ ?_ ?_); (exact (HML.out 14).symm); (repeat' (first | exact Tch.refl _ _ | refine Tch.alloc ?_ _ | refine Tch.drew ?_)); (intro m u hm; rw [Nat.zero_add]; exact cell_new' (by simp) (by rw [← hm]; simp only [List.getElem?_toArray])); (rw [HML.out]; simp only [L.len_one]; omega); ((try simp only [World.size_alloc, World.size_drew]); omega); intro A2 c2 w2 ho2 ht2 hat2; have HO2 := Kp.mk ho2; have HT2 := Kp.mk ht2; clear ho2 ht2 hat2)
      have hT3 : Still w w2 := HT.out.trans (T := fun x => w.heap.size ≤ x) (((Still.refl wr).alloc _).of_still.trans (((Tch.refl _ _).alloc _).trans (HT2.out.mono (T := fun x => w.heap.size ≤ x) (fun b _ h => (HO.out.base h).1)) (fun b _ h => h)) (fun b _ h => h)) (fun b hb h => by omega)
      have HT3 := Kp.mk hT3; clear hT3 hcv hmk
      refine (put_okn (tab15 (81 + k)) _ HLN.out.symm A2 c2 (fun _ => True) w2 (by rw [HLN.out]; decide) HOK.out (HO2.out.sl (fun _ _ => trivial) (fun _ _ => trivial))).mono ?_
      rintro e w3 ⟨A3, c3, rfl, ho3, ht3⟩
      have HT4 := Kp.mk (HT3.out.strans ht3); clear ho3 ht3
      by_cases hk10 : 10 < k
      · rw [(HPT.out.1 hk10).1, (HPT.out.1 hk10).2]
        go_wp2_with fail
        refine (told17 w3).mono ?_
        rintro e w4 ⟨rfl, ht4⟩
        have HT5 := Kp.mk (HT4.out.strans ht4); clear ht4
        go_wp2_with fail
        go_ret
        exact ⟨rfl, HT5.out⟩
      · rw [(HPT.out.2 (by omega)).1, (HPT.out.2 (by omega)).2]
        go_wp2_with fail
        refine (told17 w3).mono ?_
        rintro e w4 ⟨rfl, ht4⟩
        have HT5 := Kp.mk (HT4.out.strans ht4); clear ht4
        go_wp2_with fail
        go_ret
        exact ⟨rfl, HT5.out⟩
end Go.Proofs.Ytaeainkfllfdfaa
