/- The walk of ValueDeep. -/
import Derived.Test.YtaeainkfllfdfaaB13
import Derived.Test.YtaeainkfllfdfaaA4
namespace Go.Proofs.Ytaeainkfllfdfaa
open Go.RowKit
set_option linter.unusedVariables false
set_option linter.unusedSimpArgs false
set_option maxRecDepth 100000

/-- Tables within tables. -/
def nest (name : ByteArray) : Nat → L
  | 0 => .nil
  | j + 1 => .cons name 5 0 .empty (nest name j) .nil
theorem nest_ok (name : ByteArray) (h : name.size ≤ 40) : ∀ j, (nest name j).Ok
  | 0 => trivial
  | j + 1 => ⟨⟨by omega, Nat.zero_le _, by cases j <;> simp [nest, L.len], by decide, by decide, by decide, by decide⟩, nest_ok name h j, trivial⟩
theorem nest_len (name : ByteArray) (j : Nat) : (nest name j).len ≤ 1 := by cases j <;> simp [nest, L.len]
theorem nest_may (name : ByteArray) (h1 : 1 ≤ name.size) (h2 : name.size ≤ 40) : ∀ j d, (nest name j).mayTab d = decide (d + j ≤ 4)
  | 0, d => by
    rw [Bool.eq_iff_iff]
    simp [nest, L.mayTab, L.mayIts, L.len]
  | j + 1, d => by
    have h := nest_may name h1 h2 j (d + 1)
    unfold L.mayTab at h
    unfold L.mayTab nest L.mayIts
    rw [h]
    have hl := nest_len name j
    rw [Bool.eq_iff_iff]
    simp [L.mayIts, L.len, seenB, kindOk, h1, h2]
    omega
theorem nest_encI (name : ByteArray) (h2 : name.size ≤ 40) : ∀ j, (nest name j).encI.length ≤ 46 * j
  | 0 => by simp [nest, L.encI]
  | j + 1 => by
    have h := nest_encI name h2 j
    simp [nest, L.encI, encBody, be_length]
    have : name.data.size = name.size := rfl
    omega

set_option maxHeartbeats 8000000 in
theorem deep5 (n : Int) (name : ByteArray) (w : World) (hs : name.size ≤ 140737488351232) : Calls Try.prog 5 #[.int .i64 n, .string name] w fun e w' => e = .returned (.bool true) ∧ Still w w' := by
  by_cases hbad : name.size < 1 ∨ 40 < name.size
  · by_cases h1 : name.size < 1
    · go_enter Try.func5, Try.ntmps5
      go_wp2_with fail
      refine (told17 w).mono ?_
      rintro e w1 ⟨rfl, ht1⟩
      have HT1 := Kp.mk ht1; clear ht1
      go_wp2_with fail
      go_ret
      exact ⟨rfl, HT1.out⟩
    · have h2 : 40 < name.size := by omega
      go_enter Try.func5, Try.ntmps5
      go_wp2_with fail
      refine (told17 w).mono ?_
      rintro e w1 ⟨rfl, ht1⟩
      have HT1 := Kp.mk ht1; clear ht1
      go_wp2_with fail
      go_ret
      exact ⟨rfl, HT1.out⟩
  have h1 : 1 ≤ name.size := by omega
  have h2 : name.size ≤ 40 := by omega
  clear hbad
  obtain ⟨m, hm, hm6⟩ : ∃ m : Nat, wrap64 ((IntKind.u64.wrap n).tmod 7) = m ∧ m ≤ 6 := by
    have := rem7 n
    exact ⟨(wrap64 ((IntKind.u64.wrap n).tmod 7)).toNat, by omega, by omega⟩
  have HOK := Kp.mk (nest_ok name h2)
  have HMAY := Kp.mk (nest_may name h1 h2)
  have HENC := Kp.mk (nest_encI name h2)
  go_enter Try.func5, Try.ntmps5
  go_wp2_with fail
  go_loopw [6, 7] (fun v i wr => ∃ (j : Nat) (A : Option Addr) (c : Nat), j ≤ m ∧ i = .int .i64 ((j : Int) + 1) ∧ v = .slice A (nest name j).len c ∧ Kp (Sl wr (fun b => w.heap.size ≤ b) A (nest name j)) ∧ Kp (Still w wr)) (fun _ i _ => (m + 2 - intOf i).toNat)
  case atStart => exact ⟨0, none, 0, by omega, rfl, rfl, ⟨Sl.nil _ _ _⟩, ⟨Still.refl _⟩⟩
  case round =>
    obtain ⟨j, A, c, hj, rfl, rfl, HS, HT⟩ := hrel
    by_cases hlt : j < m
    · go_wp2_with fail
      go_roundw
      case rel =>
        refine ⟨j + 1, _, _, by omega, by go_num, rfl, ⟨?_⟩, ⟨HT.out.alloc _⟩⟩
        exact Sl.new (l := nest name (j + 1)) (n := 1) rfl rfl ⟨A, c, _, rfl, HS.out.still ((Still.refl _).alloc _), rfl⟩ HT.out.size
      case measure => go_light; simp only [intOf]; omega
    · have : j = m := by omega
      subst this
      clear hlt
      go_wp2_with fail
      have hl1 := nest_len name j
      have hmt := HMAY.out j 1
      by_cases hj3 : j ≤ 3
      · have hen := HENC.out j
        have e1 : (nest name j).putE = 0 := by
          unfold L.putE
          rw [hmt, if_pos (decide_eq_true (by omega)), if_neg (by simp [L.enc, be_length]; omega)]
        have e2 : (nest name j).putB = (nest name j).enc := by
          unfold L.putB
          rw [hmt, if_pos (decide_eq_true (by omega)), if_neg (by simp [L.enc, be_length]; omega)]
        obtain ⟨g1, g2⟩ := get_put (HOK.out j) (hmt.trans (decide_eq_true (by omega))) (by simp [L.enc, be_length]; omega)
        have hle : (nest name j).enc.length ≤ 140737488351232 := by simp [L.enc, be_length]; omega
        have HG := Kp.mk g1; have HG2 := Kp.mk g2; have HLE := Kp.mk hle; clear g1 g2 hmt hen hle
        refine (put_ok (nest name j) A c _ wr (by omega) (HOK.out j) HS.out).mono ?_
        rintro e w1 ⟨A1, c1, rfl, ho1, ht1⟩
        rw [e2] at ho1 ⊢
        rw [e1]
        clear e1 e2
        have HO1 := Kp.mk ho1
        have hc1 := ho1.caps
        have HT1 := Kp.mk (HT.out.strans ht1)
        have HS1 := Kp.mk (HS.out.still ht1); clear ho1 ht1 HS HT
        go_wp2_with fail
        refine (get_ok _ A1 c1 _ _ w1 rfl HLE.out hc1.1 hc1.2 HO1.out.bs).mono ?_
        rintro e w2 ⟨A2, c2, rfl, hs2, ht2⟩
        rw [HG2.out]
        rw [HG.out] at hs2 ⊢
        have HS2 := Kp.mk hs2
        have HT2 := Kp.mk (HT1.out.strans ht2)
        have HS3 := Kp.mk (HS1.out.still ht2); clear hs2 ht2 HS1 HT1
        go_wp2_with fail
        refine (told17 w2).mono ?_
        rintro e w3 ⟨rfl, ht3⟩
        have HS4 := Kp.mk (HS2.out.still ht3)
        have HT4 := Kp.mk (HT2.out.strans ht3)
        have HS5 := Kp.mk (HS3.out.still ht3); clear ht3 HS2 HS3 HT2
        go_wp2_with fail
        refine (same_ok (nest name j) (nest name j) A2 A c2 c (fun _ => True) w3 (by omega) (by omega) (HOK.out j) (HOK.out j) (HS4.out.weak (fun _ _ => trivial)) (HS5.out.weak (fun _ _ => trivial))).mono ?_
        rintro e w4 ⟨rfl, ht4⟩
        rw [decide_eq_true (rfl : nest name j = nest name j)]
        have HT5 := Kp.mk (HT4.out.strans ht4); clear ht4
        go_wp2_with fail
        go_ret
        exact ⟨rfl, HT5.out⟩
      · have e1 : (nest name j).putE = 1 := by
          unfold L.putE
          rw [hmt, if_neg (by simp; omega)]
        have e2 : (nest name j).putB = [] := by
          unfold L.putB
          rw [hmt, if_neg (by simp; omega)]
        clear hmt
        refine (put_ok (nest name j) A c _ wr (by omega) (HOK.out j) HS.out).mono ?_
        rintro e w1 ⟨A1, c1, rfl, ho1, ht1⟩
        rw [e2, e1]
        clear e1 e2 ho1
        have HT1 := Kp.mk (HT.out.strans ht1); clear ht1 HS HT
        go_wp2_with fail
        refine (told17 w1).mono ?_
        rintro e w3 ⟨rfl, ht3⟩
        have HT4 := Kp.mk (HT1.out.strans ht3); clear ht3
        go_wp2_with fail
        go_ret
        exact ⟨rfl, HT4.out⟩
end Go.Proofs.Ytaeainkfllfdfaa
