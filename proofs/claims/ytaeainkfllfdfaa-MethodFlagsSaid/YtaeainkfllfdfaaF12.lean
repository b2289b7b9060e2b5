/- The walk of MethodFlags. -/
import Derived.Test.YtaeainkfllfdfaaF13
namespace Go.Proofs.Ytaeainkfllfdfaa
open Go.RowKit
set_option linter.unusedVariables false
set_option linter.unusedSimpArgs false
set_option maxRecDepth 100000

/-- Ack, with a tag. -/
def mA (t : Int) (f : Bool) : M := { M.zero with id := 6080, tg := t, fl := f }
theorem mA_ok {t : Int} (h0 : 0 ≤ t) (h1 : t < 18446744073709551616) (f : Bool) : (mA t f).Ok := by
  obtain ⟨a1, a2, a3, a4, a5, a6, a7, a8, a9, a10, a11, a12, a13, a14, a15⟩ := M.zero_ok
  exact ⟨(by decide : (-9223372036854775808 : Int) ≤ 6080), (by decide : (6080 : Int) ≤ 9223372036854775807), a3, a4, a5, a6, a7, a8, a9, a10, a11, h0, h1, a14, a15⟩
theorem p6080 : partsL 6080 = [116, 102] := by decide
theorem mA_put (t : Int) (f : Bool) : (mA t f).putE = 0 ∧ (mA t f).putB = [0, 60, 0, 80] ++ be t.toNat 8 ++ [if f then 1 else 0] := by
  have hm : (mA t f).mayB = true := by
    rw [M.mayB_iff]
    refine ⟨(by decide : partsL 6080 ≠ [45]), ?_⟩
    have e : partsL (mA t f).id = [116, 102] := p6080
    rw [e]
    intro c hc
    rcases letters_five hc with rfl | rfl | rfl | rfl | rfl | rfl | rfl | rfl | rfl | rfl | rfl <;> rfl
  have hp : (mA t f).putE = 0 := by
    unfold M.putE
    rw [hm, show hasA (mA t f).id = false from (by decide : hasA 6080 = false)]; rfl
  refine ⟨hp, ?_⟩
  have e : partsL (mA t f).id = [116, 102] := p6080
  unfold M.putB
  rw [if_pos hp]
  unfold M.enc
  rw [e]
  simp only [M.encPs, M.encP, List.append_nil]
  have e1 : be (u64w ((mA t f).id.tdiv 100)) 2 ++ be (u64w ((mA t f).id.tmod 100)) 2 = [0, 60, 0, 80] := (by decide : be (u64w ((6080 : Int).tdiv 100)) 2 ++ be (u64w ((6080 : Int).tmod 100)) 2 = [0, 60, 0, 80])
  rw [e1, List.append_assoc]
  rfl
theorem mA_len (t : Int) (f : Bool) : (mA t f).putB.length = 13 := by rw [(mA_put t f).2]; simp [be_length]
/-- The last byte set. -/
theorem mA_set (t : Int) (f : Bool) (c : UInt8) : (mA t f).putB.set 12 c = [0, 60, 0, 80] ++ be t.toNat 8 ++ [c] := by
  rw [(mA_put t f).2, List.set_append_right _ _ (by simp [be_length])]
  simp [be_length]
theorem mA_yes (t : Int) (h0 : 0 ≤ t) (h1 : t < 18446744073709551616) (c : UInt8) (hc : c = 0 ∨ c = 1) : mgE ([0, 60, 0, 80] ++ be t.toNat 8 ++ [c]) = 0 ∧ mgM ([0, 60, 0, 80] ++ be t.toNat 8 ++ [c]) = mA t (decide (c = 1)) := by
  have hg := M.good (mA_ok h0 h1 (decide (c = 1))) (mA_put t _).1
  have e : (mA t (decide (c = 1))).enc = [0, 60, 0, 80] ++ be t.toNat 8 ++ [c] := by
    rw [← hg.putB, (mA_put t _).2]
    rcases hc with rfl | rfl <;> rfl
  rw [← e]
  exact hg.get
theorem mA_no (t : Int) (h0 : 0 ≤ t) (h1 : t < 18446744073709551616) (c : UInt8) (hc : 1 < c.toNat) : mgE ([0, 60, 0, 80] ++ be t.toNat 8 ++ [c]) = 502 := by
  have hg := M.good (mA_ok h0 h1 true) (mA_put t _).1
  have e : (mA t true).enc = [0, 60, 0, 80] ++ be t.toNat 8 ++ [1] := by rw [← hg.putB, (mA_put t _).2]; rfl
  rcases mg_not503 hg (b' := [0, 60, 0, 80] ++ be t.toNat 8 ++ [c]) (by simp) (by rw [e]; rfl) with h | h
  · exfalso
    obtain ⟨g1, g2, g3⟩ := mg_good (by simp [be_length]) h
    obtain ⟨_, _, r3, _⟩ := mg_same (b := (mA t true).enc) (b' := [0, 60, 0, 80] ++ be t.toNat 8 ++ [c]) enc_len (by simp) (by rw [e]; rfl)
    have hid : (mgM ([0, 60, 0, 80] ++ be t.toNat 8 ++ [c])).id = 6080 := by rw [← g3, r3]; exact hg.head.2.2.2
    generalize mgM ([0, 60, 0, 80] ++ be t.toNat 8 ++ [c]) = y at *
    unfold M.enc at g2
    rw [hid, p6080] at g2
    simp only [M.encPs, M.encP, List.append_nil] at g2
    have hl := congrArg List.getLast? g2
    have hr : ([0, 60, 0, 80] ++ be t.toNat 8 ++ [c]).getLast? = some c := by rw [List.getLast?_append]; rfl
    rw [hr] at hl
    simp at hl
    subst hl
    split at hc <;> simp at hc
  · exact h

set_option maxHeartbeats 8000000 in
theorem flags12 (c : UInt8) (t : Int) (w : World) (h0 : 0 ≤ t) (h1 : t < 18446744073709551616) :
    Calls Try.prog 12 #[.int .u8 c.toNat, .int .u64 t] w fun e w' => e = .returned (.bool true) ∧ Still w w' := by
  have HP := Kp.mk (mA_put t true); have HL := Kp.mk (mA_len t true); have HSET := Kp.mk (mA_set t true c)
  have HOK := Kp.mk (mA_ok h0 h1 true)
  go_enter Try.func12, Try.ntmps12
  go_wp2_with fail
  refine (put35 (mA t true) HOK.out (fun _ => True) none 0 w (Sl.nil _ _ _)).mono ?_
  rintro e w1 ⟨A1, c1, rfl, ho1, ht1⟩
  rw [HP.out.1]
  obtain ⟨g, rfl, hg, hlt, hfz, hce⟩ := ho1.open (by rw [HL.out]; decide)
  have hck := hce 12 (by rw [HL.out]; decide)
  have hlc := ho1.caps
  have HCE := Kp.mk hce
  have HT1 := Kp.mk ht1
  have HLN := HL.out
  clear ho1 ht1 hce
  generalize (mA t true).putB = bs at *
  rw [HLN]
  go_wp2_with fail
  have HB2 := Kp.mk (set_byte (k := 12) HCE.out c)
  have HT2 := Kp.mk (show Still w (w1.setCell ⟨g, 12, none⟩ (.int .u8 c.toNat)) from HT1.out.trans ((Tch.refl (· = g) w1).setCell _ _ (fun _ => rfl)) (fun b hb e => by omega))
  rw [HSET.out] at HB2
  clear hck
  generalize w1.setCell ⟨g, 12, none⟩ (.int .u8 c.toNat) = w2 at *
  refine (get36n ([0, 60, 0, 80] ++ be t.toNat 8 ++ [c]) (some ⟨g, 0, none⟩) c1 13 _ w2 (by simp [be_length]) (by simp [be_length]) (by simp [be_length]; omega) hlc.2 HB2.out).mono ?_
  rintro e w3 ⟨A3, c3, rfl, hs3, ht3⟩
  have HT3 := Kp.mk (HT2.out.strans ht3); clear hs3 ht3
  by_cases hc : 1 < c.toNat
  · rw [mA_no t h0 h1 c hc]
    have hcb : decide ((1 : Int) < (c.toNat : Int)) = true := decide_eq_true (by omega)
    generalize mgM ([0, 60, 0, 80] ++ be t.toNat 8 ++ [c]) = y at *
    go_wp2_with fail
    refine (told34 _).mono ?_
    rintro e w4 ⟨rfl, ht4⟩
    have HT4 := Kp.mk ((HT3.out.alloc _).strans ht4); clear ht4
    go_wp2_with fail
    go_ret
    exact ⟨rfl, HT4.out⟩
  · have hcb : decide ((1 : Int) < (c.toNat : Int)) = false := decide_eq_false (by omega)
    have hc2 : c = 0 ∨ c = 1 := by
      have : c.toNat = 0 ∨ c.toNat = 1 := by omega
      rcases this with h | h
      · exact .inl (UInt8.toNat_inj.1 h)
      · exact .inr (UInt8.toNat_inj.1 h)
    obtain ⟨e1, e2⟩ := mA_yes t h0 h1 c hc2
    rw [e1, e2]
    clear e1 e2 hc
    rcases hc2 with rfl | rfl
    all_goals go_wp2_with fail
    all_goals refine (told34 _).mono ?_
    all_goals rintro e w4 ⟨rfl, ht4⟩
    all_goals have x8 := ht4.scell (a := ⟨w3.heap.size, 8, none⟩) (v := .int .u64 t) (by go_simp; exact rfl)
    all_goals first | have x9 := ht4.scell (a := ⟨w3.heap.size, 9, none⟩) (v := .bool false) (by go_simp; exact rfl) | have x9 := ht4.scell (a := ⟨w3.heap.size, 9, none⟩) (v := .bool true) (by go_simp; exact rfl)
    all_goals have HT4 := Kp.mk ((HT3.out.alloc _).strans ht4)
    all_goals clear ht4
    all_goals go_wp2_with fail
    all_goals go_ret
    all_goals exact ⟨rfl, HT4.out⟩
end Go.Proofs.Ytaeainkfllfdfaa
