/- The walk of MethodBack. -/
import Derived.Test.YtaeainkfllfdfaaC8
import Derived.Test.YtaeainkfllfdfaaA11
namespace Go.Proofs.Ytaeainkfllfdfaa
open Go.RowKit
set_option linter.unusedVariables false
set_option linter.unusedSimpArgs false
set_option maxRecDepth 100000

theorem enc_max {m : M} (h : m.Good) : m.enc.length ≤ 15004 := by
  obtain ⟨_, h2, _⟩ := parts_a m.id h.ne
  have h1 := enc0_le m h.may h.pe h2 _ (Nat.le_refl _)
  rw [M.enc0_all m _ (Nat.le_refl _)] at h1
  omega
theorem get36n (b : List UInt8) (A : Option Addr) (c n : Nat) (S : Nat → Prop) (w : World) (hn : n = b.length) (h0 : b.length ≤ 140737488351232) (h1 : b.length ≤ c) (h2 : c ≤ 9223372036854775807) (hB : Bs w S A b) :
    Calls Try.prog 36 #[.slice A n c] w (RetGetM w b) := get36 b A c n S w hn h0 h1 h2 hB

/-- A call's block. -/
abbrev M.obj (m : M) (A : Option Addr) (c : Nat) : Obj := .cells #[.int .i64 m.id, .string m.nm, .string m.ty, .string m.ex, .string m.ky, .string m.tx, .int .i64 m.co, .int .i64 m.cn, .int .u64 m.tg, .bool m.fl, .bool m.bk, .slice A m.ar.len c] 42

set_option maxHeartbeats 16000000 in
theorem back13 (m : M) (A : Option Addr) (c : Nat) (at_ : Int) (u : UInt8) (w : World) (hO : m.Ok) (hS : Sl w (fun b => b < w.heap.size) A m.ar) :
    Calls Try.prog 13 #[m.val A c, .int .i64 at_, .int .u8 u.toNat] w fun e w' => e = .returned (.bool true) ∧ Still w w' := by
  have HO := Kp.mk hO; clear hO
  have HS := Kp.mk hS
  have HM0 := Kp.mk (MAt.new (c := c) m hS); clear hS
  go_enter Try.func13, Try.ntmps13
  go_wp2_with fail
  refine (few23 m A c _ _ HO.out (HS.out.still ((Still.refl _).alloc _))).mono ?_
  rintro e w1 ⟨⟨fw, rfl⟩, ht1⟩
  have HT1 := Kp.mk (((Still.refl w).alloc _).strans ht1)
  have HM1 := Kp.mk (HM0.out.still ht1)
  clear ht1 HM0
  cases fw with
  | false =>
    go_wp2_with fail
    refine (told34 w1).mono ?_
    rintro e w2 ⟨rfl, ht2⟩
    have HT2 := Kp.mk (HT1.out.strans ht2); clear ht2
    go_wp2_with fail
    go_ret
    exact ⟨rfl, HT2.out⟩
  | true =>
  have q0 := HM1.out.id
  have q1 := HM1.out.nm
  have q2 := HM1.out.ty
  have q3 := HM1.out.ex
  have q4 := HM1.out.ky
  have q5 := HM1.out.tx
  have q6 := HM1.out.co
  have q7 := HM1.out.cn
  have q8 := HM1.out.tg
  have q9 := HM1.out.fl
  have q10 := HM1.out.bk
  have q11 := HM1.out.ar
  go_wp2_with fail
  refine (put35 m HO.out _ A c w1 HM1.out.sl).mono ?_
  rintro e w2 ⟨A1, c1, rfl, ho1, ht2⟩
  have hsz := HT1.out.size
  have HT2 := Kp.mk (HT1.out.strans ht2)
  have HM2 := Kp.mk (HM1.out.still ht2)
  clear ht2 HT1 HM1 q0 q1 q2 q3 q4 q5 q6 q7 q8 q9 q10 q11
  by_cases hE : m.putE = 0
  · have hg := M.good HO.out hE
    have hmax := enc_max hg
    rw [hg.putB] at ho1 ⊢
    rw [hE]
    have h4 := @enc_len m
    obtain ⟨k, hk, hkl⟩ := remL at_ m.enc.length (by omega) (by omega)
    have HE := Kp.mk hg.get.1; have HL := Kp.mk hg.get.2
    have HC := Kp.mk (mg_take hg (by omega) hkl); have HMo := Kp.mk (mg_more hg (by omega) u)
    have HTF := Kp.mk (fun h => mg_turn_no hg u hkl h)
    have HTT := Kp.mk (fun h => mg_turn_yes hg u hkl (by omega) h)
    have HTL := Kp.mk (turn_length m.enc k u)
    have HTU := Kp.mk (show turn m.enc k u = m.enc.set k (m.enc[k] ^^^ u) by simp [turn, List.getD, hkl])
    have hcp := ho1.caps
    have HOW := Kp.mk ho1
    have hzb : decide ((m.enc.length : Int) < 4) = false := decide_eq_false (by omega)
    clear ho1 hE hg
    go_wp2_with fail
    refine (get36n m.enc A1 c1 _ _ w2 rfl (by omega) hcp.1 hcp.2 HOW.out.bs).mono ?_
    rintro e w3 ⟨A2, c2, rfl, hs2, ht3⟩
    rw [HL.out] at hs2 ⊢
    rw [HE.out]
    have hx3 := MAt.new (c := c2) m hs2
    go_wp2_with fail
    have hu3 : Still w3 (w3.alloc (m.obj A2 c2)) := (Still.refl _).alloc _
    change MAt (w3.alloc (m.obj A2 c2)) _ _ _ _ _ at hx3
    generalize w3.alloc (m.obj A2 c2) = W3 at *
    generalize w3.heap.size = X3 at *
    have HT3 := Kp.mk (HT2.out.strans (ht3.strans hu3))
    have HX3 := Kp.mk hx3
    have HOW3 := Kp.mk (HOW.out.still (ht3.strans hu3))
    have HM3 := Kp.mk (HM2.out.still (ht3.strans hu3))
    clear hs2 ht3 hx3 hu3
    refine (get36n (m.enc.take k) A1 c1 k (fun b => w1.heap.size ≤ b ∧ b < W3.heap.size ∧ blk A1 b) W3 (by rw [List.length_take]; omega) (by rw [List.length_take]; omega) (by rw [List.length_take]; omega) hcp.2 (HOW3.out.bs.take k)).mono ?_
    rintro e w4 ⟨A3, c3, rfl, hs3, ht4⟩
    rw [HC.out]
    generalize mgM (m.enc.take k) = mk at *
    go_upto_region 9 with (fail)
    have hu4 : Still w4 (w4.alloc (mk.obj A3 c3)) := (Still.refl _).alloc _
    generalize w4.alloc (mk.obj A3 c3) = W4 at *
    generalize w4.heap.size = X4 at *
    have ht5 := ht4.strans hu4
    clear hu4 ht4
    have HT4 := Kp.mk ht5; clear ht5
    go_wp2_with (first
      | (at_builtin; (refine wpList_appB _ rfl (.tmp 62) (.tmp 63) rfl W4.heap.size _ 0 0 _ [] rfl rfl (OwnB.made (heap_alloc_new _ _) (Nat.le_refl _)) A1 c1 m.enc rfl rfl _ (HOW3.out.bs.still (HT4.out.alloc _)) ?_ ?_ ?_); (simp only [List.length_nil]; omega); (simp only [World.size_alloc]; omega); intro A5 c5 w5 ho5 ht5 hat5; have HO5 := Kp.mk ho5; have HT5 := Kp.mk (app_still2 (W := W4) ((Still.refl _).alloc _) (fun b hb => (by obtain ⟨y, hy, e⟩ := hb; simp only [Option.some.injEq] at hy; subst hy; (try dsimp only at e); omega)) ht5); clear ho5 ht5 hat5)
      | (at_builtin; (refine wpList_appB _ rfl (.tmp 64) (.tmp 66) rfl W4.heap.size A5 c5 _ 1 ([] ++ m.enc) rfl ?_ (HO5.out.still ((Still.refl _).alloc _)) (some ⟨w5.heap.size, 0, none⟩) 1 [u] rfl rfl (fun _ => True) (Bs.one _ _ _ trivial (new_one _ _ _)) ?_ ?_ ?_); (simp); (simp only [List.length_append, List.length_cons, List.length_nil]; omega); (have := HT5.out.size; simp only [World.size_alloc]; omega); intro A6 c6 w6 ho6 ht6 hat6; have HO6 := Kp.mk ho6; have HT6 := Kp.mk (show Still W3 w6 from HT4.out.strans (app_still2 (W := W4) (HT5.out.alloc _) (fun b hb => (HO5.out.base hb).1) ht6)); clear ho6 ht6 hat6))
    have hc6 := HO6.out.caps
    simp only [List.nil_append, List.length_append, List.length_cons, List.length_nil] at hc6
    have HT6' := Kp.mk (HT3.out.strans HT6.out)
    have HX6 := Kp.mk (HX3.out.still HT6.out)
    have HM6 := Kp.mk (HM3.out.still HT6.out)
    have HOW6 := Kp.mk (HOW3.out.still HT6.out)
    clear hs3 HT4 HO5 HT5 HX3 HM3 HOW3 HT6
    refine (get36n ([] ++ m.enc ++ [u]) A6 c6 _ _ w6 (by simp) (by simp; omega) (by simp; omega) hc6.2 HO6.out.bs).mono ?_
    rintro e w7 ⟨A7, c7, rfl, hs7, ht7⟩
    simp only [List.nil_append]
    rw [HMo.out]
    generalize mgM (m.enc ++ [u]) = mo at *
    have HT7 := Kp.mk (HT6'.out.strans (ht7.strans ((Still.refl _).alloc (mo.obj A7 c7))))
    have HX7 := Kp.mk (HX6.out.still (ht7.strans ((Still.refl _).alloc (mo.obj A7 c7))))
    have HM7 := Kp.mk (HM6.out.still (ht7.strans ((Still.refl _).alloc (mo.obj A7 c7))))
    have HOW7 := Kp.mk (HOW6.out.still (ht7.strans ((Still.refl _).alloc (mo.obj A7 c7))))
    clear hs7 ht7 HX6 HM6 HOW6 HO6 HT6' hc6
    have x0 := HX7.out.id
    have x1 := HX7.out.nm
    have x2 := HX7.out.ty
    have x3 := HX7.out.ex
    have x4 := HX7.out.ky
    have x5 := HX7.out.tx
    have x6 := HX7.out.co
    have x7 := HX7.out.cn
    have x8 := HX7.out.tg
    have x9 := HX7.out.fl
    have x10 := HX7.out.bk
    have x11 := HX7.out.ar
    have q0 := HM7.out.id
    have q1 := HM7.out.nm
    have q2 := HM7.out.ty
    have q3 := HM7.out.ex
    have q4 := HM7.out.ky
    have q5 := HM7.out.tx
    have q6 := HM7.out.co
    have q7 := HM7.out.cn
    have q8 := HM7.out.tg
    have q9 := HM7.out.fl
    have q10 := HM7.out.bk
    have q11 := HM7.out.ar
    go_wp2_with fail
    refine (same37 m m A2 A c2 c (fun _ => True) _ HO.out HO.out (HX7.out.sl.weak (fun _ _ => trivial)) (HM7.out.sl.weak (fun _ _ => trivial))).mono ?_
    rintro e w8 ⟨rfl, ht8⟩
    rw [decide_eq_true (rfl : m = m)]
    have HT8 := Kp.mk (HT7.out.strans ht8)
    have HM8 := Kp.mk (HM7.out.still ht8)
    have HOW8 := Kp.mk (HOW7.out.still ht8); clear ht8 HX7 HM7 HOW7 HT7 x0 x1 x2 x3 x4 x5 x6 x7 x8 x9 x10 x11 q0 q1 q2 q3 q4 q5 q6 q7 q8 q9 q10 q11
    go_wp2_with (at_builtin; (refine wpList_appB _ rfl (.tmp 87) (.tmp 88) rfl w8.heap.size _ 0 0 _ [] rfl rfl (OwnB.made (heap_alloc_new _ _) (Nat.le_refl _)) A1 c1 m.enc rfl rfl _ (HOW8.out.bs.still ((Still.refl _).alloc _)) ?_ ?_ ?_); (simp only [List.length_nil]; omega); (simp only [World.size_alloc]; omega); intro A9 c9 w9 ho9 ht9 hat9; have HO9 := Kp.mk ho9; have HT9 := Kp.mk (app_still2 (W := w8) ((Still.refl _).alloc _) (fun b hb => (by obtain ⟨y, hy, e⟩ := hb; simp only [Option.some.injEq] at hy; subst hy; (try dsimp only at e); omega)) ht9); clear ho9 ht9 hat9; obtain ⟨g, rfl, hg, hlt, hfz, hce⟩ := (show OwnB w9 w8.heap.size A9 c9 m.enc from HO9.out).open (by omega); have hck := hce k hkl; have HCE := Kp.mk hce; clear hce; have hlc := (show OwnB w9 w8.heap.size (some ⟨g, 0, none⟩) c9 m.enc from HO9.out).caps)
    have HB10 := Kp.mk (set_byte (k := k) HCE.out (m.enc[k] ^^^ u))
    have hT10 : Still w8 (w9.setCell ⟨g, k, none⟩ (.int .u8 (m.enc[k] ^^^ u).toNat)) := HT9.out.trans ((Tch.refl (· = g) w9).setCell _ _ (fun _ => rfl)) (fun b hb e => by omega)
    have HT10 := Kp.mk (HT8.out.strans hT10)
    have HM10 := Kp.mk (HM8.out.still hT10)
    rw [← HTU.out] at HB10
    rw [xor_byte]
    clear hck hfz HO9 hT10 HM8
    generalize w9.setCell ⟨g, k, none⟩ (.int .u8 (m.enc[k] ^^^ u).toNat) = w10 at *
    have hcg := get36n (turn m.enc k u) (some ⟨g, 0, none⟩) c9 m.enc.length (· = g) w10 HTL.out.symm (by rw [HTL.out]; omega) (by rw [HTL.out]; omega) hlc.2 HB10.out
    refine hcg.mono ?_
    rintro e w11 ⟨A11, c11, rfl, hs11, ht11⟩
    have hgo := mgM_ok (turn m.enc k u) (by rw [HTL.out]; omega)
    have HGO := Kp.mk hgo
    have hu11 : Still w11 (w11.alloc ((mgM (turn m.enc k u)).obj A11 c11)) := (Still.refl _).alloc _
    have hx11 := MAt.new (c := c11) (mgM (turn m.enc k u)) hs11
    change MAt (w11.alloc ((mgM (turn m.enc k u)).obj A11 c11)) _ _ _ _ _ at hx11
    have HT11 := Kp.mk (HT10.out.strans (ht11.strans hu11))
    have HB11 := Kp.mk (HB10.out.still (ht11.strans hu11))
    have HM11 := Kp.mk (HM10.out.still (ht11.strans hu11))
    have HX11 := Kp.mk hx11
    clear hcg hs11 ht11 hgo hx11 hu11 HM10 HB10
    by_cases hz : mgE (turn m.enc k u) = 0
    · rw [hz]
      obtain ⟨t1, t2, t3⟩ := HTT.out hz
      have HQ := Kp.mk t1; have HPE := Kp.mk t2; have HPB := Kp.mk t3
      clear hz t1 t2 t3
      generalize mgM (turn m.enc k u) = y at *
      generalize turn m.enc k u = t at *
      have x0 := HX11.out.id
      have x1 := HX11.out.nm
      have x2 := HX11.out.ty
      have x3 := HX11.out.ex
      have x4 := HX11.out.ky
      have x5 := HX11.out.tx
      have x6 := HX11.out.co
      have x7 := HX11.out.cn
      have x8 := HX11.out.tg
      have x9 := HX11.out.fl
      have x10 := HX11.out.bk
      have x11 := HX11.out.ar
      go_wp2_with fail
      refine (put35 y HGO.out _ A11 c11 _ HX11.out.sl).mono ?_
      rintro e w12 ⟨A12, c12, rfl, ho12, ht12⟩
      rw [HPE.out]
      rw [HPB.out] at ho12 ⊢
      have HT12 := Kp.mk (HT11.out.strans ht12)
      have HB12 := Kp.mk (HB11.out.still ht12)
      have HX12 := Kp.mk (HX11.out.still ht12)
      have HM12 := Kp.mk (HM11.out.still ht12)
      have HO12 := Kp.mk ho12; clear ho12 ht12 HX11 HM11 HB11 x0 x1 x2 x3 x4 x5 x6 x7 x8 x9 x10 x11
      go_wp2_with fail
      refine (told34 w12).mono ?_
      rintro e w13 ⟨rfl, ht13⟩
      have HT13 := Kp.mk (HT12.out.strans ht13)
      have hcv1 := run_conv (c := c12) (HO12.out.bs.still ht13) _ rfl
      have hcv2 := run_conv (c := c9) (HB12.out.still ht13) m.enc.length HTL.out.symm
      have HX13 := Kp.mk (HX12.out.still ht13)
      have HM13 := Kp.mk (HM12.out.still ht13); clear ht13 HX12 HM12
      have x0 := HX13.out.id
      have x1 := HX13.out.nm
      have x2 := HX13.out.ty
      have x3 := HX13.out.ex
      have x4 := HX13.out.ky
      have x5 := HX13.out.tx
      have x6 := HX13.out.co
      have x7 := HX13.out.cn
      have x8 := HX13.out.tg
      have x9 := HX13.out.fl
      have x10 := HX13.out.bk
      have x11 := HX13.out.ar
      have q0 := HM13.out.id
      have q1 := HM13.out.nm
      have q2 := HM13.out.ty
      have q3 := HM13.out.ex
      have q4 := HM13.out.ky
      have q5 := HM13.out.tx
      have q6 := HM13.out.co
      have q7 := HM13.out.cn
      have q8 := HM13.out.tg
      have q9 := HM13.out.fl
      have q10 := HM13.out.bk
      have q11 := HM13.out.ar
      go_wp2_with fail
      refine (same37 y m A11 A c11 c (fun _ => True) w13 HGO.out HO.out (HX13.out.sl.weak (fun _ _ => trivial)) (HM13.out.sl.weak (fun _ _ => trivial))).mono ?_
      rintro e w14 ⟨rfl, ht14⟩
      have HT14 := Kp.mk (HT13.out.strans ht14); clear ht14 x0 x1 x2 x3 x4 x5 x6 x7 x8 x9 x10 x11 q0 q1 q2 q3 q4 q5 q6 q7 q8 q9 q10 q11 hcv1 hcv2
      by_cases hu : u = 0
      · have hub : ((u.toNat : Int) == 0) = true := by rw [hu]; rfl
        rw [decide_eq_true (HQ.out.2 hu)]
        clear hu
        go_wp2_with fail
        go_ret
        exact ⟨rfl, HT14.out⟩
      · have hub : ((u.toNat : Int) == 0) = false := by
          rw [beq_eq_false_iff_ne]
          intro h
          exact hu (UInt8.toNat_inj.1 (by simpa using h))
        rw [decide_eq_false (fun h => hu (HQ.out.1 h))]
        clear hu
        go_wp2_with fail
        go_ret
        exact ⟨rfl, HT14.out⟩
    · obtain ⟨hu, hc⟩ := HTF.out hz
      have hub : ((u.toNat : Int) != 0) = true := by
        rw [bne_iff_ne]
        intro h
        exact hu (UInt8.toNat_inj.1 (by simpa using h))
      clear hu hz HX11 HM11
      rcases hc with hc | ⟨hc, hk4⟩
      · rw [hc]
        clear hc
        go_wp2_with fail
        refine (told34 _).mono ?_
        rintro e w12 ⟨rfl, ht12⟩
        have HT12 := Kp.mk (HT11.out.strans ht12); clear ht12
        go_wp2_with fail
        go_ret
        exact ⟨rfl, HT12.out⟩
      · rw [hc]
        have hkb : decide ((k : Int) < 4) = true := decide_eq_true (by omega)
        clear hc
        go_wp2_with fail
        refine (told34 _).mono ?_
        rintro e w12 ⟨rfl, ht12⟩
        have HT12 := Kp.mk (HT11.out.strans ht12); clear ht12
        go_wp2_with fail
        go_ret
        exact ⟨rfl, HT12.out⟩
  · have hne2 : (m.putE != 0) = true := by simp [hE]
    have HEN := Kp.mk hE
    clear ho1 hE
    go_wp2_with fail
    refine (told34 w2).mono ?_
    rintro e w4 ⟨rfl, ht4⟩
    have HT4 := Kp.mk (HT2.out.strans ht4); clear ht4
    go_wp2_with fail
    go_ret
    exact ⟨rfl, HT4.out⟩
end Go.Proofs.Ytaeainkfllfdfaa
