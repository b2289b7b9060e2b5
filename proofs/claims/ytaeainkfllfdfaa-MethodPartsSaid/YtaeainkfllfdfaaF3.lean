/- The walk of ValueBack. -/
import Derived.Test.YtaeainkfllfdfaaF10
import Derived.Test.YtaeainkfllfdfaaA7
import Derived.Laws.BitsAllLaws
namespace Go.Proofs.Ytaeainkfllfdfaa
open Go.RowKit
set_option linter.unusedVariables false
set_option linter.unusedSimpArgs false
set_option maxRecDepth 100000

/-- A row of no bytes that was just laid. -/
theorem OwnB.made {w : World} {base g : Nat} (h : w.heap[g]? = some (.cells #[] 5)) (hb : base ≤ g) : OwnB w base (some ⟨g, 0, none⟩) 0 [] :=
  ⟨rfl, .inr ⟨g, 0, #[], rfl, hb, h, Nat.le_refl _, by decide, rfl, rfl⟩⟩
theorem OwnB.open {w : World} {base : Nat} {A : Option Addr} {c : Nat} {bs : List UInt8} (h : OwnB w base A c bs) (hl : 0 < bs.length) :
    ∃ g, A = some ⟨g, 0, none⟩ ∧ base ≤ g ∧ g < w.heap.size ∧ (∀ o, w.frozen? ⟨g, o, none⟩ = false) ∧ ∀ j (hj : j < bs.length), w.cell? ⟨g, j, none⟩ = some (.int .u8 (bs[j]'hj).toNat) := by
  have hb := h.bs
  rcases h.2 with ⟨hv', hn⟩ | ⟨g, cap, cur, hv', hg, hh, r⟩
  · omega
  · have hA : A = some ⟨g, 0, none⟩ := by simp at hv'; exact hv'.1
    subst hA
    refine ⟨g, rfl, hg, (Array.getElem?_eq_some_iff.1 hh).1, fun o => by simp [World.frozen?, hh], fun j hj => ?_⟩
    rcases hb with rfl | ⟨b, o, e, _, hc⟩
    · simp at hj
    · obtain ⟨rfl, rfl⟩ : g = b ∧ 0 = o := by simpa using e
      have := hc j hj
      rwa [Nat.zero_add] at this
/-- One byte stored. -/
theorem set_byte {w : World} {g k : Nat} {bs : List UInt8} (hc : ∀ j (hj : j < bs.length), w.cell? ⟨g, j, none⟩ = some (.int .u8 (bs[j]'hj).toNat)) (u : UInt8) : Bs (w.setCell ⟨g, k, none⟩ (.int .u8 u.toNat)) (· = g) (some ⟨g, 0, none⟩) (bs.set k u) := by
  refine .inr ⟨g, 0, rfl, rfl, fun j hj => ?_⟩
  have hj' : j < bs.length := by simpa using hj
  rw [Nat.zero_add]
  by_cases e : k = j
  · subst e
    rw [World.cell?_setCell_same w _ _ (hc k hj')]
    simp
  · rw [World.cell?_setCell_other w _ _ _ (by simp [e]), hc j hj']
    simp [e]
theorem get_okn (b : List UInt8) (A : Option Addr) (c n : Nat) (S : Nat → Prop) (w : World) (hn : n = b.length) (h0 : b.length ≤ 140737488351232) (h1 : b.length ≤ c) (h2 : c ≤ 9223372036854775807) (hB : Bs w S A b) :
    Calls Try.prog 19 #[.slice A n c] w (RetGet w b) := get_ok b A c n S w hn h0 h1 h2 hB

theorem xor_byte (a b : UInt8) : bits .xor .u8 (a.toNat : Int) (b.toNat : Int) = ((a ^^^ b).toNat : Int) := by
  rw [u8_xor_nat _ _ a.toNat_lt b.toNat_lt, UInt8.toNat_xor]
set_option maxHeartbeats 8000000 in
theorem back3 (l : L) (A : Option Addr) (c : Nat) (at_ : Int) (u : UInt8) (w : World) (hl : l.len ≤ 140737488351232) (hO : l.Ok) (hS : Sl w (fun b => b < w.heap.size) A l) :
    Calls Try.prog 3 #[.slice A l.len c, .int .i64 at_, .int .u8 u.toNat] w fun e w' => e = .returned (.bool true) ∧ Still w w' := by
  have HO := Kp.mk hO; clear hO
  have HS := Kp.mk hS; clear hS
  go_enter Try.func3, Try.ntmps3
  go_wp2_with fail
  refine (few16 l A c _ w hl HO.out HS.out).mono ?_
  rintro e w1 ⟨⟨fw, rfl⟩, ht1⟩
  have HT1 := Kp.mk ht1; clear ht1
  cases fw with
  | false =>
    go_wp2_with fail
    refine (told17 w1).mono ?_
    rintro e w2 ⟨rfl, ht2⟩
    have HT2 := Kp.mk (HT1.out.strans ht2); clear ht2
    go_wp2_with fail
    go_ret
    exact ⟨rfl, HT2.out⟩
  | true =>
  go_wp2_with fail
  refine (put_ok l A c _ w1 hl HO.out (HS.out.still HT1.out)).mono ?_
  rintro e w2 ⟨A1, c1, rfl, ho1, ht2⟩
  have hsz := HT1.out.size
  have HT2 := Kp.mk (HT1.out.strans ht2); clear ht2 HT1
  by_cases hE : l.putE = 0
  · obtain ⟨hm, hb, hB⟩ := put_zero hE
    have hok := getOk_enc HO.out hm hb
    rw [hB] at ho1 ⊢
    rw [hE]
    have h4 : 4 ≤ l.enc.length := (getOk_form hok).1
    obtain ⟨k, hk, hkl⟩ := remL at_ l.enc.length (by omega) (by omega)
    have HE := Kp.mk (getE_yes hok); have HL := Kp.mk ((get_put HO.out hm hb).1)
    have HC := Kp.mk (getE_no (back_cut hok hkl)); have HMo := Kp.mk (getE_no (back_more hok u))
    have HTF := Kp.mk (fun h => turn_no (c := u) hok hkl h)
    have HTT := Kp.mk (fun h => getL_turn HO.out hm hb u hkl h)
    have HTL := Kp.mk (turn_length l.enc k u)
    have HTU := Kp.mk (show turn l.enc k u = l.enc.set k (l.enc[k] ^^^ u) by simp [turn, List.getD, hkl])
    have hcp := ho1.caps
    have HOW := Kp.mk ho1
    have hzb : ((l.enc.length : Int) == 0) = false := by rw [beq_eq_false_iff_ne]; omega
    clear ho1 hE hm hB hok
    go_wp2_with fail
    refine (get_okn l.enc A1 c1 _ _ w2 rfl (by omega) hcp.1 hcp.2 HOW.out.bs).mono ?_
    rintro e w3 ⟨A2, c2, rfl, hs2, ht3⟩
    rw [HL.out] at hs2 ⊢
    rw [HE.out]
    have HT3 := Kp.mk (HT2.out.strans ht3)
    have HOW3 := Kp.mk (HOW.out.still ht3)
    have HS2 := Kp.mk hs2; clear hs2 ht3
    go_wp2_with fail
    have hcut := get_okn (l.enc.take k) A1 c1 k (fun b => w1.heap.size ≤ b ∧ b < w3.heap.size ∧ blk A1 b) w3 (by rw [List.length_take]; omega) (by rw [List.length_take]; omega) (by rw [List.length_take]; omega) hcp.2 (HOW3.out.bs.take k)
    refine hcut.mono ?_
    rintro e w4 ⟨A3, c3, rfl, hs3, ht4⟩
    rw [HC.out]
    have HT4 := Kp.mk (HT3.out.strans ht4)
    have HOW4 := Kp.mk (HOW3.out.still ht4)
    have HS3 := Kp.mk (HS2.out.still ht4); clear hs3 ht4 hcut HS2
    go_wp2_with (first
      | (at_builtin; (refine wpList_appB _ rfl (.tmp 62) (.tmp 63) rfl w4.heap.size _ 0 0 _ [] rfl rfl (OwnB.made (heap_alloc_new _ _) (Nat.le_refl _)) A1 c1 l.enc rfl rfl _ (HOW4.out.bs.still ((Still.refl _).alloc _)) ?_ ?_ ?_); (simp only [List.length_nil]; omega); (simp only [World.size_alloc]; omega); intro A5 c5 w5 ho5 ht5 hat5; have HO5 := Kp.mk ho5; have HT5 := Kp.mk (app_still2 (W := w4) ((Still.refl _).alloc _) (fun b hb => (by obtain ⟨y, hy, e⟩ := hb; simp only [Option.some.injEq] at hy; subst hy; (try dsimp only at e); omega)) ht5); clear ho5 ht5 hat5)
      | (at_builtin; (refine wpList_appB _ rfl (.tmp 64) (.tmp 66) rfl w4.heap.size A5 c5 _ 1 ([] ++ l.enc) rfl ?_ (HO5.out.still ((Still.refl _).alloc _)) (some ⟨w5.heap.size, 0, none⟩) 1 [u] rfl rfl (fun _ => True) (Bs.one _ _ _ trivial (new_one _ _ _)) ?_ ?_ ?_); (simp); (simp only [List.length_append, List.length_cons, List.length_nil]; omega); (have := HT5.out.size; simp only [World.size_alloc]; omega); intro A6 c6 w6 ho6 ht6 hat6; have HO6 := Kp.mk ho6; have HT6 := Kp.mk (HT4.out.strans (app_still2 (W := w4) (HT5.out.alloc _) (fun b hb => (HO5.out.base hb).1) ht6)); have HT46 := Kp.mk (app_still2 (W := w4) (HT5.out.alloc _) (fun b hb => (HO5.out.base hb).1) ht6); clear ho6 ht6 hat6))
    have hc6 := HO6.out.caps
    simp only [List.nil_append, List.length_append, List.length_cons, List.length_nil] at hc6
    refine (get_okn ([] ++ l.enc ++ [u]) A6 c6 _ _ w6 (by simp) (by simp; omega) (by simp; omega) hc6.2 HO6.out.bs).mono ?_
    rintro e w7 ⟨A7, c7, rfl, hs7, ht7⟩
    simp only [List.nil_append]
    rw [HMo.out]
    have HT7 := Kp.mk (HT6.out.strans ht7)
    have HOW7 := Kp.mk (HOW4.out.still (HT46.out.strans ht7))
    have HS7 := Kp.mk (HS3.out.still (HT46.out.strans ht7)); clear hs7 ht7 HS3 HOW4 HO5 HO6 HT46 HT5 hc6
    go_wp2_with fail
    refine (same_ok l l A2 A c2 c (fun _ => True) w7 hl hl HO.out HO.out (HS7.out.weak (fun _ _ => trivial)) ((HS.out.still HT7.out).weak (fun _ _ => trivial))).mono ?_
    rintro e w8 ⟨rfl, ht8⟩
    rw [decide_eq_true (rfl : l = l)]
    have HT8 := Kp.mk (HT7.out.strans ht8)
    have HOW8 := Kp.mk (HOW7.out.still ht8); clear ht8 HS7 HOW7
    go_wp2_with (at_builtin; (refine wpList_appB _ rfl (.tmp 87) (.tmp 88) rfl w8.heap.size _ 0 0 _ [] rfl rfl (OwnB.made (heap_alloc_new _ _) (Nat.le_refl _)) A1 c1 l.enc rfl rfl _ (HOW8.out.bs.still ((Still.refl _).alloc _)) ?_ ?_ ?_); (simp only [List.length_nil]; omega); (simp only [World.size_alloc]; omega); intro A9 c9 w9 ho9 ht9 hat9; have HO9 := Kp.mk ho9; have HT9 := Kp.mk (app_still2 (W := w8) ((Still.refl _).alloc _) (fun b hb => (by obtain ⟨y, hy, e⟩ := hb; simp only [Option.some.injEq] at hy; subst hy; (try dsimp only at e); omega)) ht9); clear ho9 ht9 hat9; obtain ⟨g, rfl, hg, hlt, hfz, hce⟩ := (show OwnB w9 w8.heap.size A9 c9 l.enc from HO9.out).open (by omega); have hck := hce k hkl; have HCE := Kp.mk hce; clear hce; have hlc := (show OwnB w9 w8.heap.size (some ⟨g, 0, none⟩) c9 l.enc from HO9.out).caps)
    have HB10 := Kp.mk (set_byte (k := k) HCE.out (l.enc[k] ^^^ u))
    have hT10 : Still w8 (w9.setCell ⟨g, k, none⟩ (.int .u8 (l.enc[k] ^^^ u).toNat)) := HT9.out.trans ((Tch.refl (· = g) w9).setCell _ _ (fun _ => rfl)) (fun b hb e => by omega)
    have HT10 := Kp.mk (HT8.out.strans hT10)
    rw [← HTU.out] at HB10
    rw [xor_byte]
    clear hck hfz HO9
    generalize w9.setCell ⟨g, k, none⟩ (.int .u8 (l.enc[k] ^^^ u).toNat) = w10 at *
    have hcg := get_okn (turn l.enc k u) (some ⟨g, 0, none⟩) c9 l.enc.length (· = g) w10 HTL.out.symm (by rw [HTL.out]; omega) (by rw [HTL.out]; omega) hlc.2 HB10.out
    refine hcg.mono ?_
    rintro e w11 ⟨A11, c11, rfl, hs11, ht11⟩
    have HT11 := Kp.mk (HT10.out.strans ht11)
    have HB11 := Kp.mk (HB10.out.still ht11)
    have HS11 := Kp.mk hs11
    clear hcg hs11 ht11
    cases hgo : getOk (turn l.enc k u) with
    | false =>
      rw [getE_no hgo]
      have hu := HTF.out hgo
      have hub : ((u.toNat : Int) != 0) = true := by
        rw [bne_iff_ne]
        intro h
        exact hu (UInt8.toNat_inj.1 (by simpa using h))
      clear hgo hu
      go_wp2_with fail
      refine (told17 w11).mono ?_
      rintro e w12 ⟨rfl, ht12⟩
      have HT12 := Kp.mk (HT11.out.strans ht12); clear ht12
      go_wp2_with fail
      go_ret
      exact ⟨rfl, HT12.out⟩
    | true =>
      rw [getE_yes hgo]
      obtain ⟨hpb, hpe⟩ := getL_yes hgo
      have HGL := Kp.mk (getL_ok (turn l.enc k u) (by rw [HTL.out]; omega))
      have HQ := Kp.mk (HTT.out hgo)
      have HPB := Kp.mk hpb; have HPE := Kp.mk hpe
      clear hgo hpb hpe
      generalize getL (turn l.enc k u) = y at *
      generalize turn l.enc k u = t at *
      go_wp2_with fail
      refine (put_ok y A11 c11 _ w11 (by have := HGL.out.2; omega) HGL.out.1 HS11.out).mono ?_
      rintro e w12 ⟨A12, c12, rfl, ho12, ht12⟩
      rw [HPE.out]
      rw [HPB.out] at ho12 ⊢
      have HT12 := Kp.mk (HT11.out.strans ht12)
      have HB12 := Kp.mk (HB11.out.still ht12)
      have HS12 := Kp.mk (HS11.out.still ht12)
      have HO12 := Kp.mk ho12; clear ho12 ht12
      go_wp2_with fail
      refine (told17 w12).mono ?_
      rintro e w13 ⟨rfl, ht13⟩
      have HT13 := Kp.mk (HT12.out.strans ht13)
      have hcv1 := run_conv (c := c12) (HO12.out.bs.still ht13) _ rfl
      have hcv2 := run_conv (c := c9) (HB12.out.still ht13) l.enc.length HTL.out.symm
      have HS13 := Kp.mk (HS12.out.still ht13); clear ht13
      go_wp2_with fail
      refine (same_ok y l A11 A c11 c (fun _ => True) w13 (by have := HGL.out.2; omega) hl HGL.out.1 HO.out (HS13.out.weak (fun _ _ => trivial)) ((HS.out.still HT13.out).weak (fun _ _ => trivial))).mono ?_
      rintro e w14 ⟨rfl, ht14⟩
      have HT14 := Kp.mk (HT13.out.strans ht14); clear ht14
      by_cases hu : u = 0
      · have hub : ((u.toNat : Int) == 0) = true := by rw [hu]; rfl
        rw [decide_eq_true (HQ.out.2 hu)]
        clear hu
        go_wp2_with fail
        go_ret
        exact ⟨rfl, HT14.out⟩
      · have hub : ((u.toNat : Int) == 0) = false := by
          rw [beq_eq_false_iff_ne]
          intro h
          exact hu (UInt8.toNat_inj.1 (by simpa using h))
        rw [decide_eq_false (fun h => hu (HQ.out.1 h))]
        clear hu
        go_wp2_with fail
        go_ret
        exact ⟨rfl, HT14.out⟩
  · have hne : (l.putE == 0) = false := by simpa using hE
    have hne2 : (l.putE != 0) = true := by simp [hE]
    clear ho1
    go_wp2_with fail
    refine (told17 w2).mono ?_
    rintro e w4 ⟨rfl, ht4⟩
    have HT4 := Kp.mk (HT2.out.strans ht4); clear ht4
    go_wp2_with fail
    go_ret
    exact ⟨rfl, HT4.out⟩
end Go.Proofs.Ytaeainkfllfdfaa
