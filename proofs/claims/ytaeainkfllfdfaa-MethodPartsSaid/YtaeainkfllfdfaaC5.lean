/- The contract of method.reader's read: one part of a call. -/
import Derived.Test.YtaeainkfllfdfaaC4
namespace Go.Proofs.Ytaeainkfllfdfaa
open Go.RowKit
set_option linter.unusedVariables false
set_option linter.unusedSimpArgs false
set_option maxRecDepth 100000

/-- What read has left. -/
def RetRead (w : World) (R B : Nat) (S SM : Nat → Prop) (x : M × Rd) (e : Ending) (w' : World) : Prop :=
  e = .returned (.tuple #[]) ∧ ∃ A n, MAt w' SM B A n x.1 ∧ RdAt w' R S x.2 ∧ Tch (fun b => b = R ∨ b = B) w w' ∧ ∀ o, w'.frozen? ⟨B, o, none⟩ = false
theorem RdAt.setFar {w : World} {R B o : Nat} {S : Nat → Prop} {r : Rd} {v : Value} (h : RdAt w R S r) (hR : R ≠ B) (hS : ¬ S B) : RdAt (w.setCell ⟨B, o, none⟩ v) R S r :=
  h.tch (T := (· = B)) ((Tch.refl _ w).setCell _ _ (fun _ => rfl)) hR (fun b hb e => hS (e ▸ hb))
theorem frozen_set {w : World} {B o : Nat} {v : Value} (h : ∀ o, w.frozen? ⟨B, o, none⟩ = false) : ∀ p, (w.setCell ⟨B, o, none⟩ v).frozen? ⟨B, p, none⟩ = false := fun p => by
  have := h p
  go_simp

set_option maxHeartbeats 8000000 in
theorem read67 (R B : Nat) (S SM : Nat → Prop) (r : Rd) (m : M) (A : Option Addr) (n : Nat) (c : UInt8) (w : World) (hc : c ∈ lettersL) (hr : RdAt w R S r) (hS : ¬ S R) (hSB : ¬ S B) (hRB : R ≠ B) (hm : MAt w SM B A n m) (hMR : ¬ SM R) (hMB : ¬ SM B)
    (hfz : ∀ o, w.frozen? ⟨B, o, none⟩ = false) (hSM : ∀ k, w.heap.size ≤ k → SM k) (hlen : r.b.length ≤ 140737488351232) :
    Calls Try.prog 67 #[.pointer (some ⟨R, 0, none⟩), .pointer (some ⟨B, 0, none⟩), .int .u8 c.toNat] w (RetRead w R B S SM (Rd.part m c r)) := by
  have hBl : B < w.heap.size := World.block_lt_of_cell? w _ hm.id
  have HR := Kp.mk hr; have HM := Kp.mk hm
  have HS := Kp.mk (And.intro hS hSB); have HMS := Kp.mk (And.intro hMR hMB)
  have HFZ := Kp.mk hfz; have HSM := Kp.mk hSM
  have hcl := letters_five hc
  clear hr hm hS hSB hMR hMB hfz hSM hc
  rcases hcl with rfl | rfl | rfl | rfl | rfl | rfl | rfl | rfl | rfl | rfl | rfl
  · have hv : (r.num 2).1 < 65536 := num_lt' r 2
    have HV := Kp.mk (show Rd.part m 99 r = ({ m with co := ((r.num 2).1 : Int) }, (r.num 2).2) from rfl)
    go_enter Try.func67, Try.ntmps67
    go_wp2_with fail
    refine (rnum66 R S r 2 2 _ rfl (by omega) HR.out HS.out.1).mono ?_
    rintro e w1 ⟨rfl, hr1, ht1⟩
    have hm1 := HM.out.tch ht1 (fun e => hRB e.symm) (fun b hb e => HMS.out.1 (e ▸ hb))
    have hf1 : ∀ o, w1.frozen? ⟨B, o, none⟩ = false := fun o => (ht1.frozen (a := ⟨B, o, none⟩) hBl (fun e => hRB e.symm)).trans (HFZ.out o)
    have x0 := hm1.co
    have HM1 := Kp.mk hm1; have HR1 := Kp.mk hr1; have HF1 := Kp.mk hf1; have HT1 := Kp.mk ht1
    have f0 := hf1 6
    clear hm1 hr1 hf1 ht1
    go_wp2_with fail
    go_end0
    rw [HV.out]
    refine ⟨rfl, A, n, HM1.out.set_co HMS.out.2 _, HR1.out.setFar hRB HS.out.2, ?_, frozen_set HF1.out⟩
    exact (HT1.out.mono (fun b _ h => .inl h)).setCell _ _ (fun _ => .inr rfl)
  · have hv : (r.num 4).1 < 4294967296 := num_lt' r 4
    have HV := Kp.mk (show Rd.part m 117 r = ({ m with cn := ((r.num 4).1 : Int) }, (r.num 4).2) from rfl)
    go_enter Try.func67, Try.ntmps67
    go_wp2_with fail
    refine (rnum66 R S r 4 4 _ rfl (by omega) HR.out HS.out.1).mono ?_
    rintro e w1 ⟨rfl, hr1, ht1⟩
    have hm1 := HM.out.tch ht1 (fun e => hRB e.symm) (fun b hb e => HMS.out.1 (e ▸ hb))
    have hf1 : ∀ o, w1.frozen? ⟨B, o, none⟩ = false := fun o => (ht1.frozen (a := ⟨B, o, none⟩) hBl (fun e => hRB e.symm)).trans (HFZ.out o)
    have x0 := hm1.cn
    have HM1 := Kp.mk hm1; have HR1 := Kp.mk hr1; have HF1 := Kp.mk hf1; have HT1 := Kp.mk ht1
    have f0 := hf1 7
    clear hm1 hr1 hf1 ht1
    go_wp2_with fail
    go_end0
    rw [HV.out]
    refine ⟨rfl, A, n, HM1.out.set_cn HMS.out.2 _, HR1.out.setFar hRB HS.out.2, ?_, frozen_set HF1.out⟩
    exact (HT1.out.mono (fun b _ h => .inl h)).setCell _ _ (fun _ => .inr rfl)
  · have hv : (r.num 8).1 < 18446744073709551616 := num_lt' r 8
    have HV := Kp.mk (show Rd.part m 116 r = ({ m with tg := ((r.num 8).1 : Int) }, (r.num 8).2) from rfl)
    go_enter Try.func67, Try.ntmps67
    go_wp2_with fail
    refine (rnum66 R S r 8 8 _ rfl (by omega) HR.out HS.out.1).mono ?_
    rintro e w1 ⟨rfl, hr1, ht1⟩
    have hm1 := HM.out.tch ht1 (fun e => hRB e.symm) (fun b hb e => HMS.out.1 (e ▸ hb))
    have hf1 : ∀ o, w1.frozen? ⟨B, o, none⟩ = false := fun o => (ht1.frozen (a := ⟨B, o, none⟩) hBl (fun e => hRB e.symm)).trans (HFZ.out o)
    have x0 := hm1.tg
    have HM1 := Kp.mk hm1; have HR1 := Kp.mk hr1; have HF1 := Kp.mk hf1; have HT1 := Kp.mk ht1
    have f0 := hf1 8
    clear hm1 hr1 hf1 ht1
    go_wp2_with fail
    go_end0
    rw [HV.out]
    refine ⟨rfl, A, n, HM1.out.set_tg HMS.out.2 _, HR1.out.setFar hRB HS.out.2, ?_, frozen_set HF1.out⟩
    exact (HT1.out.mono (fun b _ h => .inl h)).setCell _ _ (fun _ => .inr rfl)
  · have hv : (r.num 1).1 < 256 := num_lt' r 1
    have HV := Kp.mk (show Rd.part m 102 r = ({ m with fl := decide ((r.num 1).1 = 1) }, (r.num 1).2) from rfl)
    go_enter Try.func67, Try.ntmps67
    go_wp2_with fail
    refine (rnum66 R S r 1 1 _ rfl (by omega) HR.out HS.out.1).mono ?_
    rintro e w1 ⟨rfl, hr1, ht1⟩
    have hm1 := HM.out.tch ht1 (fun e => hRB e.symm) (fun b hb e => HMS.out.1 (e ▸ hb))
    have hf1 : ∀ o, w1.frozen? ⟨B, o, none⟩ = false := fun o => (ht1.frozen (a := ⟨B, o, none⟩) hBl (fun e => hRB e.symm)).trans (HFZ.out o)
    have x0 := hm1.fl
    have HM1 := Kp.mk hm1; have HR1 := Kp.mk hr1; have HF1 := Kp.mk hf1; have HT1 := Kp.mk ht1
    have f0 := hf1 9
    clear hm1 hr1 hf1 ht1
    go_wp2_with fail
    go_end0
    rw [show (((r.num 1).1 : Int) == 1) = decide ((r.num 1).1 = 1) by rw [Bool.eq_iff_iff]; simp; omega]
    rw [HV.out]
    refine ⟨rfl, A, n, HM1.out.set_fl HMS.out.2 _, HR1.out.setFar hRB HS.out.2, ?_, frozen_set HF1.out⟩
    exact (HT1.out.mono (fun b _ h => .inl h)).setCell _ _ (fun _ => .inr rfl)
  · have hv : (r.num 1).1 < 256 := num_lt' r 1
    have HV := Kp.mk (show Rd.part m 98 r = ({ m with bk := decide ((r.num 1).1 = 1) }, (r.num 1).2) from rfl)
    go_enter Try.func67, Try.ntmps67
    go_wp2_with fail
    refine (rnum66 R S r 1 1 _ rfl (by omega) HR.out HS.out.1).mono ?_
    rintro e w1 ⟨rfl, hr1, ht1⟩
    have hm1 := HM.out.tch ht1 (fun e => hRB e.symm) (fun b hb e => HMS.out.1 (e ▸ hb))
    have hf1 : ∀ o, w1.frozen? ⟨B, o, none⟩ = false := fun o => (ht1.frozen (a := ⟨B, o, none⟩) hBl (fun e => hRB e.symm)).trans (HFZ.out o)
    have x0 := hm1.bk
    have HM1 := Kp.mk hm1; have HR1 := Kp.mk hr1; have HF1 := Kp.mk hf1; have HT1 := Kp.mk ht1
    have f0 := hf1 10
    clear hm1 hr1 hf1 ht1
    go_wp2_with fail
    go_end0
    rw [show (((r.num 1).1 : Int) == 1) = decide ((r.num 1).1 = 1) by rw [Bool.eq_iff_iff]; simp; omega]
    rw [HV.out]
    refine ⟨rfl, A, n, HM1.out.set_bk HMS.out.2 _, HR1.out.setFar hRB HS.out.2, ?_, frozen_set HF1.out⟩
    exact (HT1.out.mono (fun b _ h => .inl h)).setCell _ _ (fun _ => .inr rfl)
  · have HV := Kp.mk (show Rd.part m 97 r = ({ m with ar := getL (r.raw r.b.length).1 }, ⟨(r.raw r.b.length).2.b, (r.raw r.b.length).2.bad || decide (getE (r.raw r.b.length).1 ≠ 0)⟩) from rfl)
    obtain ⟨A0, c0, i0, i1, fi0, fi1, _, _, _⟩ := HR.out
    have HXL := Kp.mk (r.raw_le r.b.length).1
    go_enter Try.func67, Try.ntmps67
    go_wp2_with fail
    refine (raw84 R S r r.b.length _ _ rfl (by omega) HR.out HS.out.1).mono ?_
    rintro e w1 ⟨AX, cX, rfl, hbx, hr1, ht1, hc1, hc2⟩
    generalize r.raw r.b.length = x at *
    have HBX := Kp.mk hbx
    have hm1 := HM.out.tch ht1 (fun e => hRB e.symm) (fun b hb e => HMS.out.1 (e ▸ hb))
    have hf1 : ∀ o, w1.frozen? ⟨B, o, none⟩ = false := fun o => (ht1.frozen (a := ⟨B, o, none⟩) hBl (fun e => hRB e.symm)).trans (HFZ.out o)
    have hz1 := ht1.size
    have HM1 := Kp.mk hm1; have HR1 := Kp.mk hr1; have HF1 := Kp.mk hf1; have HT1 := Kp.mk ht1
    clear hm1 hr1 hf1 ht1 hbx
    go_wp2_with fail
    refine (get_okn x.1 AX cX _ _ w1 rfl (by have := HXL.out; omega) hc1 hc2 HBX.out).mono ?_
    rintro e w2 ⟨A2, c2, rfl, hs2, ht2⟩
    have HS2 := Kp.mk (hs2.weak (fun b hb => HSM.out b (by omega)))
    have HM2 := Kp.mk (HM1.out.still ht2)
    have HR2 := Kp.mk (HR1.out.still ht2)
    have HF2 := Kp.mk (show ∀ o, w2.frozen? ⟨B, o, none⟩ = false from fun o => (ht2.frozen (a := ⟨B, o, none⟩) (show B < w1.heap.size by omega) (fun f => f)).trans (HF1.out o))
    have HT2 := Kp.mk (HT1.out.trans ht2 (S := (· = R)) (fun _ _ f => f.elim))
    have x0 := HM2.out.ar
    have f0 := HF2.out 11
    have hfr := HR2.out
    obtain ⟨A3, c3, j0, j1, fj0, fj1, _, _, _⟩ := HR2.out
    have hfin : ∀ b, b = (x.2.bad || decide (getE x.1 ≠ 0)) → RetRead w R B S SM (Rd.part m 97 r) (.returned (.tuple #[])) ((w2.setCell ⟨B, 11, none⟩ (.slice A2 (getL x.1).len c2)).setCell ⟨R, 1, none⟩ (.bool b)) := fun b hb => by
      subst hb
      rw [HV.out]
      have hR3 : RdAt (w2.setCell ⟨B, 11, none⟩ (.slice A2 (getL x.1).len c2)) R S x.2 := HR2.out.setFar hRB HS.out.2
      refine ⟨rfl, A2, c2, (HM2.out.set_ar HMS.out.2 _ HS2.out).tch (T := (· = R)) ((Tch.refl _ _).setCell _ _ (fun _ => rfl)) (fun e => hRB e.symm) (fun k hk e => HMS.out.1 (e ▸ hk)), hR3.setBit HS.out.1 _, ?_, fun o => ?_⟩
      · exact ((HT2.out.mono (fun b _ h => .inl h)).setCell _ _ (fun _ => .inr rfl)).setCell _ _ (fun _ => .inl rfl)
      · exact (((Tch.refl (· = R) _).setCell _ _ (fun _ => rfl)).frozen (a := ⟨B, o, none⟩) (by show B < (w2.setCell ⟨B, 11, none⟩ (.slice A2 (getL x.1).len c2)).heap.size; have := HT2.out.size; simp only [World.setCell]; simp; omega) (fun e => hRB e.symm)).trans (frozen_set HF2.out o)
    have HFIN := Kp.mk hfin
    have hRB2 : B ≠ R := fun e => hRB e.symm
    clear hs2 ht2 hfr hfin i0 i1 fi0 fi1
    cases hb : x.2.bad with
    | true =>
      rw [hb] at j1 HFIN
      clear hb
      go_wp2_with fail
      go_end0
      exact HFIN.out true rfl
    | false =>
      rw [hb] at j1 HFIN
      clear hb
      by_cases he : getE x.1 = 0
      · rw [he] at HFIN ⊢
        clear he
        go_wp2_with fail
        go_end0
        exact HFIN.out false rfl
      · have hne : (getE x.1 != 0) = true := by simpa using he
        have HE := Kp.mk he; clear he
        go_wp2_with fail
        go_end0
        exact HFIN.out true (by simp [HE.out])
  · have hv : (r.num 1).1 < 256 := num_lt' r 1
    have HV := Kp.mk (show Rd.part m 110 r = ({ m with nm := ⟨((r.num 1).2.raw (r.num 1).1).1.toArray⟩ }, ((r.num 1).2.raw (r.num 1).1).2) from rfl)
    go_enter Try.func67, Try.ntmps67
    go_wp2_with fail
    refine (part65 B 110 w (by decide)).mono ?_
    rintro e w0 ⟨rfl, rfl⟩
    rw [show fieldOf 110 = 1 from rfl]
    go_wp2_with fail
    refine (rnum66 R S r 1 1 _ rfl (by omega) HR.out HS.out.1).mono ?_
    rintro e w1 ⟨rfl, hr1, ht1⟩
    have HR1 := Kp.mk hr1; have HT1 := Kp.mk ht1; clear hr1 ht1
    go_wp2_with fail
    refine (raw84 R S (r.num 1).2 _ _ w1 rfl (by omega) HR1.out HS.out.1).mono ?_
    rintro e w2 ⟨AX, cX, rfl, hbx, hr1, ht2, hc1, hc2⟩
    have ht1 : Tch (· = R) w w2 := HT1.out.trans ht2 (fun b _ h => h)
    have hcv := run_conv (c := cX) hbx _ rfl
    clear HR1 HT1 ht2 hbx
    have hm1 := HM.out.tch ht1 (fun e => hRB e.symm) (fun b hb e => HMS.out.1 (e ▸ hb))
    have hf1 : ∀ o, w2.frozen? ⟨B, o, none⟩ = false := fun o => (ht1.frozen (a := ⟨B, o, none⟩) hBl (fun e => hRB e.symm)).trans (HFZ.out o)
    have x0 := hm1.nm
    have HM1 := Kp.mk hm1; have HR1 := Kp.mk hr1; have HF1 := Kp.mk hf1; have HT1 := Kp.mk ht1
    have f0 := hf1 1
    clear hm1 hr1 hf1 ht1
    go_wp2_with fail
    go_end0
    rw [HV.out]
    refine ⟨rfl, A, n, HM1.out.set_nm HMS.out.2 _, HR1.out.setFar hRB HS.out.2, ?_, frozen_set HF1.out⟩
    exact (HT1.out.mono (fun b _ h => .inl h)).setCell _ _ (fun _ => .inr rfl)
  · have hv : (r.num 1).1 < 256 := num_lt' r 1
    have HV := Kp.mk (show Rd.part m 121 r = ({ m with ty := ⟨((r.num 1).2.raw (r.num 1).1).1.toArray⟩ }, ((r.num 1).2.raw (r.num 1).1).2) from rfl)
    go_enter Try.func67, Try.ntmps67
    go_wp2_with fail
    refine (part65 B 121 w (by decide)).mono ?_
    rintro e w0 ⟨rfl, rfl⟩
    rw [show fieldOf 121 = 2 from rfl]
    go_wp2_with fail
    refine (rnum66 R S r 1 1 _ rfl (by omega) HR.out HS.out.1).mono ?_
    rintro e w1 ⟨rfl, hr1, ht1⟩
    have HR1 := Kp.mk hr1; have HT1 := Kp.mk ht1; clear hr1 ht1
    go_wp2_with fail
    refine (raw84 R S (r.num 1).2 _ _ w1 rfl (by omega) HR1.out HS.out.1).mono ?_
    rintro e w2 ⟨AX, cX, rfl, hbx, hr1, ht2, hc1, hc2⟩
    have ht1 : Tch (· = R) w w2 := HT1.out.trans ht2 (fun b _ h => h)
    have hcv := run_conv (c := cX) hbx _ rfl
    clear HR1 HT1 ht2 hbx
    have hm1 := HM.out.tch ht1 (fun e => hRB e.symm) (fun b hb e => HMS.out.1 (e ▸ hb))
    have hf1 : ∀ o, w2.frozen? ⟨B, o, none⟩ = false := fun o => (ht1.frozen (a := ⟨B, o, none⟩) hBl (fun e => hRB e.symm)).trans (HFZ.out o)
    have x0 := hm1.ty
    have HM1 := Kp.mk hm1; have HR1 := Kp.mk hr1; have HF1 := Kp.mk hf1; have HT1 := Kp.mk ht1
    have f0 := hf1 2
    clear hm1 hr1 hf1 ht1
    go_wp2_with fail
    go_end0
    rw [HV.out]
    refine ⟨rfl, A, n, HM1.out.set_ty HMS.out.2 _, HR1.out.setFar hRB HS.out.2, ?_, frozen_set HF1.out⟩
    exact (HT1.out.mono (fun b _ h => .inl h)).setCell _ _ (fun _ => .inr rfl)
  · have hv : (r.num 1).1 < 256 := num_lt' r 1
    have HV := Kp.mk (show Rd.part m 101 r = ({ m with ex := ⟨((r.num 1).2.raw (r.num 1).1).1.toArray⟩ }, ((r.num 1).2.raw (r.num 1).1).2) from rfl)
    go_enter Try.func67, Try.ntmps67
    go_wp2_with fail
    refine (part65 B 101 w (by decide)).mono ?_
    rintro e w0 ⟨rfl, rfl⟩
    rw [show fieldOf 101 = 3 from rfl]
    go_wp2_with fail
    refine (rnum66 R S r 1 1 _ rfl (by omega) HR.out HS.out.1).mono ?_
    rintro e w1 ⟨rfl, hr1, ht1⟩
    have HR1 := Kp.mk hr1; have HT1 := Kp.mk ht1; clear hr1 ht1
    go_wp2_with fail
    refine (raw84 R S (r.num 1).2 _ _ w1 rfl (by omega) HR1.out HS.out.1).mono ?_
    rintro e w2 ⟨AX, cX, rfl, hbx, hr1, ht2, hc1, hc2⟩
    have ht1 : Tch (· = R) w w2 := HT1.out.trans ht2 (fun b _ h => h)
    have hcv := run_conv (c := cX) hbx _ rfl
    clear HR1 HT1 ht2 hbx
    have hm1 := HM.out.tch ht1 (fun e => hRB e.symm) (fun b hb e => HMS.out.1 (e ▸ hb))
    have hf1 : ∀ o, w2.frozen? ⟨B, o, none⟩ = false := fun o => (ht1.frozen (a := ⟨B, o, none⟩) hBl (fun e => hRB e.symm)).trans (HFZ.out o)
    have x0 := hm1.ex
    have HM1 := Kp.mk hm1; have HR1 := Kp.mk hr1; have HF1 := Kp.mk hf1; have HT1 := Kp.mk ht1
    have f0 := hf1 3
    clear hm1 hr1 hf1 ht1
    go_wp2_with fail
    go_end0
    rw [HV.out]
    refine ⟨rfl, A, n, HM1.out.set_ex HMS.out.2 _, HR1.out.setFar hRB HS.out.2, ?_, frozen_set HF1.out⟩
    exact (HT1.out.mono (fun b _ h => .inl h)).setCell _ _ (fun _ => .inr rfl)
  · have hv : (r.num 1).1 < 256 := num_lt' r 1
    have HV := Kp.mk (show Rd.part m 107 r = ({ m with ky := ⟨((r.num 1).2.raw (r.num 1).1).1.toArray⟩ }, ((r.num 1).2.raw (r.num 1).1).2) from rfl)
    go_enter Try.func67, Try.ntmps67
    go_wp2_with fail
    refine (part65 B 107 w (by decide)).mono ?_
    rintro e w0 ⟨rfl, rfl⟩
    rw [show fieldOf 107 = 4 from rfl]
    go_wp2_with fail
    refine (rnum66 R S r 1 1 _ rfl (by omega) HR.out HS.out.1).mono ?_
    rintro e w1 ⟨rfl, hr1, ht1⟩
    have HR1 := Kp.mk hr1; have HT1 := Kp.mk ht1; clear hr1 ht1
    go_wp2_with fail
    refine (raw84 R S (r.num 1).2 _ _ w1 rfl (by omega) HR1.out HS.out.1).mono ?_
    rintro e w2 ⟨AX, cX, rfl, hbx, hr1, ht2, hc1, hc2⟩
    have ht1 : Tch (· = R) w w2 := HT1.out.trans ht2 (fun b _ h => h)
    have hcv := run_conv (c := cX) hbx _ rfl
    clear HR1 HT1 ht2 hbx
    have hm1 := HM.out.tch ht1 (fun e => hRB e.symm) (fun b hb e => HMS.out.1 (e ▸ hb))
    have hf1 : ∀ o, w2.frozen? ⟨B, o, none⟩ = false := fun o => (ht1.frozen (a := ⟨B, o, none⟩) hBl (fun e => hRB e.symm)).trans (HFZ.out o)
    have x0 := hm1.ky
    have HM1 := Kp.mk hm1; have HR1 := Kp.mk hr1; have HF1 := Kp.mk hf1; have HT1 := Kp.mk ht1
    have f0 := hf1 4
    clear hm1 hr1 hf1 ht1
    go_wp2_with fail
    go_end0
    rw [HV.out]
    refine ⟨rfl, A, n, HM1.out.set_ky HMS.out.2 _, HR1.out.setFar hRB HS.out.2, ?_, frozen_set HF1.out⟩
    exact (HT1.out.mono (fun b _ h => .inl h)).setCell _ _ (fun _ => .inr rfl)
  · have hv : (r.num 1).1 < 256 := num_lt' r 1
    have HV := Kp.mk (show Rd.part m 120 r = ({ m with tx := ⟨((r.num 1).2.raw (r.num 1).1).1.toArray⟩ }, ((r.num 1).2.raw (r.num 1).1).2) from rfl)
    go_enter Try.func67, Try.ntmps67
    go_wp2_with fail
    refine (part65 B 120 w (by decide)).mono ?_
    rintro e w0 ⟨rfl, rfl⟩
    rw [show fieldOf 120 = 5 from rfl]
    go_wp2_with fail
    refine (rnum66 R S r 1 1 _ rfl (by omega) HR.out HS.out.1).mono ?_
    rintro e w1 ⟨rfl, hr1, ht1⟩
    have HR1 := Kp.mk hr1; have HT1 := Kp.mk ht1; clear hr1 ht1
    go_wp2_with fail
    refine (raw84 R S (r.num 1).2 _ _ w1 rfl (by omega) HR1.out HS.out.1).mono ?_
    rintro e w2 ⟨AX, cX, rfl, hbx, hr1, ht2, hc1, hc2⟩
    have ht1 : Tch (· = R) w w2 := HT1.out.trans ht2 (fun b _ h => h)
    have hcv := run_conv (c := cX) hbx _ rfl
    clear HR1 HT1 ht2 hbx
    have hm1 := HM.out.tch ht1 (fun e => hRB e.symm) (fun b hb e => HMS.out.1 (e ▸ hb))
    have hf1 : ∀ o, w2.frozen? ⟨B, o, none⟩ = false := fun o => (ht1.frozen (a := ⟨B, o, none⟩) hBl (fun e => hRB e.symm)).trans (HFZ.out o)
    have x0 := hm1.tx
    have HM1 := Kp.mk hm1; have HR1 := Kp.mk hr1; have HF1 := Kp.mk hf1; have HT1 := Kp.mk ht1
    have f0 := hf1 5
    clear hm1 hr1 hf1 ht1
    go_wp2_with fail
    go_end0
    rw [HV.out]
    refine ⟨rfl, A, n, HM1.out.set_tx HMS.out.2 _, HR1.out.setFar hRB HS.out.2, ?_, frozen_set HF1.out⟩
    exact (HT1.out.mono (fun b _ h => .inl h)).setCell _ _ (fun _ => .inr rfl)
end Go.Proofs.Ytaeainkfllfdfaa
