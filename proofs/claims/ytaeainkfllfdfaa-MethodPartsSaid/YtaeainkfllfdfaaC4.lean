/- The contracts of method.reader's raw, num and read: the parts of a call. -/
import Derived.Test.YtaeainkfllfdfaaC3
namespace Go.Proofs.Ytaeainkfllfdfaa
open Go.RowKit
set_option linter.unusedVariables false
set_option linter.unusedSimpArgs false
set_option maxRecDepth 100000

set_option maxHeartbeats 1000000 in
theorem raw84 (R : Nat) (S : Nat → Prop) (r : Rd) (n : Nat) (N : Int) (w : World) (hN : N = n) (hn : n ≤ 9223372036854775807) (hr : RdAt w R S r) (hS : ¬ S R) :
    Calls Try.prog 84 #[.pointer (some ⟨R, 0, none⟩), .int .i64 N] w (RetRaw w R S (r.raw n)) := by
  subst hN
  have HR := Kp.mk hr
  have HS := Kp.mk hS; clear hS
  obtain ⟨A, c, h0, h1, f0, f1, hB, hc, hc2⟩ := hr
  have HB := Kp.mk hB; clear hB
  by_cases hbad : r.bad = true
  · have e : r.raw n = ([], ⟨r.b, true⟩) := by simp [Rd.raw, hbad]
    rw [e]; clear e
    rw [hbad] at h1
    have HBAD := Kp.mk hbad; clear hbad
    go_enter Try.func84, Try.ntmps84
    go_wp2_with fail
    go_ret
    exact ⟨none, 0, rfl, Bs.nil _ _ _, HR.out.setBad HS.out, (Tch.refl _ w).setCell _ _ (fun _ => rfl), Nat.le_refl _, Nat.zero_le _⟩
  have hbad : r.bad = false := by simpa using hbad
  by_cases hlong : r.b.length < n
  · have e : r.raw n = ([], ⟨r.b, true⟩) := by simp [Rd.raw, hlong]
    rw [e]; clear e
    rw [hbad] at h1
    have HBAD := Kp.mk hbad; clear hbad
    go_enter Try.func84, Try.ntmps84
    go_wp2_with fail
    go_ret
    exact ⟨none, 0, rfl, Bs.nil _ _ _, HR.out.setBad HS.out, (Tch.refl _ w).setCell _ _ (fun _ => rfl), Nat.le_refl _, Nat.zero_le _⟩
  · have e : r.raw n = (r.b.take n, ⟨r.b.drop n, false⟩) := by simp [Rd.raw, hbad, hlong]
    rw [e]; clear e
    rw [hbad] at h1
    have HBAD := Kp.mk hbad; clear hbad
    have hle : n ≤ c := by omega
    have ht := Kp.mk (show (r.b.take n).length = n by rw [List.length_take, Nat.min_eq_left (by omega)])
    by_cases hcn : c = n
    · subst hcn
      have hle := hle
      go_enter Try.func84, Try.ntmps84
      go_wp2_with fail
      go_ret
      refine ⟨A, c, by rw [ht.out]; rfl, ?_, ?_, (Tch.refl _ w).setCell _ _ (fun _ => rfl), by rw [ht.out]; exact hle, hc2⟩
      · exact (HB.out.take c).tch (T := (· = R)) ((Tch.refl _ w).setCell _ _ (fun _ => rfl)) (fun b hb e => HS.out (e ▸ hb))
      · have := HR.out.setB HS.out A 0 (r.b.length - c) (r.b.drop c) (by simp) (by have := HB.out.drop c c hc; rwa [if_pos rfl] at this) (by simp; omega) (by omega)
        rw [HBAD.out, show r.b.length - c = 0 from by omega] at this
        exact this
    · go_enter Try.func84, Try.ntmps84
      go_wp2_with fail
      go_ret
      refine ⟨A, c, by rw [ht.out]; rfl, ?_, ?_, (Tch.refl _ w).setCell _ _ (fun _ => rfl), by rw [ht.out]; exact hle, hc2⟩
      · exact (HB.out.take n).tch (T := (· = R)) ((Tch.refl _ w).setCell _ _ (fun _ => rfl)) (fun b hb e => HS.out (e ▸ hb))
      · have := HR.out.setB HS.out (A.map (·.add n)) (c - n) (r.b.length - n) (r.b.drop n) (by simp) (by have := HB.out.drop n c hc; rwa [if_neg hcn] at this) (by simp; omega) (by omega)
        rw [HBAD.out] at this
        exact this

set_option maxHeartbeats 1000000 in
theorem rnum66 (R : Nat) (S : Nat → Prop) (r : Rd) (k : Nat) (K : Int) (w : World) (hK : K = k) (hk : k ≤ 8) (hr : RdAt w R S r) (hS : ¬ S R) :
    Calls Try.prog 66 #[.pointer (some ⟨R, 0, none⟩), .int .i64 K] w (RetNum w R S (r.num k)) := by
  subst hK
  have HR := Kp.mk hr; clear hr
  have HS := Kp.mk hS; clear hS
  go_enter Try.func66, Try.ntmps66
  go_wp2_with fail
  refine (raw84 R S r k _ w rfl (by omega) HR.out HS.out).mono ?_
  rintro e w1 ⟨A, c, rfl, hB, hR1, hT1, _⟩
  have hxl : (r.raw k).1.length ≤ 8 := by have : (r.raw k).1.length ≤ k := by { unfold Rd.raw; split <;> simp; omega }; omega
  have HV := Kp.mk (show (r.num k).1 = val (r.raw k).1 ∧ (r.num k).2 = (r.raw k).2 from ⟨rfl, rfl⟩)
  generalize (r.raw k).1 = x at *
  generalize (r.raw k).2 = r1 at *
  have HB := Kp.mk hB; clear hB
  have HR1 := Kp.mk hR1; clear hR1
  have HT1 := Kp.mk hT1; clear hT1
  go_wp2_with fail
  go_loopw [5, 12] (fun v i wr => ∃ j : Nat, j ≤ x.length ∧ i = .int .i64 j ∧ v = .int .u64 (val (x.take j)) ∧ wr = w1) (fun _ i _ => x.length - (intOf i).toNat)
  case atStart => exact ⟨0, by omega, rfl, rfl, rfl⟩
  case round =>
    obtain ⟨j, hj, rfl, rfl, rfl⟩ := hrel
    by_cases hlt : j < x.length
    · rcases HB.out with rfl | ⟨b, o, rfl, hb, hc⟩
      · simp at hlt
      have hcj := hc j hlt
      clear hc
      have hor := shl_or (val (x.take j)) x[j].toNat (val_small _ (by simp; omega)) (x[j].toNat_lt)
      have HOR := Kp.mk hor; clear hor
      go_wp2_with fail
      go_light
      rw [HOR.out]
      refine ⟨⟨j + 1, by omega, by go_num, ?_, trivial⟩, by simp only [intOf]; omega⟩
      rw [List.take_succ_eq_append_getElem hlt, val_snoc]
    · have hjl : j = x.length := by omega
      subst hjl
      go_wp2_with fail
      go_ret
      rw [List.take_length]
      exact ⟨by rw [HV.out.1]; rfl, by rw [HV.out.2]; exact HR1.out, HT1.out⟩

theorem num_lt' (r : Rd) (k : Nat) : (r.num k).1 < 256 ^ k := by
  have h1 : (r.raw k).1.length ≤ k := by unfold Rd.raw; split <;> simp; omega
  exact Nat.lt_of_lt_of_le (val_lt _) (Nat.pow_le_pow_right (by omega) h1)
/-- A part read. -/
def Rd.part (m : M) (c : UInt8) (r : Rd) : M × Rd :=
  if c = 99 then ({ m with co := (r.num 2).1 }, (r.num 2).2)
  else if c = 117 then ({ m with cn := (r.num 4).1 }, (r.num 4).2)
  else if c = 116 then ({ m with tg := (r.num 8).1 }, (r.num 8).2)
  else if c = 102 then ({ m with fl := decide ((r.num 1).1 = 1) }, (r.num 1).2)
  else if c = 98 then ({ m with bk := decide ((r.num 1).1 = 1) }, (r.num 1).2)
  else if c = 97 then ({ m with ar := getL (r.raw r.b.length).1 }, ⟨(r.raw r.b.length).2.b, (r.raw r.b.length).2.bad || decide (getE (r.raw r.b.length).1 ≠ 0)⟩)
  else
    let s := (r.num 1).2.raw (r.num 1).1
    let t : ByteArray := ⟨s.1.toArray⟩
    ((if c = 110 then { m with nm := t } else if c = 121 then { m with ty := t } else if c = 101 then { m with ex := t } else if c = 107 then { m with ky := t } else { m with tx := t }), s.2)
theorem MAt.set_co {w : World} {S : Nat → Prop} {b : Nat} {A : Option Addr} {c : Nat} {m : M} (h : MAt w S b A c m) (hS : ¬ S b) (x : Int) : MAt (w.setCell ⟨b, 6, none⟩ (.int .i64 x)) S b A c { m with co := x } := by
  refine ⟨?_, ?_, ?_, ?_, ?_, ?_, ?_, ?_, ?_, ?_, ?_, ?_, h.sl.tch (T := (· = b)) ((Tch.refl _ w).setCell _ _ (fun _ => rfl)) (fun k hk e => hS (e ▸ hk))⟩
  · exact (World.cell?_setCell_other w _ _ _ (by simp)).trans h.id
  · exact (World.cell?_setCell_other w _ _ _ (by simp)).trans h.nm
  · exact (World.cell?_setCell_other w _ _ _ (by simp)).trans h.ty
  · exact (World.cell?_setCell_other w _ _ _ (by simp)).trans h.ex
  · exact (World.cell?_setCell_other w _ _ _ (by simp)).trans h.ky
  · exact (World.cell?_setCell_other w _ _ _ (by simp)).trans h.tx
  · exact World.cell?_setCell_same w _ _ h.co
  · exact (World.cell?_setCell_other w _ _ _ (by simp)).trans h.cn
  · exact (World.cell?_setCell_other w _ _ _ (by simp)).trans h.tg
  · exact (World.cell?_setCell_other w _ _ _ (by simp)).trans h.fl
  · exact (World.cell?_setCell_other w _ _ _ (by simp)).trans h.bk
  · exact (World.cell?_setCell_other w _ _ _ (by simp)).trans h.ar
theorem MAt.set_cn {w : World} {S : Nat → Prop} {b : Nat} {A : Option Addr} {c : Nat} {m : M} (h : MAt w S b A c m) (hS : ¬ S b) (x : Int) : MAt (w.setCell ⟨b, 7, none⟩ (.int .i64 x)) S b A c { m with cn := x } := by
  refine ⟨?_, ?_, ?_, ?_, ?_, ?_, ?_, ?_, ?_, ?_, ?_, ?_, h.sl.tch (T := (· = b)) ((Tch.refl _ w).setCell _ _ (fun _ => rfl)) (fun k hk e => hS (e ▸ hk))⟩
  · exact (World.cell?_setCell_other w _ _ _ (by simp)).trans h.id
  · exact (World.cell?_setCell_other w _ _ _ (by simp)).trans h.nm
  · exact (World.cell?_setCell_other w _ _ _ (by simp)).trans h.ty
  · exact (World.cell?_setCell_other w _ _ _ (by simp)).trans h.ex
  · exact (World.cell?_setCell_other w _ _ _ (by simp)).trans h.ky
  · exact (World.cell?_setCell_other w _ _ _ (by simp)).trans h.tx
  · exact (World.cell?_setCell_other w _ _ _ (by simp)).trans h.co
  · exact World.cell?_setCell_same w _ _ h.cn
  · exact (World.cell?_setCell_other w _ _ _ (by simp)).trans h.tg
  · exact (World.cell?_setCell_other w _ _ _ (by simp)).trans h.fl
  · exact (World.cell?_setCell_other w _ _ _ (by simp)).trans h.bk
  · exact (World.cell?_setCell_other w _ _ _ (by simp)).trans h.ar
theorem MAt.set_tg {w : World} {S : Nat → Prop} {b : Nat} {A : Option Addr} {c : Nat} {m : M} (h : MAt w S b A c m) (hS : ¬ S b) (x : Int) : MAt (w.setCell ⟨b, 8, none⟩ (.int .u64 x)) S b A c { m with tg := x } := by
  refine ⟨?_, ?_, ?_, ?_, ?_, ?_, ?_, ?_, ?_, ?_, ?_, ?_, h.sl.tch (T := (· = b)) ((Tch.refl _ w).setCell _ _ (fun _ => rfl)) (fun k hk e => hS (e ▸ hk))⟩
  · exact (World.cell?_setCell_other w _ _ _ (by simp)).trans h.id
  · exact (World.cell?_setCell_other w _ _ _ (by simp)).trans h.nm
  · exact (World.cell?_setCell_other w _ _ _ (by simp)).trans h.ty
  · exact (World.cell?_setCell_other w _ _ _ (by simp)).trans h.ex
  · exact (World.cell?_setCell_other w _ _ _ (by simp)).trans h.ky
  · exact (World.cell?_setCell_other w _ _ _ (by simp)).trans h.tx
  · exact (World.cell?_setCell_other w _ _ _ (by simp)).trans h.co
  · exact (World.cell?_setCell_other w _ _ _ (by simp)).trans h.cn
  · exact World.cell?_setCell_same w _ _ h.tg
  · exact (World.cell?_setCell_other w _ _ _ (by simp)).trans h.fl
  · exact (World.cell?_setCell_other w _ _ _ (by simp)).trans h.bk
  · exact (World.cell?_setCell_other w _ _ _ (by simp)).trans h.ar
theorem MAt.set_fl {w : World} {S : Nat → Prop} {b : Nat} {A : Option Addr} {c : Nat} {m : M} (h : MAt w S b A c m) (hS : ¬ S b) (x : Bool) : MAt (w.setCell ⟨b, 9, none⟩ (.bool x)) S b A c { m with fl := x } := by
  refine ⟨?_, ?_, ?_, ?_, ?_, ?_, ?_, ?_, ?_, ?_, ?_, ?_, h.sl.tch (T := (· = b)) ((Tch.refl _ w).setCell _ _ (fun _ => rfl)) (fun k hk e => hS (e ▸ hk))⟩
  · exact (World.cell?_setCell_other w _ _ _ (by simp)).trans h.id
  · exact (World.cell?_setCell_other w _ _ _ (by simp)).trans h.nm
  · exact (World.cell?_setCell_other w _ _ _ (by simp)).trans h.ty
  · exact (World.cell?_setCell_other w _ _ _ (by simp)).trans h.ex
  · exact (World.cell?_setCell_other w _ _ _ (by simp)).trans h.ky
  · exact (World.cell?_setCell_other w _ _ _ (by simp)).trans h.tx
  · exact (World.cell?_setCell_other w _ _ _ (by simp)).trans h.co
  · exact (World.cell?_setCell_other w _ _ _ (by simp)).trans h.cn
  · exact (World.cell?_setCell_other w _ _ _ (by simp)).trans h.tg
  · exact World.cell?_setCell_same w _ _ h.fl
  · exact (World.cell?_setCell_other w _ _ _ (by simp)).trans h.bk
  · exact (World.cell?_setCell_other w _ _ _ (by simp)).trans h.ar
theorem MAt.set_bk {w : World} {S : Nat → Prop} {b : Nat} {A : Option Addr} {c : Nat} {m : M} (h : MAt w S b A c m) (hS : ¬ S b) (x : Bool) : MAt (w.setCell ⟨b, 10, none⟩ (.bool x)) S b A c { m with bk := x } := by
  refine ⟨?_, ?_, ?_, ?_, ?_, ?_, ?_, ?_, ?_, ?_, ?_, ?_, h.sl.tch (T := (· = b)) ((Tch.refl _ w).setCell _ _ (fun _ => rfl)) (fun k hk e => hS (e ▸ hk))⟩
  · exact (World.cell?_setCell_other w _ _ _ (by simp)).trans h.id
  · exact (World.cell?_setCell_other w _ _ _ (by simp)).trans h.nm
  · exact (World.cell?_setCell_other w _ _ _ (by simp)).trans h.ty
  · exact (World.cell?_setCell_other w _ _ _ (by simp)).trans h.ex
  · exact (World.cell?_setCell_other w _ _ _ (by simp)).trans h.ky
  · exact (World.cell?_setCell_other w _ _ _ (by simp)).trans h.tx
  · exact (World.cell?_setCell_other w _ _ _ (by simp)).trans h.co
  · exact (World.cell?_setCell_other w _ _ _ (by simp)).trans h.cn
  · exact (World.cell?_setCell_other w _ _ _ (by simp)).trans h.tg
  · exact (World.cell?_setCell_other w _ _ _ (by simp)).trans h.fl
  · exact World.cell?_setCell_same w _ _ h.bk
  · exact (World.cell?_setCell_other w _ _ _ (by simp)).trans h.ar
theorem MAt.set_nm {w : World} {S : Nat → Prop} {b : Nat} {A : Option Addr} {c : Nat} {m : M} (h : MAt w S b A c m) (hS : ¬ S b) (x : ByteArray) : MAt (w.setCell ⟨b, 1, none⟩ (.string x)) S b A c { m with nm := x } := by
  refine ⟨?_, ?_, ?_, ?_, ?_, ?_, ?_, ?_, ?_, ?_, ?_, ?_, h.sl.tch (T := (· = b)) ((Tch.refl _ w).setCell _ _ (fun _ => rfl)) (fun k hk e => hS (e ▸ hk))⟩
  · exact (World.cell?_setCell_other w _ _ _ (by simp)).trans h.id
  · exact World.cell?_setCell_same w _ _ h.nm
  · exact (World.cell?_setCell_other w _ _ _ (by simp)).trans h.ty
  · exact (World.cell?_setCell_other w _ _ _ (by simp)).trans h.ex
  · exact (World.cell?_setCell_other w _ _ _ (by simp)).trans h.ky
  · exact (World.cell?_setCell_other w _ _ _ (by simp)).trans h.tx
  · exact (World.cell?_setCell_other w _ _ _ (by simp)).trans h.co
  · exact (World.cell?_setCell_other w _ _ _ (by simp)).trans h.cn
  · exact (World.cell?_setCell_other w _ _ _ (by simp)).trans h.tg
  · exact (World.cell?_setCell_other w _ _ _ (by simp)).trans h.fl
  · exact (World.cell?_setCell_other w _ _ _ (by simp)).trans h.bk
  · exact (World.cell?_setCell_other w _ _ _ (by simp)).trans h.ar
theorem MAt.set_ty {w : World} {S : Nat → Prop} {b : Nat} {A : Option Addr} {c : Nat} {m : M} (h : MAt w S b A c m) (hS : ¬ S b) (x : ByteArray) : MAt (w.setCell ⟨b, 2, none⟩ (.string x)) S b A c { m with ty := x } := by
  refine ⟨?_, ?_, ?_, ?_, ?_, ?_, ?_, ?_, ?_, ?_, ?_, ?_, h.sl.tch (T := (· = b)) ((Tch.refl _ w).setCell _ _ (fun _ => rfl)) (fun k hk e => hS (e ▸ hk))⟩
  · exact (World.cell?_setCell_other w _ _ _ (by simp)).trans h.id
  · exact (World.cell?_setCell_other w _ _ _ (by simp)).trans h.nm
  · exact World.cell?_setCell_same w _ _ h.ty
  · exact (World.cell?_setCell_other w _ _ _ (by simp)).trans h.ex
  · exact (World.cell?_setCell_other w _ _ _ (by simp)).trans h.ky
  · exact (World.cell?_setCell_other w _ _ _ (by simp)).trans h.tx
  · exact (World.cell?_setCell_other w _ _ _ (by simp)).trans h.co
  · exact (World.cell?_setCell_other w _ _ _ (by simp)).trans h.cn
  · exact (World.cell?_setCell_other w _ _ _ (by simp)).trans h.tg
  · exact (World.cell?_setCell_other w _ _ _ (by simp)).trans h.fl
  · exact (World.cell?_setCell_other w _ _ _ (by simp)).trans h.bk
  · exact (World.cell?_setCell_other w _ _ _ (by simp)).trans h.ar
theorem MAt.set_ex {w : World} {S : Nat → Prop} {b : Nat} {A : Option Addr} {c : Nat} {m : M} (h : MAt w S b A c m) (hS : ¬ S b) (x : ByteArray) : MAt (w.setCell ⟨b, 3, none⟩ (.string x)) S b A c { m with ex := x } := by
  refine ⟨?_, ?_, ?_, ?_, ?_, ?_, ?_, ?_, ?_, ?_, ?_, ?_, h.sl.tch (T := (· = b)) ((Tch.refl _ w).setCell _ _ (fun _ => rfl)) (fun k hk e => hS (e ▸ hk))⟩
  · exact (World.cell?_setCell_other w _ _ _ (by simp)).trans h.id
  · exact (World.cell?_setCell_other w _ _ _ (by simp)).trans h.nm
  · exact (World.cell?_setCell_other w _ _ _ (by simp)).trans h.ty
  · exact World.cell?_setCell_same w _ _ h.ex
  · exact (World.cell?_setCell_other w _ _ _ (by simp)).trans h.ky
  · exact (World.cell?_setCell_other w _ _ _ (by simp)).trans h.tx
  · exact (World.cell?_setCell_other w _ _ _ (by simp)).trans h.co
  · exact (World.cell?_setCell_other w _ _ _ (by simp)).trans h.cn
  · exact (World.cell?_setCell_other w _ _ _ (by simp)).trans h.tg
  · exact (World.cell?_setCell_other w _ _ _ (by simp)).trans h.fl
  · exact (World.cell?_setCell_other w _ _ _ (by simp)).trans h.bk
  · exact (World.cell?_setCell_other w _ _ _ (by simp)).trans h.ar
theorem MAt.set_ky {w : World} {S : Nat → Prop} {b : Nat} {A : Option Addr} {c : Nat} {m : M} (h : MAt w S b A c m) (hS : ¬ S b) (x : ByteArray) : MAt (w.setCell ⟨b, 4, none⟩ (.string x)) S b A c { m with ky := x } := by
  refine ⟨?_, ?_, ?_, ?_, ?_, ?_, ?_, ?_, ?_, ?_, ?_, ?_, h.sl.tch (T := (· = b)) ((Tch.refl _ w).setCell _ _ (fun _ => rfl)) (fun k hk e => hS (e ▸ hk))⟩
  · exact (World.cell?_setCell_other w _ _ _ (by simp)).trans h.id
  · exact (World.cell?_setCell_other w _ _ _ (by simp)).trans h.nm
  · exact (World.cell?_setCell_other w _ _ _ (by simp)).trans h.ty
  · exact (World.cell?_setCell_other w _ _ _ (by simp)).trans h.ex
  · exact World.cell?_setCell_same w _ _ h.ky
  · exact (World.cell?_setCell_other w _ _ _ (by simp)).trans h.tx
  · exact (World.cell?_setCell_other w _ _ _ (by simp)).trans h.co
  · exact (World.cell?_setCell_other w _ _ _ (by simp)).trans h.cn
  · exact (World.cell?_setCell_other w _ _ _ (by simp)).trans h.tg
  · exact (World.cell?_setCell_other w _ _ _ (by simp)).trans h.fl
  · exact (World.cell?_setCell_other w _ _ _ (by simp)).trans h.bk
  · exact (World.cell?_setCell_other w _ _ _ (by simp)).trans h.ar
theorem MAt.set_tx {w : World} {S : Nat → Prop} {b : Nat} {A : Option Addr} {c : Nat} {m : M} (h : MAt w S b A c m) (hS : ¬ S b) (x : ByteArray) : MAt (w.setCell ⟨b, 5, none⟩ (.string x)) S b A c { m with tx := x } := by
  refine ⟨?_, ?_, ?_, ?_, ?_, ?_, ?_, ?_, ?_, ?_, ?_, ?_, h.sl.tch (T := (· = b)) ((Tch.refl _ w).setCell _ _ (fun _ => rfl)) (fun k hk e => hS (e ▸ hk))⟩
  · exact (World.cell?_setCell_other w _ _ _ (by simp)).trans h.id
  · exact (World.cell?_setCell_other w _ _ _ (by simp)).trans h.nm
  · exact (World.cell?_setCell_other w _ _ _ (by simp)).trans h.ty
  · exact (World.cell?_setCell_other w _ _ _ (by simp)).trans h.ex
  · exact (World.cell?_setCell_other w _ _ _ (by simp)).trans h.ky
  · exact World.cell?_setCell_same w _ _ h.tx
  · exact (World.cell?_setCell_other w _ _ _ (by simp)).trans h.co
  · exact (World.cell?_setCell_other w _ _ _ (by simp)).trans h.cn
  · exact (World.cell?_setCell_other w _ _ _ (by simp)).trans h.tg
  · exact (World.cell?_setCell_other w _ _ _ (by simp)).trans h.fl
  · exact (World.cell?_setCell_other w _ _ _ (by simp)).trans h.bk
  · exact (World.cell?_setCell_other w _ _ _ (by simp)).trans h.ar
theorem MAt.set_ar {w : World} {S : Nat → Prop} {b : Nat} {A A' : Option Addr} {c c' : Nat} {m : M} (h : MAt w S b A c m) (hS : ¬ S b) (x : L) (hx : Sl w S A' x) : MAt (w.setCell ⟨b, 11, none⟩ (.slice A' x.len c')) S b A' c' { m with ar := x } := by
  refine ⟨?_, ?_, ?_, ?_, ?_, ?_, ?_, ?_, ?_, ?_, ?_, ?_, hx.tch (T := (· = b)) ((Tch.refl _ w).setCell _ _ (fun _ => rfl)) (fun k hk e => hS (e ▸ hk))⟩
  · exact (World.cell?_setCell_other w _ _ _ (by simp)).trans h.id
  · exact (World.cell?_setCell_other w _ _ _ (by simp)).trans h.nm
  · exact (World.cell?_setCell_other w _ _ _ (by simp)).trans h.ty
  · exact (World.cell?_setCell_other w _ _ _ (by simp)).trans h.ex
  · exact (World.cell?_setCell_other w _ _ _ (by simp)).trans h.ky
  · exact (World.cell?_setCell_other w _ _ _ (by simp)).trans h.tx
  · exact (World.cell?_setCell_other w _ _ _ (by simp)).trans h.co
  · exact (World.cell?_setCell_other w _ _ _ (by simp)).trans h.cn
  · exact (World.cell?_setCell_other w _ _ _ (by simp)).trans h.tg
  · exact (World.cell?_setCell_other w _ _ _ (by simp)).trans h.fl
  · exact (World.cell?_setCell_other w _ _ _ (by simp)).trans h.bk
  · exact World.cell?_setCell_same w _ _ h.ar
end Go.Proofs.Ytaeainkfllfdfaa
