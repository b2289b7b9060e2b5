/- The contracts of value.reader's raw and num. -/
import Derived.Test.YtaeainkfllfdfaaB6
import Derived.Test.YtaeainkfllfdfaaA3
namespace Go.Proofs.Ytaeainkfllfdfaa
open Go.RowKit
set_option linter.unusedVariables false
set_option linter.unusedSimpArgs false
set_option maxRecDepth 100000

/-- A reader in block R: what it has left, in blocks of which S holds. -/
def RdAt (w : World) (R : Nat) (S : Nat → Prop) (r : Rd) : Prop :=
  ∃ A c, w.cell? ⟨R, 0, none⟩ = some (.slice A r.b.length c) ∧ w.cell? ⟨R, 1, none⟩ = some (.bool r.bad) ∧ w.frozen? ⟨R, 0, none⟩ = false ∧ w.frozen? ⟨R, 1, none⟩ = false ∧ Bs w S A r.b ∧ r.b.length ≤ c ∧ c ≤ 9223372036854775807

theorem Bs.take {w : World} {S : Nat → Prop} {A : Option Addr} {bs : List UInt8} (h : Bs w S A bs) (n : Nat) : Bs w S A (bs.take n) := by
  rcases h with rfl | ⟨b, o, rfl, hb, hc⟩
  · exact .inl (by simp)
  · refine .inr ⟨b, o, rfl, hb, fun j hj => ?_⟩
    have hj' : j < bs.length := by simp at hj; omega
    rw [List.getElem_take]; exact hc j hj'
theorem Bs.drop {w : World} {S : Nat → Prop} {A : Option Addr} {bs : List UInt8} (h : Bs w S A bs) (n c : Nat) (hc : bs.length ≤ c) : Bs w S (if c = n then A else A.map (·.add n)) (bs.drop n) := by
  rcases h with rfl | ⟨b, o, rfl, hb, hcell⟩
  · exact .inl (by simp)
  · by_cases e : c = n
    · exact .inl (List.drop_eq_nil_of_le (by omega))
    · rw [if_neg e]
      refine .inr ⟨b, o + n, ?_, hb, fun j hj => ?_⟩
      · simp [Addr.add_lit]
      · have hj' : n + j < bs.length := by simp at hj; omega
        rw [List.getElem_drop, Nat.add_assoc]; exact hcell (n + j) hj'

/-- What raw has left. -/
def RetRaw (w : World) (R : Nat) (S : Nat → Prop) (x : List UInt8 × Rd) (e : Ending) (w' : World) : Prop :=
  ∃ A c, e = .returned (.slice A x.1.length c) ∧ Bs w' S A x.1 ∧ RdAt w' R S x.2 ∧ Tch (· = R) w w' ∧ x.1.length ≤ c ∧ c ≤ 9223372036854775807

theorem RdAt.setBad {w : World} {R : Nat} {S : Nat → Prop} {r : Rd} (h : RdAt w R S r) (hS : ¬ S R) : RdAt (w.setCell ⟨R, 1, none⟩ (.bool true)) R S ⟨r.b, true⟩ := by
  obtain ⟨A, c, h0, h1, f0, f1, hB, hc, hc2⟩ := h
  refine ⟨A, c, ?_, ?_, ?_, ?_, hB.tch (T := (· = R)) ((Tch.refl _ w).setCell _ _ (fun _ => rfl)) (fun b hb e => hS (e ▸ hb)), hc, hc2⟩
  · go_simp
  · go_simp
  · go_simp
  · go_simp
theorem RdAt.setBit {w : World} {R : Nat} {S : Nat → Prop} {r : Rd} (h : RdAt w R S r) (hS : ¬ S R) (b : Bool) : RdAt (w.setCell ⟨R, 1, none⟩ (.bool b)) R S ⟨r.b, b⟩ := by
  obtain ⟨A, c, h0, h1, f0, f1, hB, hc, hc2⟩ := h
  refine ⟨A, c, ?_, ?_, ?_, ?_, hB.tch (T := (· = R)) ((Tch.refl _ w).setCell _ _ (fun _ => rfl)) (fun b hb e => hS (e ▸ hb)), hc, hc2⟩
  · go_simp
  · go_simp
  · go_simp
  · go_simp
theorem RdAt.setB {w : World} {R : Nat} {S : Nat → Prop} {r : Rd} (h : RdAt w R S r) (hS : ¬ S R) (A' : Option Addr) (c' n : Nat) (bs : List UInt8) (hn : n = bs.length) (hB : Bs w S A' bs) (hc : bs.length ≤ c') (hc2 : c' ≤ 9223372036854775807) :
    RdAt (w.setCell ⟨R, 0, none⟩ (.slice A' n c')) R S ⟨bs, r.bad⟩ := by
  subst hn
  obtain ⟨A, c, h0, h1, f0, f1, _, _, _⟩ := h
  refine ⟨A', c', ?_, ?_, ?_, ?_, hB.tch (T := (· = R)) ((Tch.refl _ w).setCell _ _ (fun _ => rfl)) (fun b hb e => hS (e ▸ hb)), hc, hc2⟩
  · go_simp
  · go_simp
  · go_simp
  · go_simp

set_option maxHeartbeats 1000000 in
theorem raw77 (R : Nat) (S : Nat → Prop) (r : Rd) (n : Nat) (N : Int) (w : World) (hN : N = n) (hn : n < 18446744073709551616) (hr : RdAt w R S r) (hS : ¬ S R) :
    Calls Try.prog 77 #[.pointer (some ⟨R, 0, none⟩), .int .u64 N] w (RetRaw w R S (r.raw n)) := by
  subst hN
  have HR := Kp.mk hr
  have HS := Kp.mk hS; clear hS
  obtain ⟨A, c, h0, h1, f0, f1, hB, hc, hc2⟩ := hr
  have HB := Kp.mk hB; clear hB
  by_cases hbad : r.bad = true
  · have e : r.raw n = ([], ⟨r.b, true⟩) := by simp [Rd.raw, hbad]
    rw [e]; clear e
    rw [hbad] at h1
    have HBAD := Kp.mk hbad; clear hbad
    go_enter Try.func77, Try.ntmps77
    go_wp2_with fail
    go_ret
    exact ⟨none, 0, rfl, Bs.nil _ _ _, HR.out.setBad HS.out, (Tch.refl _ w).setCell _ _ (fun _ => rfl), Nat.le_refl _, Nat.zero_le _⟩
  have hbad : r.bad = false := by simpa using hbad
  have hwr := u64_small r.b.length (by omega)
  by_cases hlong : r.b.length < n
  · have e : r.raw n = ([], ⟨r.b, true⟩) := by simp [Rd.raw, hlong]
    rw [e]; clear e
    rw [hbad] at h1
    have HBAD := Kp.mk hbad; clear hbad
    go_enter Try.func77, Try.ntmps77
    go_wp2_with fail
    go_ret
    exact ⟨none, 0, rfl, Bs.nil _ _ _, HR.out.setBad HS.out, (Tch.refl _ w).setCell _ _ (fun _ => rfl), Nat.le_refl _, Nat.zero_le _⟩
  · have e : r.raw n = (r.b.take n, ⟨r.b.drop n, false⟩) := by simp [Rd.raw, hbad, hlong]
    rw [e]; clear e
    rw [hbad] at h1
    have HBAD := Kp.mk hbad; clear hbad
    have hle : n ≤ c := by omega
    have ht := Kp.mk (show (r.b.take n).length = n by rw [List.length_take, Nat.min_eq_left (by omega)])
    by_cases hcn : c = n
    · subst hcn
      have hle := hle
      go_enter Try.func77, Try.ntmps77
      go_wp2_with fail
      go_ret
      refine ⟨A, c, by rw [ht.out]; rfl, ?_, ?_, (Tch.refl _ w).setCell _ _ (fun _ => rfl), by rw [ht.out]; exact hle, hc2⟩
      · exact (HB.out.take c).tch (T := (· = R)) ((Tch.refl _ w).setCell _ _ (fun _ => rfl)) (fun b hb e => HS.out (e ▸ hb))
      · have := HR.out.setB HS.out A 0 (r.b.length - c) (r.b.drop c) (by simp) (by have := HB.out.drop c c hc; rwa [if_pos rfl] at this) (by simp; omega) (by omega)
        rw [HBAD.out, show r.b.length - c = 0 from by omega] at this
        exact this
    · go_enter Try.func77, Try.ntmps77
      go_wp2_with fail
      go_ret
      refine ⟨A, c, by rw [ht.out]; rfl, ?_, ?_, (Tch.refl _ w).setCell _ _ (fun _ => rfl), by rw [ht.out]; exact hle, hc2⟩
      · exact (HB.out.take n).tch (T := (· = R)) ((Tch.refl _ w).setCell _ _ (fun _ => rfl)) (fun b hb e => HS.out (e ▸ hb))
      · have := HR.out.setB HS.out (A.map (·.add n)) (c - n) (r.b.length - n) (r.b.drop n) (by simp) (by have := HB.out.drop n c hc; rwa [if_neg hcn] at this) (by simp; omega) (by omega)
        rw [HBAD.out] at this
        exact this

/-- A number's bytes are laid one behind the other. -/
theorem shl_or (v c : Nat) (hv : v < 72057594037927936) (hc : c < 256) : bits BinOp.or .u64 (IntKind.u64.wrap ((v : Int) * 256)) (IntKind.u64.wrap (c : Int)) = ((v * 256 + c : Nat) : Int) := by
  rw [show ((v : Int) * 256) = ((v * 256 : Nat) : Int) from by omega, u64_small _ (by omega), u64_small _ (by omega), u64_or_nat _ _ (by omega) (by omega)]
  have h := Nat.two_pow_add_eq_or_of_lt (i := 8) (b := c) (by omega) v
  rw [show v * 256 = 2 ^ 8 * v from by omega, ← h]
theorem val_small (bs : List UInt8) (h : bs.length ≤ 7) : val bs < 72057594037927936 :=
  Nat.lt_of_lt_of_le (val_lt bs) (Nat.le_trans (Nat.pow_le_pow_right (by omega) h) (by decide))
theorem RdAt.new {w : World} {S : Nat → Prop} {A : Option Addr} {c n : Nat} {x : List UInt8} (bad : Bool) (hn : n = x.length) (hB : Bs w S A x) (h1 : x.length ≤ c) (h2 : c ≤ 9223372036854775807) :
    RdAt (w.alloc (.cells #[.slice A n c, .bool bad] 77)) w.heap.size S ⟨x, bad⟩ := by
  subst hn
  exact ⟨A, c, by go_simp, by go_simp, by go_simp, by go_simp, hB.still ((Still.refl _).alloc _), h1, h2⟩

/-- What num has left. -/
def RetNum (w : World) (R : Nat) (S : Nat → Prop) (x : Nat × Rd) (e : Ending) (w' : World) : Prop :=
  e = .returned (.int .u64 x.1) ∧ RdAt w' R S x.2 ∧ Tch (· = R) w w'

set_option maxHeartbeats 1000000 in
theorem rnum76 (R : Nat) (S : Nat → Prop) (r : Rd) (k : Nat) (K : Int) (w : World) (hK : K = k) (hk : k ≤ 8) (hr : RdAt w R S r) (hS : ¬ S R) :
    Calls Try.prog 76 #[.pointer (some ⟨R, 0, none⟩), .int .i64 K] w (RetNum w R S (r.num k)) := by
  subst hK
  have HR := Kp.mk hr; clear hr
  have HS := Kp.mk hS; clear hS
  have hwr := u64_small k (by omega)
  go_enter Try.func76, Try.ntmps76
  go_wp2_with fail
  refine (raw77 R S r k _ w rfl (by omega) HR.out HS.out).mono ?_
  rintro e w1 ⟨A, c, rfl, hB, hR1, hT1, _⟩
  have hxl : (r.raw k).1.length ≤ 8 := by have : (r.raw k).1.length ≤ k := by { unfold Rd.raw; split <;> simp; omega }; omega
  have HV := Kp.mk (show (r.num k).1 = val (r.raw k).1 ∧ (r.num k).2 = (r.raw k).2 from ⟨rfl, rfl⟩)
  generalize (r.raw k).1 = x at *
  generalize (r.raw k).2 = r1 at *
  have HB := Kp.mk hB; clear hB
  have HR1 := Kp.mk hR1; clear hR1
  have HT1 := Kp.mk hT1; clear hT1
  go_wp2_with fail
  go_loopw [5, 13] (fun v i wr => ∃ j : Nat, j ≤ x.length ∧ i = .int .i64 j ∧ v = .int .u64 (val (x.take j)) ∧ wr = w1) (fun _ i _ => x.length - (intOf i).toNat)
  case atStart => exact ⟨0, by omega, rfl, rfl, rfl⟩
  case round =>
    obtain ⟨j, hj, rfl, rfl, rfl⟩ := hrel
    by_cases hlt : j < x.length
    · rcases HB.out with rfl | ⟨b, o, rfl, hb, hc⟩
      · simp at hlt
      have hcj := hc j hlt
      clear hc
      have hor := shl_or (val (x.take j)) x[j].toNat (val_small _ (by simp; omega)) (x[j].toNat_lt)
      have HOR := Kp.mk hor; clear hor
      go_wp2_with fail
      go_light
      rw [HOR.out]
      refine ⟨⟨j + 1, by omega, by go_num, ?_, trivial⟩, by simp only [intOf]; omega⟩
      rw [List.take_succ_eq_append_getElem hlt, val_snoc]
    · have hjl : j = x.length := by omega
      subst hjl
      go_wp2_with fail
      go_ret
      rw [List.take_length]
      exact ⟨by rw [HV.out.1]; rfl, by rw [HV.out.2]; exact HR1.out, HT1.out⟩
end Go.Proofs.Ytaeainkfllfdfaa
