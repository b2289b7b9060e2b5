/- The contract of method.Get: a call from its bytes. -/
import Derived.Test.YtaeainkfllfdfaaA9
namespace Go.Proofs.Ytaeainkfllfdfaa
open Go.RowKit
set_option linter.unusedVariables false
set_option linter.unusedSimpArgs false
set_option maxRecDepth 100000

/-- What holds of Get's loop ahead of part number k: W3: the world in which it was entered; B: the call's block, R: the reader's. -/
structure GetInv (W3 : World) (R B : Nat) (S : Nat → Prop) (X : M × Rd) (ps : List UInt8) (bl : Nat) (k : Nat) (mk : M) (rk : Rd) (A : Option Addr) (n : Nat) (wr : World) : Prop where
  eq : Rd.partsR (ps.drop k) mk rk = X
  at_ : MAt wr (fun x => B < x) B A n mk
  rd : RdAt wr R S rk
  tch : Tch (fun x => x = R ∨ x = B) W3 wr
  fz : ∀ o, wr.frozen? ⟨B, o, none⟩ = false
  le : rk.b.length ≤ bl
/-- What method.Get leaves. -/
def RetGetM (w : World) (b : List UInt8) (e : Ending) (w' : World) : Prop :=
  ∃ A c, e = .returned (.tuple #[(mgM b).val A c, .int .i64 (mgE b)]) ∧ Sl w' (fun k => w.heap.size ≤ k) A (mgM b).ar ∧ Still w w'
theorem RdAt.newT {w : World} {S : Nat → Prop} {A : Option Addr} {c n : Nat} {x : List UInt8} (bad : Bool) (e : TypeId) (hn : n = x.length) (hB : Bs w S A x) (h1 : x.length ≤ c) (h2 : c ≤ 9223372036854775807) :
    RdAt (w.alloc (.cells #[.slice A n c, .bool bad] e)) w.heap.size S ⟨x, bad⟩ := by
  subst hn
  exact ⟨A, c, by go_simp, by go_simp, by go_simp, by go_simp, hB.still ((Still.refl _).alloc _), h1, h2⟩

set_option maxHeartbeats 8000000 in
theorem get36 (b : List UInt8) (A : Option Addr) (c n : Nat) (S : Nat → Prop) (w : World) (hn : n = b.length) (h0 : b.length ≤ 140737488351232) (h1 : b.length ≤ c) (h2 : c ≤ 9223372036854775807) (hB : Bs w S A b) :
    Calls Try.prog 36 #[.slice A n c] w (RetGetM w b) := by
  subst hn
  have HB := Kp.mk hB.old; clear hB
  have HE := Kp.mk (show mgE b = if (mgR b).bad then 502 else if 99 < mgI b ∨ partsL (mgId b) = [45] then 503 else if mgOk b then 0 else 502 from rfl)
  have HMM := Kp.mk (show mgM b = if mgE b = 0 then (mgX b).1 else M.zero from rfl)
  go_enter Try.func36, Try.ntmps36
  go_wp2_with fail
  refine (rnum66 (w.heap.size + 1) (fun k => k < w.heap.size) ⟨b, false⟩ 2 2 _ rfl (by omega) ?_ (by omega)).mono ?_
  · have := RdAt.newT (w := w.alloc (.cells #[.int .i64 0, .string { data := #[] }, .string { data := #[] }, .string { data := #[] }, .string { data := #[] }, .string { data := #[] }, .int .i64 0, .int .i64 0, .int .u64 0, .bool false, .bool false, .slice none 0 0] 42)) (S := fun k => k < w.heap.size) false 105 rfl ((HB.out.weak (fun _ h => h.2)).still ((Still.refl _).alloc _)) h1 h2
    simpa using this
  rintro e w1 ⟨rfl, hr1, ht1⟩
  have hm0 : MAt ((w.alloc (.cells #[.int .i64 0, .string { data := #[] }, .string { data := #[] }, .string { data := #[] }, .string { data := #[] }, .string { data := #[] }, .int .i64 0, .int .i64 0, .int .u64 0, .bool false, .bool false, .slice none 0 0] 42)).alloc (.cells #[.slice A b.length c, .bool false] 105)) (fun _ => False) w.heap.size none 0 M.zero :=
    (MAt.new M.zero (Sl.nil _ _ _)).still ((Still.refl _).alloc _)
  have hf0 : ∀ o, ((w.alloc (.cells #[.int .i64 0, .string { data := #[] }, .string { data := #[] }, .string { data := #[] }, .string { data := #[] }, .string { data := #[] }, .int .i64 0, .int .i64 0, .int .u64 0, .bool false, .bool false, .slice none 0 0] 42)).alloc (.cells #[.slice A b.length c, .bool false] 105)).frozen? ⟨w.heap.size, o, none⟩ = false := fun o => by go_simp
  have hz1 := ht1.size
  simp only [World.size_alloc] at hz1
  have HQ1 := Kp.mk (hm0.tch ht1 (by omega) (fun k hk => hk.elim))
  have HFQ1 := Kp.mk (show ∀ o, w1.frozen? ⟨w.heap.size, o, none⟩ = false from fun o => (ht1.frozen (a := ⟨w.heap.size, o, none⟩) (by simp; omega) (show ¬ w.heap.size = w.heap.size + 1 by omega)).trans (hf0 o))
  have HT1 := Kp.mk (show Still w w1 from (((Still.refl w).alloc _).alloc _).trans ht1 (fun b hb e => by omega))
  have HR1 := Kp.mk hr1
  clear hm0 hf0 hr1 ht1
  have hc1 := num_lt2 ⟨b, false⟩
  go_wp2_with fail
  refine (rnum66 (w.heap.size + 1) (fun k => k < w.heap.size) (Rd.num ⟨b, false⟩ 2).2 2 2 _ rfl (by omega) HR1.out (by omega)).mono ?_
  rintro e w2 ⟨rfl, hr2, ht2⟩
  have hc2 := num_lt2 (Rd.num ⟨b, false⟩ 2).2
  have hz2 := ht2.size
  have HQ := Kp.mk (HQ1.out.tch ht2 (by omega) (fun k hk => hk.elim))
  have HFQ := Kp.mk (show ∀ o, w2.frozen? ⟨w.heap.size, o, none⟩ = false from fun o => (ht2.frozen (a := ⟨w.heap.size, o, none⟩) (show w.heap.size < w1.heap.size by omega) (show ¬ w.heap.size = w.heap.size + 1 by omega)).trans (HFQ1.out o))
  have HT2 := Kp.mk (show Still w w2 from HT1.out.trans ht2 (fun b hb e => by omega))
  have HR2 := Kp.mk (show RdAt w2 (w.heap.size + 1) (fun k => k < w.heap.size) (mgR b) from hr2)
  have HID := Kp.mk (show mgId b = ((Rd.num ⟨b, false⟩ 2).1 : Int) * 100 + (((Rd.num ⟨b, false⟩ 2).2.num 2).1 : Int) from rfl)
  have HIN := Kp.mk (show mgI b = ((Rd.num ⟨b, false⟩ 2).2.num 2).1 from rfl)
  clear hr2 ht2 HQ1 HFQ1 HR1
  generalize (Rd.num ⟨b, false⟩ 2).1 = a1 at *
  generalize ((Rd.num ⟨b, false⟩ 2).2.num 2).1 = a2 at *
  obtain ⟨AR, cR, k0, k1, f0, f1, _, _, _⟩ := HR2.out
  cases hbad : (mgR b).bad with
  | true =>
    rw [hbad] at k1 HE
    have HE2 := Kp.mk (show mgE b = 502 from HE.out)
    have HM2 := Kp.mk (show mgM b = M.zero by rw [HMM.out, HE2.out]; rfl)
    clear hbad
    have q0 := HQ.out.id
    have q1 := HQ.out.nm
    have q2 := HQ.out.ty
    have q3 := HQ.out.ex
    have q4 := HQ.out.ky
    have q5 := HQ.out.tx
    have q6 := HQ.out.co
    have q7 := HQ.out.cn
    have q8 := HQ.out.tg
    have q9 := HQ.out.fl
    have q10 := HQ.out.bk
    have q11 := HQ.out.ar
    have g0 := HFQ.out 0
    have g1 := HFQ.out 1
    have g2 := HFQ.out 2
    have g3 := HFQ.out 3
    have g4 := HFQ.out 4
    have g5 := HFQ.out 5
    have g6 := HFQ.out 6
    have g7 := HFQ.out 7
    have g8 := HFQ.out 8
    have g9 := HFQ.out 9
    have g10 := HFQ.out 10
    have g11 := HFQ.out 11
    skip
    go_wp2_with fail
    have hfin : ∀ w9, Tch (· = w.heap.size) w2 w9 → RetGetM w b (.returned (.tuple #[.agg #[.int .i64 0, .string { data := #[] }, .string { data := #[] }, .string { data := #[] }, .string { data := #[] }, .string { data := #[] }, .int .i64 0, .int .i64 0, .int .u64 0, .bool false, .bool false, .slice none 0 0], .int .i64 502])) w9 := fun w9 h9 => by
      refine ⟨none, 0, ?_, by rw [HM2.out]; exact Sl.nil _ _ _, HT2.out.trans h9 (fun b hb e => by omega)⟩
      rw [HE2.out, HM2.out]
      rfl
    refine bodyPost_ret (v := .tuple #[.agg #[.int .i64 0, .string { data := #[] }, .string { data := #[] }, .string { data := #[] }, .string { data := #[] }, .string { data := #[] }, .int .i64 0, .int .i64 0, .int .u64 0, .bool false, .bool false, .slice none 0 0], .int .i64 502]) (by simp [results, Try.results36, go_sem, q0, q1, q2, q3, q4, q5, q6, q7, q8, q9, q10, q11]) rfl (hfin _ ?_)
    iterate 12 refine Tch.setCell ?_ _ _ (fun _ => rfl)
    exact Tch.refl _ _
  | false =>
    rw [hbad] at k1 HE
    have HE1 := Kp.mk (show mgE b = if 99 < mgI b ∨ partsL (mgId b) = [45] then 503 else if mgOk b = true then 0 else 502 by rw [HE.out]; rfl)
    clear hbad HE
    go_wp2_with fail
    have hm3 := MAt.new (w := w2) (S := fun x => w2.heap.size < x) (A := none) (c := 0) { M.zero with id := ↑a1 * 100 + ↑a2 } (Sl.nil _ _ _)
    have hf3 : ∀ o, (w2.alloc (.cells #[.int .i64 (↑a1 * 100 + ↑a2), .string { data := #[] }, .string { data := #[] }, .string { data := #[] }, .string { data := #[] }, .string { data := #[] }, .int .i64 0, .int .i64 0, .int .u64 0, .bool false, .bool false, .slice none 0 0] 42)).frozen? ⟨w2.heap.size, o, none⟩ = false := fun o => by go_simp
    have hw3 : (w2.alloc (.cells #[.int .i64 (↑a1 * 100 + ↑a2), .string { data := #[] }, .string { data := #[] }, .string { data := #[] }, .string { data := #[] }, .string { data := #[] }, .int .i64 0, .int .i64 0, .int .u64 0, .bool false, .bool false, .slice none 0 0] 42)).heap.size = w2.heap.size + 1 := World.size_alloc _ _
    have ht3 : Still w2 (w2.alloc (.cells #[.int .i64 (↑a1 * 100 + ↑a2), .string { data := #[] }, .string { data := #[] }, .string { data := #[] }, .string { data := #[] }, .string { data := #[] }, .int .i64 0, .int .i64 0, .int .u64 0, .bool false, .bool false, .slice none 0 0] 42)) := (Still.refl _).alloc _
    change MAt (w2.alloc (.cells #[.int .i64 (↑a1 * 100 + ↑a2), .string { data := #[] }, .string { data := #[] }, .string { data := #[] }, .string { data := #[] }, .string { data := #[] }, .int .i64 0, .int .i64 0, .int .u64 0, .bool false, .bool false, .slice none 0 0] 42)) _ _ _ _ _ at hm3
    generalize w2.alloc (.cells #[.int .i64 (↑a1 * 100 + ↑a2), .string { data := #[] }, .string { data := #[] }, .string { data := #[] }, .string { data := #[] }, .string { data := #[] }, .int .i64 0, .int .i64 0, .int .u64 0, .bool false, .bool false, .slice none 0 0] 42) = W3 at *
    rw [← HID.out] at hm3 ⊢
    have HM3 := Kp.mk hm3; have HF3 := Kp.mk hf3
    have HT3 := Kp.mk (HT2.out.strans ht3)
    have HQ3 := Kp.mk (HQ.out.still ht3)
    have HFQ3 := Kp.mk (show ∀ o, W3.frozen? ⟨w.heap.size, o, none⟩ = false from fun o => (ht3.frozen (a := ⟨w.heap.size, o, none⟩) (show w.heap.size < w2.heap.size by omega) (fun f => f)).trans (HFQ.out o))
    have HR3 := Kp.mk (HR2.out.still ht3)
    clear hm3 hf3 ht3 k0 k1 f0 f1 HQ HFQ
    refine (parts33 (mgId b) _).mono ?_
    rintro e w4 ⟨rfl, rfl⟩
    by_cases h99 : 99 < a2
    · have HE2 := Kp.mk (show mgE b = 503 by rw [HE1.out, if_pos (.inl (by rw [HIN.out]; exact h99))])
      have HM2 := Kp.mk (show mgM b = M.zero by rw [HMM.out, HE2.out]; rfl)
      have HQ := HQ3; have HFQ := HFQ3
      clear HQ3 HFQ3
      have q0 := HQ.out.id
      have q1 := HQ.out.nm
      have q2 := HQ.out.ty
      have q3 := HQ.out.ex
      have q4 := HQ.out.ky
      have q5 := HQ.out.tx
      have q6 := HQ.out.co
      have q7 := HQ.out.cn
      have q8 := HQ.out.tg
      have q9 := HQ.out.fl
      have q10 := HQ.out.bk
      have q11 := HQ.out.ar
      have g0 := HFQ.out 0
      have g1 := HFQ.out 1
      have g2 := HFQ.out 2
      have g3 := HFQ.out 3
      have g4 := HFQ.out 4
      have g5 := HFQ.out 5
      have g6 := HFQ.out 6
      have g7 := HFQ.out 7
      have g8 := HFQ.out 8
      have g9 := HFQ.out 9
      have g10 := HFQ.out 10
      have g11 := HFQ.out 11
      skip
      go_wp2_with fail
      have hfin : ∀ w9, Tch (· = w.heap.size) W3 w9 → RetGetM w b (.returned (.tuple #[.agg #[.int .i64 0, .string { data := #[] }, .string { data := #[] }, .string { data := #[] }, .string { data := #[] }, .string { data := #[] }, .int .i64 0, .int .i64 0, .int .u64 0, .bool false, .bool false, .slice none 0 0], .int .i64 503])) w9 := fun w9 h9 => by
        refine ⟨none, 0, ?_, by rw [HM2.out]; exact Sl.nil _ _ _, HT3.out.trans h9 (fun b hb e => by omega)⟩
        rw [HE2.out, HM2.out]
        rfl
      refine bodyPost_ret (v := .tuple #[.agg #[.int .i64 0, .string { data := #[] }, .string { data := #[] }, .string { data := #[] }, .string { data := #[] }, .string { data := #[] }, .int .i64 0, .int .i64 0, .int .u64 0, .bool false, .bool false, .slice none 0 0], .int .i64 503]) (by simp [results, Try.results36, go_sem, q0, q1, q2, q3, q4, q5, q6, q7, q8, q9, q10, q11]) rfl (hfin _ ?_)
      iterate 12 refine Tch.setCell ?_ _ _ (fun _ => rfl)
      exact Tch.refl _ _
    by_cases hp : partsL (mgId b) = [45]
    · have HE2 := Kp.mk (show mgE b = 503 by rw [HE1.out, if_pos (.inr hp)])
      have HM2 := Kp.mk (show mgM b = M.zero by rw [HMM.out, HE2.out]; rfl)
      have hpb : ((ps (partsL (mgId b))).toList == [45]) = true := by rw [ps_list, hp]; rfl
      have HQ := HQ3; have HFQ := HFQ3
      clear HQ3 HFQ3 hp
      have q0 := HQ.out.id
      have q1 := HQ.out.nm
      have q2 := HQ.out.ty
      have q3 := HQ.out.ex
      have q4 := HQ.out.ky
      have q5 := HQ.out.tx
      have q6 := HQ.out.co
      have q7 := HQ.out.cn
      have q8 := HQ.out.tg
      have q9 := HQ.out.fl
      have q10 := HQ.out.bk
      have q11 := HQ.out.ar
      have g0 := HFQ.out 0
      have g1 := HFQ.out 1
      have g2 := HFQ.out 2
      have g3 := HFQ.out 3
      have g4 := HFQ.out 4
      have g5 := HFQ.out 5
      have g6 := HFQ.out 6
      have g7 := HFQ.out 7
      have g8 := HFQ.out 8
      have g9 := HFQ.out 9
      have g10 := HFQ.out 10
      have g11 := HFQ.out 11
      skip
      go_wp2_with fail
      have hfin : ∀ w9, Tch (· = w.heap.size) W3 w9 → RetGetM w b (.returned (.tuple #[.agg #[.int .i64 0, .string { data := #[] }, .string { data := #[] }, .string { data := #[] }, .string { data := #[] }, .string { data := #[] }, .int .i64 0, .int .i64 0, .int .u64 0, .bool false, .bool false, .slice none 0 0], .int .i64 503])) w9 := fun w9 h9 => by
        refine ⟨none, 0, ?_, by rw [HM2.out]; exact Sl.nil _ _ _, HT3.out.trans h9 (fun b hb e => by omega)⟩
        rw [HE2.out, HM2.out]
        rfl
      refine bodyPost_ret (v := .tuple #[.agg #[.int .i64 0, .string { data := #[] }, .string { data := #[] }, .string { data := #[] }, .string { data := #[] }, .string { data := #[] }, .int .i64 0, .int .i64 0, .int .u64 0, .bool false, .bool false, .slice none 0 0], .int .i64 503]) (by simp [results, Try.results36, go_sem, q0, q1, q2, q3, q4, q5, q6, q7, q8, q9, q10, q11]) rfl (hfin _ ?_)
      iterate 12 refine Tch.setCell ?_ _ _ (fun _ => rfl)
      exact Tch.refl _ _
    have hpb : ((ps (partsL (mgId b))).toList == [45]) = false := by rw [ps_list]; simpa using hp
    have HE3 := Kp.mk (show mgE b = if mgOk b = true then 0 else 502 by rw [HE1.out, if_neg (by rw [HIN.out]; intro h; exact h.elim h99 hp)])
    obtain ⟨g1, g2, _⟩ := parts_a _ hp
    have HG := Kp.mk g1
    have hps := ps_size (partsL (mgId b))
    have HX := Kp.mk (show mgX b = Rd.partsR (partsL (mgId b)) { M.zero with id := mgId b } (mgR b) from rfl)
    have HOK := Kp.mk (show mgOk b = (!(mgX b).2.bad && (decide ((mgX b).1.putE = 0) && decide ((mgX b).1.putB = b))) from rfl)
    have HXO := Kp.mk (mgX_ok b h0)
    have hrl := mgR_le b
    clear g1 hp HE1
    go_wp2_with fail
    go_loopw [43] (fun i wr => ∃ (k : Nat) (mk : M) (rk : Rd) (Ak : Option Addr) (nk : Nat), k ≤ (partsL (mgId b)).length ∧ i = .int .i64 k ∧ Kp (GetInv W3 (w.heap.size + 1) w2.heap.size (fun k => k < w.heap.size) (mgX b) (partsL (mgId b)) b.length k mk rk Ak nk wr)) (fun i _ => (partsL (mgId b)).length - (intOf i).toNat)
    case atStart => exact ⟨0, _, _, none, 0, Nat.zero_le _, rfl, ⟨⟨HX.out.symm, HM3.out, HR3.out, Tch.refl _ _, HF3.out, hrl⟩⟩⟩
    case round =>
      obtain ⟨k, mk, rk, Ak, nk, hk, rfl, HI⟩ := hrel
      by_cases hlt : k < (partsL (mgId b)).length
      · obtain ⟨c, hc⟩ : ∃ c, (partsL (mgId b))[k] = c := ⟨_, rfl⟩
        have HCL := Kp.mk (HG.out c (by rw [← hc]; exact List.getElem_mem _))
        have hib : k < (ps (partsL (mgId b))).size := by omega
        have hci : (ps (partsL (mgId b)))[k]'hib = c := by rw [← hc]; rfl
        have HDR := Kp.mk (show (partsL (mgId b)).drop k = c :: (partsL (mgId b)).drop (k + 1) by rw [List.drop_eq_getElem_cons hlt, hc])
        clear hc
        go_wp2_with fail
        have hszw := HI.out.tch.size
        refine (read67 (w.heap.size + 1) w2.heap.size (fun k => k < w.heap.size) (fun x => w2.heap.size < x) rk mk Ak nk c wr HCL.out HI.out.rd (by omega) (by omega) (by omega) HI.out.at_ (by omega) (by omega) HI.out.fz (fun x hx => by omega) (by have := HI.out.le; omega)).mono ?_
        rintro e w5 ⟨rfl, A5, n5, hm5, hr5, ht5, hf5⟩
        have HI5 := Kp.mk (show GetInv W3 (w.heap.size + 1) w2.heap.size (fun k => k < w.heap.size) (mgX b) (partsL (mgId b)) b.length (k + 1) (Rd.part mk c rk).1 (Rd.part mk c rk).2 A5 n5 w5 from
          ⟨by have := HI.out.eq; rw [HDR.out] at this; exact this, hm5, hr5, HI.out.tch.trans ht5 (fun _ _ h => h), hf5, Nat.le_trans (Rd.part_le mk c rk) HI.out.le⟩)
        clear hm5 hr5 ht5 hf5
        go_wp2_with fail
        go_roundw
        case rel => exact ⟨k + 1, _, _, A5, n5, by omega, by go_num, HI5⟩
        case measure => go_light; simp only [intOf]; omega
      · obtain rfl : k = (partsL (mgId b)).length := by omega
        have he := HI.out.eq
        rw [List.drop_length] at he
        change (mk, rk) = mgX b at he
        have HMK := Kp.mk (show mk = (mgX b).1 by rw [← he]); have HRK := Kp.mk (show rk = (mgX b).2 by rw [← he])
        have hmo : mk.Ok := by rw [HMK.out]; exact HXO.out
        have HMO := Kp.mk hmo
        have HT4 := Kp.mk (show Still w wr from HT3.out.trans HI.out.tch (fun b hb e => by rcases e with e | e <;> omega))
        have HQ4 := Kp.mk (HQ3.out.tch HI.out.tch (by omega) (fun x hx => hx.elim))
        have HFQ4 := Kp.mk (show ∀ o, wr.frozen? ⟨w.heap.size, o, none⟩ = false from fun o => (HI.out.tch.frozen (a := ⟨w.heap.size, o, none⟩) (show w.heap.size < W3.heap.size by omega) (show ¬ (w.heap.size = w.heap.size + 1 ∨ w.heap.size = w2.heap.size) by omega)).trans (HFQ3.out o))
        clear he hmo
        have m0 := HI.out.at_.id
        have m1 := HI.out.at_.nm
        have m2 := HI.out.at_.ty
        have m3 := HI.out.at_.ex
        have m4 := HI.out.at_.ky
        have m5 := HI.out.at_.tx
        have m6 := HI.out.at_.co
        have m7 := HI.out.at_.cn
        have m8 := HI.out.at_.tg
        have m9 := HI.out.at_.fl
        have m10 := HI.out.at_.bk
        have m11 := HI.out.at_.ar
        go_wp2_with fail
        refine (put35 mk HMO.out (fun x => w2.heap.size < x) Ak nk wr HI.out.at_.sl).mono ?_
        rintro e w5 ⟨Ap, cp, rfl, ho5, ht5⟩
        have HO5 := Kp.mk ho5
        have HT5 := Kp.mk (HT4.out.strans ht5)
        have HQ5 := Kp.mk (HQ4.out.still ht5)
        have hsz5 := HI.out.tch.size
        have HFQ5 := Kp.mk (show ∀ o, w5.frozen? ⟨w.heap.size, o, none⟩ = false from fun o => (ht5.frozen (a := ⟨w.heap.size, o, none⟩) (show w.heap.size < wr.heap.size by omega) (fun f => f)).trans (HFQ4.out o))
        have HM5 := Kp.mk (HI.out.at_.still ht5)
        have HR5 := Kp.mk (HI.out.rd.still ht5)
        obtain ⟨AR, cR, k0, k1, _, _, _, _, _⟩ := HR5.out
        clear ho5 ht5 HQ3 HFQ3 HQ4 HFQ4 HR3 HM3 HF3 m0 m1 m2 m3 m4 m5 m6 m7 m8 m9 m10 m11
        cases hbad : rk.bad with
        | true =>
          rw [hbad] at k1
          have HE2 := Kp.mk (show mgE b = 502 by rw [HE3.out, HOK.out, ← HRK.out, hbad]; rfl)
          have HM2 := Kp.mk (show mgM b = M.zero by rw [HMM.out, HE2.out]; rfl)
          have HQ := HQ5; have HFQ := HFQ5
          clear hbad HQ5 HFQ5
          have q0 := HQ.out.id
          have q1 := HQ.out.nm
          have q2 := HQ.out.ty
          have q3 := HQ.out.ex
          have q4 := HQ.out.ky
          have q5 := HQ.out.tx
          have q6 := HQ.out.co
          have q7 := HQ.out.cn
          have q8 := HQ.out.tg
          have q9 := HQ.out.fl
          have q10 := HQ.out.bk
          have q11 := HQ.out.ar
          have g0 := HFQ.out 0
          have g1 := HFQ.out 1
          have g2 := HFQ.out 2
          have g3 := HFQ.out 3
          have g4 := HFQ.out 4
          have g5 := HFQ.out 5
          have g6 := HFQ.out 6
          have g7 := HFQ.out 7
          have g8 := HFQ.out 8
          have g9 := HFQ.out 9
          have g10 := HFQ.out 10
          have g11 := HFQ.out 11
          skip
          go_wp2_with fail
          have hfin : ∀ w9, Tch (· = w.heap.size) w5 w9 → RetGetM w b (.returned (.tuple #[.agg #[.int .i64 0, .string { data := #[] }, .string { data := #[] }, .string { data := #[] }, .string { data := #[] }, .string { data := #[] }, .int .i64 0, .int .i64 0, .int .u64 0, .bool false, .bool false, .slice none 0 0], .int .i64 502])) w9 := fun w9 h9 => by
            refine ⟨none, 0, ?_, by rw [HM2.out]; exact Sl.nil _ _ _, HT5.out.trans h9 (fun b hb e => by omega)⟩
            rw [HE2.out, HM2.out]
            rfl
          refine bodyPost_ret (v := .tuple #[.agg #[.int .i64 0, .string { data := #[] }, .string { data := #[] }, .string { data := #[] }, .string { data := #[] }, .string { data := #[] }, .int .i64 0, .int .i64 0, .int .u64 0, .bool false, .bool false, .slice none 0 0], .int .i64 502]) (by simp [results, Try.results36, go_sem, q0, q1, q2, q3, q4, q5, q6, q7, q8, q9, q10, q11]) rfl (hfin _ ?_)
          iterate 12 refine Tch.setCell ?_ _ _ (fun _ => rfl)
          exact Tch.refl _ _
        | false =>
          rw [hbad] at k1
          by_cases hpe : mk.putE = 0
          · rw [hpe]
            have hb2 : ((0 : Int) != 0) = false := rfl
            have HPE := Kp.mk hpe
            have HBD := Kp.mk hbad
            clear hbad hpe
            go_wp2_with fail
            refine (equal43 mk.putB b Ap A cp c _ _ _ _ w5 rfl rfl HO5.out.bs (HB.out.still HT5.out)).mono ?_
            rintro e w6 ⟨rfl, ht6⟩
            have HT6 := Kp.mk (HT5.out.strans ht6)
            have HQ6 := Kp.mk (HQ5.out.still ht6)
            have hsz6 := HT5.out.size
            have HFQ6 := Kp.mk (show ∀ o, w6.frozen? ⟨w.heap.size, o, none⟩ = false from fun o => (ht6.frozen (a := ⟨w.heap.size, o, none⟩) (show w.heap.size < w5.heap.size by have := HI.out.tch.size; have := World.block_lt_of_cell? w5 _ HQ5.out.id; exact this) (fun f => f)).trans (HFQ5.out o))
            have HM6 := Kp.mk (HM5.out.still ht6)
            clear ht6 HQ5 HFQ5 HM5 k0 k1
            by_cases he : mk.putB = b
            · have HE2 := Kp.mk (show mgE b = 0 by rw [HE3.out, HOK.out, ← HRK.out, HBD.out, ← HMK.out, HPE.out]; simp [he])
              have HM2 := Kp.mk (show mgM b = mk by rw [HMM.out, HE2.out, HMK.out]; rfl)
              rw [decide_eq_true he]
              clear he
              have HQ := HQ6; have HFQ := HFQ6
              clear HQ6 HFQ6
              have q0 := HQ.out.id
              have q1 := HQ.out.nm
              have q2 := HQ.out.ty
              have q3 := HQ.out.ex
              have q4 := HQ.out.ky
              have q5 := HQ.out.tx
              have q6 := HQ.out.co
              have q7 := HQ.out.cn
              have q8 := HQ.out.tg
              have q9 := HQ.out.fl
              have q10 := HQ.out.bk
              have q11 := HQ.out.ar
              have g0 := HFQ.out 0
              have g1 := HFQ.out 1
              have g2 := HFQ.out 2
              have g3 := HFQ.out 3
              have g4 := HFQ.out 4
              have g5 := HFQ.out 5
              have g6 := HFQ.out 6
              have g7 := HFQ.out 7
              have g8 := HFQ.out 8
              have g9 := HFQ.out 9
              have g10 := HFQ.out 10
              have g11 := HFQ.out 11
              have m0 := HM6.out.id
              have m1 := HM6.out.nm
              have m2 := HM6.out.ty
              have m3 := HM6.out.ex
              have m4 := HM6.out.ky
              have m5 := HM6.out.tx
              have m6 := HM6.out.co
              have m7 := HM6.out.cn
              have m8 := HM6.out.tg
              have m9 := HM6.out.fl
              have m10 := HM6.out.bk
              have m11 := HM6.out.ar
              go_wp2_with fail
              have hfin : ∀ w9, Tch (· = w.heap.size) w6 w9 → RetGetM w b (.returned (.tuple #[mk.val Ak nk, .int .i64 0])) w9 := fun w9 h9 => by
                refine ⟨Ak, nk, by rw [HE2.out, HM2.out], ?_, HT6.out.trans h9 (fun b hb e => by omega)⟩
                rw [HM2.out]
                exact (HM6.out.sl.tch h9 (fun x hx e => by omega)).weak (fun x hx => by omega)
              refine bodyPost_ret (v := .tuple #[mk.val Ak nk, .int .i64 0]) (by simp [results, Try.results36, go_sem, q0, q1, q2, q3, q4, q5, q6, q7, q8, q9, q10, q11]) rfl (hfin _ ?_)
              iterate 12 refine Tch.setCell ?_ _ _ (fun _ => rfl)
              exact Tch.refl _ _
            · have HE2 := Kp.mk (show mgE b = 502 by rw [HE3.out, HOK.out, ← HRK.out, HBD.out, ← HMK.out, HPE.out]; simp [he])
              have HM2 := Kp.mk (show mgM b = M.zero by rw [HMM.out, HE2.out]; rfl)
              rw [decide_eq_false he]
              clear he
              have HQ := HQ6; have HFQ := HFQ6
              clear HQ6 HFQ6
              have q0 := HQ.out.id
              have q1 := HQ.out.nm
              have q2 := HQ.out.ty
              have q3 := HQ.out.ex
              have q4 := HQ.out.ky
              have q5 := HQ.out.tx
              have q6 := HQ.out.co
              have q7 := HQ.out.cn
              have q8 := HQ.out.tg
              have q9 := HQ.out.fl
              have q10 := HQ.out.bk
              have q11 := HQ.out.ar
              have g0 := HFQ.out 0
              have g1 := HFQ.out 1
              have g2 := HFQ.out 2
              have g3 := HFQ.out 3
              have g4 := HFQ.out 4
              have g5 := HFQ.out 5
              have g6 := HFQ.out 6
              have g7 := HFQ.out 7
              have g8 := HFQ.out 8
              have g9 := HFQ.out 9
              have g10 := HFQ.out 10
              have g11 := HFQ.out 11
              skip
              go_wp2_with fail
              have hfin : ∀ w9, Tch (· = w.heap.size) w6 w9 → RetGetM w b (.returned (.tuple #[.agg #[.int .i64 0, .string { data := #[] }, .string { data := #[] }, .string { data := #[] }, .string { data := #[] }, .string { data := #[] }, .int .i64 0, .int .i64 0, .int .u64 0, .bool false, .bool false, .slice none 0 0], .int .i64 502])) w9 := fun w9 h9 => by
                refine ⟨none, 0, ?_, by rw [HM2.out]; exact Sl.nil _ _ _, HT6.out.trans h9 (fun b hb e => by omega)⟩
                rw [HE2.out, HM2.out]
                rfl
              refine bodyPost_ret (v := .tuple #[.agg #[.int .i64 0, .string { data := #[] }, .string { data := #[] }, .string { data := #[] }, .string { data := #[] }, .string { data := #[] }, .int .i64 0, .int .i64 0, .int .u64 0, .bool false, .bool false, .slice none 0 0], .int .i64 502]) (by simp [results, Try.results36, go_sem, q0, q1, q2, q3, q4, q5, q6, q7, q8, q9, q10, q11]) rfl (hfin _ ?_)
              iterate 12 refine Tch.setCell ?_ _ _ (fun _ => rfl)
              exact Tch.refl _ _
          · have hb2 : (mk.putE != 0) = true := by simpa using hpe
            have HE2 := Kp.mk (show mgE b = 502 by rw [HE3.out, HOK.out, ← HMK.out]; simp [hpe])
            have HM2 := Kp.mk (show mgM b = M.zero by rw [HMM.out, HE2.out]; rfl)
            have HQ := HQ5; have HFQ := HFQ5
            clear hbad HQ5 HFQ5 hpe
            have q0 := HQ.out.id
            have q1 := HQ.out.nm
            have q2 := HQ.out.ty
            have q3 := HQ.out.ex
            have q4 := HQ.out.ky
            have q5 := HQ.out.tx
            have q6 := HQ.out.co
            have q7 := HQ.out.cn
            have q8 := HQ.out.tg
            have q9 := HQ.out.fl
            have q10 := HQ.out.bk
            have q11 := HQ.out.ar
            have g0 := HFQ.out 0
            have g1 := HFQ.out 1
            have g2 := HFQ.out 2
            have g3 := HFQ.out 3
            have g4 := HFQ.out 4
            have g5 := HFQ.out 5
            have g6 := HFQ.out 6
            have g7 := HFQ.out 7
            have g8 := HFQ.out 8
            have g9 := HFQ.out 9
            have g10 := HFQ.out 10
            have g11 := HFQ.out 11
            skip
            go_wp2_with fail
            have hfin : ∀ w9, Tch (· = w.heap.size) w5 w9 → RetGetM w b (.returned (.tuple #[.agg #[.int .i64 0, .string { data := #[] }, .string { data := #[] }, .string { data := #[] }, .string { data := #[] }, .string { data := #[] }, .int .i64 0, .int .i64 0, .int .u64 0, .bool false, .bool false, .slice none 0 0], .int .i64 502])) w9 := fun w9 h9 => by
              refine ⟨none, 0, ?_, by rw [HM2.out]; exact Sl.nil _ _ _, HT5.out.trans h9 (fun b hb e => by omega)⟩
              rw [HE2.out, HM2.out]
              rfl
            refine bodyPost_ret (v := .tuple #[.agg #[.int .i64 0, .string { data := #[] }, .string { data := #[] }, .string { data := #[] }, .string { data := #[] }, .string { data := #[] }, .int .i64 0, .int .i64 0, .int .u64 0, .bool false, .bool false, .slice none 0 0], .int .i64 502]) (by simp [results, Try.results36, go_sem, q0, q1, q2, q3, q4, q5, q6, q7, q8, q9, q10, q11]) rfl (hfin _ ?_)
            iterate 12 refine Tch.setCell ?_ _ _ (fun _ => rfl)
            exact Tch.refl _ _
end Go.Proofs.Ytaeainkfllfdfaa
