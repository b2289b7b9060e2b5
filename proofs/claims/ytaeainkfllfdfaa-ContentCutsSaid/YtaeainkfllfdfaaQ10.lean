/- Contracts of the functions that the statement reaches, each walked once, and the plain laws over them, for every input that their premises name (C6, C8, A10, A11, F13). -/
import Derived.Test.YtaeainkfllfdfaaQ9
/- C6: The contract of method.Get: a call from its bytes. -/
namespace Go.Proofs.Ytaeainkfllfdfaa
open Go.RowKit
set_option linter.unusedVariables false
set_option linter.unusedSimpArgs false
set_option maxRecDepth 100000

/-- What holds of Get's loop ahead of part number k: W3: the world in which it was entered; B: the call's block, R: the reader's. -/
structure GetInv (W3 : World) (R B : Nat) (S : Nat → Prop) (X : M × Rd) (ps : List UInt8) (bl : Nat) (k : Nat) (mk : M) (rk : Rd) (A : Option Addr) (n : Nat) (wr : World) : Prop where
  eq : Rd.partsR (ps.drop k) mk rk = X
  at_ : MAt wr (fun x => B < x) B A n mk
  rd : RdAt wr R S rk
  tch : Tch (fun x => x = R ∨ x = B) W3 wr
  fz : ∀ o, wr.frozen? ⟨B, o, none⟩ = false
  le : rk.b.length ≤ bl
/-- What method.Get leaves. -/
def RetGetM (w : World) (b : List UInt8) (e : Ending) (w' : World) : Prop :=
  ∃ A c, e = .returned (.tuple #[(mgM b).val A c, .int .i64 (mgE b)]) ∧ Sl w' (fun k => w.heap.size ≤ k) A (mgM b).ar ∧ Still w w'
theorem RdAt.newT {w : World} {S : Nat → Prop} {A : Option Addr} {c n : Nat} {x : List UInt8} (bad : Bool) (e : TypeId) (hn : n = x.length) (hB : Bs w S A x) (h1 : x.length ≤ c) (h2 : c ≤ 9223372036854775807) :
    RdAt (w.alloc (.cells #[.slice A n c, .bool bad] e)) w.heap.size S ⟨x, bad⟩ := by
  subst hn
  exact ⟨A, c, by go_simp, by go_simp, by go_simp, by go_simp, hB.still ((Still.refl _).alloc _), h1, h2⟩

set_option maxHeartbeats 8000000 in
theorem get36 (b : List UInt8) (A : Option Addr) (c n : Nat) (S : Nat → Prop) (w : World) (hn : n = b.length) (h0 : b.length ≤ 140737488351232) (h1 : b.length ≤ c) (h2 : c ≤ 9223372036854775807) (hB : Bs w S A b) :
    Calls Try.prog 36 #[.slice A n c] w (RetGetM w b) := by
  subst hn
  have HB := Kp.mk hB.old; clear hB
  have HE := Kp.mk (show mgE b = if (mgR b).bad then 502 else if 99 < mgI b ∨ partsL (mgId b) = [45] then 503 else if mgOk b then 0 else 502 from rfl)
  have HMM := Kp.mk (show mgM b = if mgE b = 0 then (mgX b).1 else M.zero from rfl)
  go_enter Try.func36, Try.ntmps36
  go_wp2_with fail
  refine (rnum66 (w.heap.size + 1) (fun k => k < w.heap.size) ⟨b, false⟩ 2 2 _ rfl (by omega) ?_ (by omega)).mono ?_
  · have := RdAt.newT (w := w.alloc (.cells #[.int .i64 0, .string { data := #[] }, .string { data := #[] }, .string { data := #[] }, .string { data := #[] }, .string { data := #[] }, .int .i64 0, .int .i64 0, .int .u64 0, .bool false, .bool false, .slice none 0 0] 42)) (S := fun k => k < w.heap.size) false 105 rfl ((HB.out.weak (fun _ h => h.2)).still ((Still.refl _).alloc _)) h1 h2
    simpa using this
  rintro e w1 ⟨rfl, hr1, ht1⟩
  have hm0 : MAt ((w.alloc (.cells #[.int .i64 0, .string { data := #[] }, .string { data := #[] }, .string { data := #[] }, .string { data := #[] }, .string { data := #[] }, .int .i64 0, .int .i64 0, .int .u64 0, .bool false, .bool false, .slice none 0 0] 42)).alloc (.cells #[.slice A b.length c, .bool false] 105)) (fun _ => False) w.heap.size none 0 M.zero :=
    (MAt.new M.zero (Sl.nil _ _ _)).still ((Still.refl _).alloc _)
  have hf0 : ∀ o, ((w.alloc (.cells #[.int .i64 0, .string { data := #[] }, .string { data := #[] }, .string { data := #[] }, .string { data := #[] }, .string { data := #[] }, .int .i64 0, .int .i64 0, .int .u64 0, .bool false, .bool false, .slice none 0 0] 42)).alloc (.cells #[.slice A b.length c, .bool false] 105)).frozen? ⟨w.heap.size, o, none⟩ = false := fun o => by go_simp
  have hz1 := ht1.size
  simp only [World.size_alloc] at hz1
  have HQ1 := Kp.mk (hm0.tch ht1 (by omega) (fun k hk => hk.elim))
  have HFQ1 := Kp.mk (show ∀ o, w1.frozen? ⟨w.heap.size, o, none⟩ = false from fun o => (ht1.frozen (a := ⟨w.heap.size, o, none⟩) (by simp; omega) (show ¬ w.heap.size = w.heap.size + 1 by omega)).trans (hf0 o))
  have HT1 := Kp.mk (show Still w w1 from (((Still.refl w).alloc _).alloc _).trans ht1 (fun b hb e => by omega))
  have HR1 := Kp.mk hr1
  clear hm0 hf0 hr1 ht1
  have hc1 := num_lt2 ⟨b, false⟩
  go_wp2_with fail
  refine (rnum66 (w.heap.size + 1) (fun k => k < w.heap.size) (Rd.num ⟨b, false⟩ 2).2 2 2 _ rfl (by omega) HR1.out (by omega)).mono ?_
  rintro e w2 ⟨rfl, hr2, ht2⟩
  have hc2 := num_lt2 (Rd.num ⟨b, false⟩ 2).2
  have hz2 := ht2.size
  have HQ := Kp.mk (HQ1.out.tch ht2 (by omega) (fun k hk => hk.elim))
  have HFQ := Kp.mk (show ∀ o, w2.frozen? ⟨w.heap.size, o, none⟩ = false from fun o => (ht2.frozen (a := ⟨w.heap.size, o, none⟩) (show w.heap.size < w1.heap.size by omega) (show ¬ w.heap.size = w.heap.size + 1 by omega)).trans (HFQ1.out o))
  have HT2 := Kp.mk (show Still w w2 from HT1.out.trans ht2 (fun b hb e => by omega))
  have HR2 := Kp.mk (show RdAt w2 (w.heap.size + 1) (fun k => k < w.heap.size) (mgR b) from hr2)
  have HID := Kp.mk (show mgId b = ((Rd.num ⟨b, false⟩ 2).1 : Int) * 100 + (((Rd.num ⟨b, false⟩ 2).2.num 2).1 : Int) from rfl)
  have HIN := Kp.mk (show mgI b = ((Rd.num ⟨b, false⟩ 2).2.num 2).1 from rfl)
  clear hr2 ht2 HQ1 HFQ1 HR1
  generalize (Rd.num ⟨b, false⟩ 2).1 = a1 at *
  generalize ((Rd.num ⟨b, false⟩ 2).2.num 2).1 = a2 at *
  obtain ⟨AR, cR, k0, k1, f0, f1, _, _, _⟩ := HR2.out
  cases hbad : (mgR b).bad with
  | true =>
    rw [hbad] at k1 HE
    have HE2 := Kp.mk (show mgE b = 502 from HE.out)
    have HM2 := Kp.mk (show mgM b = M.zero by rw [HMM.out, HE2.out]; rfl)
    clear hbad
    have q0 := HQ.out.id
    have q1 := HQ.out.nm
    have q2 := HQ.out.ty
    have q3 := HQ.out.ex
    have q4 := HQ.out.ky
    have q5 := HQ.out.tx
    have q6 := HQ.out.co
    have q7 := HQ.out.cn
    have q8 := HQ.out.tg
    have q9 := HQ.out.fl
    have q10 := HQ.out.bk
    have q11 := HQ.out.ar
    have g0 := HFQ.out 0
    have g1 := HFQ.out 1
    have g2 := HFQ.out 2
    have g3 := HFQ.out 3
    have g4 := HFQ.out 4
    have g5 := HFQ.out 5
    have g6 := HFQ.out 6
    have g7 := HFQ.out 7
    have g8 := HFQ.out 8
    have g9 := HFQ.out 9
    have g10 := HFQ.out 10
    have g11 := HFQ.out 11
    skip
    go_wp2_with fail
    have hfin : ∀ w9, Tch (· = w.heap.size) w2 w9 → RetGetM w b (.returned (.tuple #[.agg #[.int .i64 0, .string { data := #[] }, .string { data := #[] }, .string { data := #[] }, .string { data := #[] }, .string { data := #[] }, .int .i64 0, .int .i64 0, .int .u64 0, .bool false, .bool false, .slice none 0 0], .int .i64 502])) w9 := fun w9 h9 => by
      refine ⟨none, 0, ?_, by rw [HM2.out]; exact Sl.nil _ _ _, HT2.out.trans h9 (fun b hb e => by omega)⟩
      rw [HE2.out, HM2.out]
      rfl
    refine bodyPost_ret (v := .tuple #[.agg #[.int .i64 0, .string { data := #[] }, .string { data := #[] }, .string { data := #[] }, .string { data := #[] }, .string { data := #[] }, .int .i64 0, .int .i64 0, .int .u64 0, .bool false, .bool false, .slice none 0 0], .int .i64 502]) (by simp [results, Try.results36, go_sem, q0, q1, q2, q3, q4, q5, q6, q7, q8, q9, q10, q11]) rfl (hfin _ ?_)
    iterate 12 refine Tch.setCell ?_ _ _ (fun _ => rfl)
    exact Tch.refl _ _
  | false =>
    rw [hbad] at k1 HE
    have HE1 := Kp.mk (show mgE b = if 99 < mgI b ∨ partsL (mgId b) = [45] then 503 else if mgOk b = true then 0 else 502 by rw [HE.out]; rfl)
    clear hbad HE
    go_wp2_with fail
    have hm3 := MAt.new (w := w2) (S := fun x => w2.heap.size < x) (A := none) (c := 0) { M.zero with id := ↑a1 * 100 + ↑a2 } (Sl.nil _ _ _)
    have hf3 : ∀ o, (w2.alloc (.cells #[.int .i64 (↑a1 * 100 + ↑a2), .string { data := #[] }, .string { data := #[] }, .string { data := #[] }, .string { data := #[] }, .string { data := #[] }, .int .i64 0, .int .i64 0, .int .u64 0, .bool false, .bool false, .slice none 0 0] 42)).frozen? ⟨w2.heap.size, o, none⟩ = false := fun o => by go_simp
    have hw3 : (w2.alloc (.cells #[.int .i64 (↑a1 * 100 + ↑a2), .string { data := #[] }, .string { data := #[] }, .string { data := #[] }, .string { data := #[] }, .string { data := #[] }, .int .i64 0, .int .i64 0, .int .u64 0, .bool false, .bool false, .slice none 0 0] 42)).heap.size = w2.heap.size + 1 := World.size_alloc _ _
    have ht3 : Still w2 (w2.alloc (.cells #[.int .i64 (↑a1 * 100 + ↑a2), .string { data := #[] }, .string { data := #[] }, .string { data := #[] }, .string { data := #[] }, .string { data := #[] }, .int .i64 0, .int .i64 0, .int .u64 0, .bool false, .bool false, .slice none 0 0] 42)) := (Still.refl _).alloc _
    change MAt (w2.alloc (.cells #[.int .i64 (↑a1 * 100 + ↑a2), .string { data := #[] }, .string { data := #[] }, .string { data := #[] }, .string { data := #[] }, .string { data := #[] }, .int .i64 0, .int .i64 0, .int .u64 0, .bool false, .bool false, .slice none 0 0] 42)) _ _ _ _ _ at hm3
    generalize w2.alloc (.cells #[.int .i64 (↑a1 * 100 + ↑a2), .string { data := #[] }, .string { data := #[] }, .string { data := #[] }, .string { data := #[] }, .string { data := #[] }, .int .i64 0, .int .i64 0, .int .u64 0, .bool false, .bool false, .slice none 0 0] 42) = W3 at *
    rw [← HID.out] at hm3 ⊢
    have HM3 := Kp.mk hm3; have HF3 := Kp.mk hf3
    have HT3 := Kp.mk (HT2.out.strans ht3)
    have HQ3 := Kp.mk (HQ.out.still ht3)
    have HFQ3 := Kp.mk (show ∀ o, W3.frozen? ⟨w.heap.size, o, none⟩ = false from fun o => (ht3.frozen (a := ⟨w.heap.size, o, none⟩) (show w.heap.size < w2.heap.size by omega) (fun f => f)).trans (HFQ.out o))
    have HR3 := Kp.mk (HR2.out.still ht3)
    clear hm3 hf3 ht3 k0 k1 f0 f1 HQ HFQ
    refine (parts33 (mgId b) _).mono ?_
    rintro e w4 ⟨rfl, rfl⟩
    by_cases h99 : 99 < a2
    · have HE2 := Kp.mk (show mgE b = 503 by rw [HE1.out, if_pos (.inl (by rw [HIN.out]; exact h99))])
      have HM2 := Kp.mk (show mgM b = M.zero by rw [HMM.out, HE2.out]; rfl)
      have HQ := HQ3; have HFQ := HFQ3
      clear HQ3 HFQ3
      have q0 := HQ.out.id
      have q1 := HQ.out.nm
      have q2 := HQ.out.ty
      have q3 := HQ.out.ex
      have q4 := HQ.out.ky
      have q5 := HQ.out.tx
      have q6 := HQ.out.co
      have q7 := HQ.out.cn
      have q8 := HQ.out.tg
      have q9 := HQ.out.fl
      have q10 := HQ.out.bk
      have q11 := HQ.out.ar
      have g0 := HFQ.out 0
      have g1 := HFQ.out 1
      have g2 := HFQ.out 2
      have g3 := HFQ.out 3
      have g4 := HFQ.out 4
      have g5 := HFQ.out 5
      have g6 := HFQ.out 6
      have g7 := HFQ.out 7
      have g8 := HFQ.out 8
      have g9 := HFQ.out 9
      have g10 := HFQ.out 10
      have g11 := HFQ.out 11
      skip
      go_wp2_with fail
      have hfin : ∀ w9, Tch (· = w.heap.size) W3 w9 → RetGetM w b (.returned (.tuple #[.agg #[.int .i64 0, .string { data := #[] }, .string { data := #[] }, .string { data := #[] }, .string { data := #[] }, .string { data := #[] }, .int .i64 0, .int .i64 0, .int .u64 0, .bool false, .bool false, .slice none 0 0], .int .i64 503])) w9 := fun w9 h9 => by
        refine ⟨none, 0, ?_, by rw [HM2.out]; exact Sl.nil _ _ _, HT3.out.trans h9 (fun b hb e => by omega)⟩
        rw [HE2.out, HM2.out]
        rfl
      refine bodyPost_ret (v := .tuple #[.agg #[.int .i64 0, .string { data := #[] }, .string { data := #[] }, .string { data := #[] }, .string { data := #[] }, .string { data := #[] }, .int .i64 0, .int .i64 0, .int .u64 0, .bool false, .bool false, .slice none 0 0], .int .i64 503]) (by simp [results, Try.results36, go_sem, q0, q1, q2, q3, q4, q5, q6, q7, q8, q9, q10, q11]) rfl (hfin _ ?_)
      iterate 12 refine Tch.setCell ?_ _ _ (fun _ => rfl)
      exact Tch.refl _ _
    by_cases hp : partsL (mgId b) = [45]
    · have HE2 := Kp.mk (show mgE b = 503 by rw [HE1.out, if_pos (.inr hp)])
      have HM2 := Kp.mk (show mgM b = M.zero by rw [HMM.out, HE2.out]; rfl)
      have hpb : ((ps (partsL (mgId b))).toList == [45]) = true := by rw [ps_list, hp]; rfl
      have HQ := HQ3; have HFQ := HFQ3
      clear HQ3 HFQ3 hp
      have q0 := HQ.out.id
      have q1 := HQ.out.nm
      have q2 := HQ.out.ty
      have q3 := HQ.out.ex
      have q4 := HQ.out.ky
      have q5 := HQ.out.tx
      have q6 := HQ.out.co
      have q7 := HQ.out.cn
      have q8 := HQ.out.tg
      have q9 := HQ.out.fl
      have q10 := HQ.out.bk
      have q11 := HQ.out.ar
      have g0 := HFQ.out 0
      have g1 := HFQ.out 1
      have g2 := HFQ.out 2
      have g3 := HFQ.out 3
      have g4 := HFQ.out 4
      have g5 := HFQ.out 5
      have g6 := HFQ.out 6
      have g7 := HFQ.out 7
      have g8 := HFQ.out 8
      have g9 := HFQ.out 9
      have g10 := HFQ.out 10
      have g11 := HFQ.out 11
      skip
      go_wp2_with fail
      have hfin : ∀ w9, Tch (· = w.heap.size) W3 w9 → RetGetM w b (.returned (.tuple #[.agg #[.int .i64 0, .string { data := #[] }, .string { data := #[] }, .string { data := #[] }, .string { data := #[] }, .string { data := #[] }, .int .i64 0, .int .i64 0, .int .u64 0, .bool false, .bool false, .slice none 0 0], .int .i64 503])) w9 := fun w9 h9 => by
        refine ⟨none, 0, ?_, by rw [HM2.out]; exact Sl.nil _ _ _, HT3.out.trans h9 (fun b hb e => by omega)⟩
        rw [HE2.out, HM2.out]
        rfl
      refine bodyPost_ret (v := .tuple #[.agg #[.int .i64 0, .string { data := #[] }, .string { data := #[] }, .string { data := #[] }, .string { data := #[] }, .string { data := #[] }, .int .i64 0, .int .i64 0, .int .u64 0, .bool false, .bool false, .slice none 0 0], .int .i64 503]) (by simp [results, Try.results36, go_sem, q0, q1, q2, q3, q4, q5, q6, q7, q8, q9, q10, q11]) rfl (hfin _ ?_)
      iterate 12 refine Tch.setCell ?_ _ _ (fun _ => rfl)
      exact Tch.refl _ _
    have hpb : ((ps (partsL (mgId b))).toList == [45]) = false := by rw [ps_list]; simpa using hp
    have HE3 := Kp.mk (show mgE b = if mgOk b = true then 0 else 502 by rw [HE1.out, if_neg (by rw [HIN.out]; intro h; exact h.elim h99 hp)])
    obtain ⟨g1, g2, _⟩ := parts_a _ hp
    have HG := Kp.mk g1
    have hps := ps_size (partsL (mgId b))
    have HX := Kp.mk (show mgX b = Rd.partsR (partsL (mgId b)) { M.zero with id := mgId b } (mgR b) from rfl)
    have HOK := Kp.mk (show mgOk b = (!(mgX b).2.bad && (decide ((mgX b).1.putE = 0) && decide ((mgX b).1.putB = b))) from rfl)
    have HXO := Kp.mk (mgX_ok b h0)
    have hrl := mgR_le b
    clear g1 hp HE1
    go_wp2_with fail
    go_loopw [43] (fun i wr => ∃ (k : Nat) (mk : M) (rk : Rd) (Ak : Option Addr) (nk : Nat), k ≤ (partsL (mgId b)).length ∧ i = .int .i64 k ∧ Kp (GetInv W3 (w.heap.size + 1) w2.heap.size (fun k => k < w.heap.size) (mgX b) (partsL (mgId b)) b.length k mk rk Ak nk wr)) (fun i _ => (partsL (mgId b)).length - (intOf i).toNat)
    case atStart => exact ⟨0, _, _, none, 0, Nat.zero_le _, rfl, ⟨⟨HX.out.symm, HM3.out, HR3.out, Tch.refl _ _, HF3.out, hrl⟩⟩⟩
    case round =>
      obtain ⟨k, mk, rk, Ak, nk, hk, rfl, HI⟩ := hrel
      by_cases hlt : k < (partsL (mgId b)).length
      · obtain ⟨c, hc⟩ : ∃ c, (partsL (mgId b))[k] = c := ⟨_, rfl⟩
        have HCL := Kp.mk (HG.out c (by rw [← hc]; exact List.getElem_mem _))
        have hib : k < (ps (partsL (mgId b))).size := by omega
        have hci : (ps (partsL (mgId b)))[k]'hib = c := by rw [← hc]; rfl
        have HDR := Kp.mk (show (partsL (mgId b)).drop k = c :: (partsL (mgId b)).drop (k + 1) by rw [List.drop_eq_getElem_cons hlt, hc])
        clear hc
        go_wp2_with fail
        have hszw := HI.out.tch.size
        refine (read67 (w.heap.size + 1) w2.heap.size (fun k => k < w.heap.size) (fun x => w2.heap.size < x) rk mk Ak nk c wr HCL.out HI.out.rd (by omega) (by omega) (by omega) HI.out.at_ (by omega) (by omega) HI.out.fz (fun x hx => by omega) (by have := HI.out.le; omega)).mono ?_
        rintro e w5 ⟨rfl, A5, n5, hm5, hr5, ht5, hf5⟩
        have HI5 := Kp.mk (show GetInv W3 (w.heap.size + 1) w2.heap.size (fun k => k < w.heap.size) (mgX b) (partsL (mgId b)) b.length (k + 1) (Rd.part mk c rk).1 (Rd.part mk c rk).2 A5 n5 w5 from
          ⟨by have := HI.out.eq; rw [HDR.out] at this; exact this, hm5, hr5, HI.out.tch.trans ht5 (fun _ _ h => h), hf5, Nat.le_trans (Rd.part_le mk c rk) HI.out.le⟩)
        clear hm5 hr5 ht5 hf5
        go_wp2_with fail
        go_roundw
        case rel => exact ⟨k + 1, _, _, A5, n5, by omega, by go_num, HI5⟩
        case measure => go_light; simp only [intOf]; omega
      · obtain rfl : k = (partsL (mgId b)).length := by omega
        have he := HI.out.eq
        rw [List.drop_length] at he
        change (mk, rk) = mgX b at he
        have HMK := Kp.mk (show mk = (mgX b).1 by rw [← he]); have HRK := Kp.mk (show rk = (mgX b).2 by rw [← he])
        have hmo : mk.Ok := by rw [HMK.out]; exact HXO.out
        have HMO := Kp.mk hmo
        have HT4 := Kp.mk (show Still w wr from HT3.out.trans HI.out.tch (fun b hb e => by rcases e with e | e <;> omega))
        have HQ4 := Kp.mk (HQ3.out.tch HI.out.tch (by omega) (fun x hx => hx.elim))
        have HFQ4 := Kp.mk (show ∀ o, wr.frozen? ⟨w.heap.size, o, none⟩ = false from fun o => (HI.out.tch.frozen (a := ⟨w.heap.size, o, none⟩) (show w.heap.size < W3.heap.size by omega) (show ¬ (w.heap.size = w.heap.size + 1 ∨ w.heap.size = w2.heap.size) by omega)).trans (HFQ3.out o))
        clear he hmo
        have m0 := HI.out.at_.id
        have m1 := HI.out.at_.nm
        have m2 := HI.out.at_.ty
        have m3 := HI.out.at_.ex
        have m4 := HI.out.at_.ky
        have m5 := HI.out.at_.tx
        have m6 := HI.out.at_.co
        have m7 := HI.out.at_.cn
        have m8 := HI.out.at_.tg
        have m9 := HI.out.at_.fl
        have m10 := HI.out.at_.bk
        have m11 := HI.out.at_.ar
        go_wp2_with fail
        refine (put35 mk HMO.out (fun x => w2.heap.size < x) Ak nk wr HI.out.at_.sl).mono ?_
        rintro e w5 ⟨Ap, cp, rfl, ho5, ht5⟩
        have HO5 := Kp.mk ho5
        have HT5 := Kp.mk (HT4.out.strans ht5)
        have HQ5 := Kp.mk (HQ4.out.still ht5)
        have hsz5 := HI.out.tch.size
        have HFQ5 := Kp.mk (show ∀ o, w5.frozen? ⟨w.heap.size, o, none⟩ = false from fun o => (ht5.frozen (a := ⟨w.heap.size, o, none⟩) (show w.heap.size < wr.heap.size by omega) (fun f => f)).trans (HFQ4.out o))
        have HM5 := Kp.mk (HI.out.at_.still ht5)
        have HR5 := Kp.mk (HI.out.rd.still ht5)
        obtain ⟨AR, cR, k0, k1, _, _, _, _, _⟩ := HR5.out
        clear ho5 ht5 HQ3 HFQ3 HQ4 HFQ4 HR3 HM3 HF3 m0 m1 m2 m3 m4 m5 m6 m7 m8 m9 m10 m11
        cases hbad : rk.bad with
        | true =>
          rw [hbad] at k1
          have HE2 := Kp.mk (show mgE b = 502 by rw [HE3.out, HOK.out, ← HRK.out, hbad]; rfl)
          have HM2 := Kp.mk (show mgM b = M.zero by rw [HMM.out, HE2.out]; rfl)
          have HQ := HQ5; have HFQ := HFQ5
          clear hbad HQ5 HFQ5
          have q0 := HQ.out.id
          have q1 := HQ.out.nm
          have q2 := HQ.out.ty
          have q3 := HQ.out.ex
          have q4 := HQ.out.ky
          have q5 := HQ.out.tx
          have q6 := HQ.out.co
          have q7 := HQ.out.cn
          have q8 := HQ.out.tg
          have q9 := HQ.out.fl
          have q10 := HQ.out.bk
          have q11 := HQ.out.ar
          have g0 := HFQ.out 0
          have g1 := HFQ.out 1
          have g2 := HFQ.out 2
          have g3 := HFQ.out 3
          have g4 := HFQ.out 4
          have g5 := HFQ.out 5
          have g6 := HFQ.out 6
          have g7 := HFQ.out 7
          have g8 := HFQ.out 8
          have g9 := HFQ.out 9
          have g10 := HFQ.out 10
          have g11 := HFQ.out 11
          skip
          go_wp2_with fail
          have hfin : ∀ w9, Tch (· = w.heap.size) w5 w9 → RetGetM w b (.returned (.tuple #[.agg #[.int .i64 0, .string { data := #[] }, .string { data := #[] }, .string { data := #[] }, .string { data := #[] }, .string { data := #[] }, .int .i64 0, .int .i64 0, .int .u64 0, .bool false, .bool false, .slice none 0 0], .int .i64 502])) w9 := fun w9 h9 => by
            refine ⟨none, 0, ?_, by rw [HM2.out]; exact Sl.nil _ _ _, HT5.out.trans h9 (fun b hb e => by omega)⟩
            rw [HE2.out, HM2.out]
            rfl
          refine bodyPost_ret (v := .tuple #[.agg #[.int .i64 0, .string { data := #[] }, .string { data := #[] }, .string { data := #[] }, .string { data := #[] }, .string { data := #[] }, .int .i64 0, .int .i64 0, .int .u64 0, .bool false, .bool false, .slice none 0 0], .int .i64 502]) (by simp [results, Try.results36, go_sem, q0, q1, q2, q3, q4, q5, q6, q7, q8, q9, q10, q11]) rfl (hfin _ ?_)
          iterate 12 refine Tch.setCell ?_ _ _ (fun _ => rfl)
          exact Tch.refl _ _
        | false =>
          rw [hbad] at k1
          by_cases hpe : mk.putE = 0
          · rw [hpe]
            have hb2 : ((0 : Int) != 0) = false := rfl
            have HPE := Kp.mk hpe
            have HBD := Kp.mk hbad
            clear hbad hpe
            go_wp2_with fail
            refine (equal43 mk.putB b Ap A cp c _ _ _ _ w5 rfl rfl HO5.out.bs (HB.out.still HT5.out)).mono ?_
            rintro e w6 ⟨rfl, ht6⟩
            have HT6 := Kp.mk (HT5.out.strans ht6)
            have HQ6 := Kp.mk (HQ5.out.still ht6)
            have hsz6 := HT5.out.size
            have HFQ6 := Kp.mk (show ∀ o, w6.frozen? ⟨w.heap.size, o, none⟩ = false from fun o => (ht6.frozen (a := ⟨w.heap.size, o, none⟩) (show w.heap.size < w5.heap.size by have := HI.out.tch.size; have := World.block_lt_of_cell? w5 _ HQ5.out.id; exact this) (fun f => f)).trans (HFQ5.out o))
            have HM6 := Kp.mk (HM5.out.still ht6)
            clear ht6 HQ5 HFQ5 HM5 k0 k1
            by_cases he : mk.putB = b
            · have HE2 := Kp.mk (show mgE b = 0 by rw [HE3.out, HOK.out, ← HRK.out, HBD.out, ← HMK.out, HPE.out]; simp [he])
              have HM2 := Kp.mk (show mgM b = mk by rw [HMM.out, HE2.out, HMK.out]; rfl)
              rw [decide_eq_true he]
              clear he
              have HQ := HQ6; have HFQ := HFQ6
              clear HQ6 HFQ6
              have q0 := HQ.out.id
              have q1 := HQ.out.nm
              have q2 := HQ.out.ty
              have q3 := HQ.out.ex
              have q4 := HQ.out.ky
              have q5 := HQ.out.tx
              have q6 := HQ.out.co
              have q7 := HQ.out.cn
              have q8 := HQ.out.tg
              have q9 := HQ.out.fl
              have q10 := HQ.out.bk
              have q11 := HQ.out.ar
              have g0 := HFQ.out 0
              have g1 := HFQ.out 1
              have g2 := HFQ.out 2
              have g3 := HFQ.out 3
              have g4 := HFQ.out 4
              have g5 := HFQ.out 5
              have g6 := HFQ.out 6
              have g7 := HFQ.out 7
              have g8 := HFQ.out 8
              have g9 := HFQ.out 9
              have g10 := HFQ.out 10
              have g11 := HFQ.out 11
              have m0 := HM6.out.id
              have m1 := HM6.out.nm
              have m2 := HM6.out.ty
              have m3 := HM6.out.ex
              have m4 := HM6.out.ky
              have m5 := HM6.out.tx
              have m6 := HM6.out.co
              have m7 := HM6.out.cn
              have m8 := HM6.out.tg
              have m9 := HM6.out.fl
              have m10 := HM6.out.bk
              have m11 := HM6.out.ar
              go_wp2_with fail
              have hfin : ∀ w9, Tch (· = w.heap.size) w6 w9 → RetGetM w b (.returned (.tuple #[mk.val Ak nk, .int .i64 0])) w9 := fun w9 h9 => by
                refine ⟨Ak, nk, by rw [HE2.out, HM2.out], ?_, HT6.out.trans h9 (fun b hb e => by omega)⟩
                rw [HM2.out]
                exact (HM6.out.sl.tch h9 (fun x hx e => by omega)).weak (fun x hx => by omega)
              refine bodyPost_ret (v := .tuple #[mk.val Ak nk, .int .i64 0]) (by simp [results, Try.results36, go_sem, q0, q1, q2, q3, q4, q5, q6, q7, q8, q9, q10, q11]) rfl (hfin _ ?_)
              iterate 12 refine Tch.setCell ?_ _ _ (fun _ => rfl)
              exact Tch.refl _ _
            · have HE2 := Kp.mk (show mgE b = 502 by rw [HE3.out, HOK.out, ← HRK.out, HBD.out, ← HMK.out, HPE.out]; simp [he])
              have HM2 := Kp.mk (show mgM b = M.zero by rw [HMM.out, HE2.out]; rfl)
              rw [decide_eq_false he]
              clear he
              have HQ := HQ6; have HFQ := HFQ6
              clear HQ6 HFQ6
              have q0 := HQ.out.id
              have q1 := HQ.out.nm
              have q2 := HQ.out.ty
              have q3 := HQ.out.ex
              have q4 := HQ.out.ky
              have q5 := HQ.out.tx
              have q6 := HQ.out.co
              have q7 := HQ.out.cn
              have q8 := HQ.out.tg
              have q9 := HQ.out.fl
              have q10 := HQ.out.bk
              have q11 := HQ.out.ar
              have g0 := HFQ.out 0
              have g1 := HFQ.out 1
              have g2 := HFQ.out 2
              have g3 := HFQ.out 3
              have g4 := HFQ.out 4
              have g5 := HFQ.out 5
              have g6 := HFQ.out 6
              have g7 := HFQ.out 7
              have g8 := HFQ.out 8
              have g9 := HFQ.out 9
              have g10 := HFQ.out 10
              have g11 := HFQ.out 11
              skip
              go_wp2_with fail
              have hfin : ∀ w9, Tch (· = w.heap.size) w6 w9 → RetGetM w b (.returned (.tuple #[.agg #[.int .i64 0, .string { data := #[] }, .string { data := #[] }, .string { data := #[] }, .string { data := #[] }, .string { data := #[] }, .int .i64 0, .int .i64 0, .int .u64 0, .bool false, .bool false, .slice none 0 0], .int .i64 502])) w9 := fun w9 h9 => by
                refine ⟨none, 0, ?_, by rw [HM2.out]; exact Sl.nil _ _ _, HT6.out.trans h9 (fun b hb e => by omega)⟩
                rw [HE2.out, HM2.out]
                rfl
              refine bodyPost_ret (v := .tuple #[.agg #[.int .i64 0, .string { data := #[] }, .string { data := #[] }, .string { data := #[] }, .string { data := #[] }, .string { data := #[] }, .int .i64 0, .int .i64 0, .int .u64 0, .bool false, .bool false, .slice none 0 0], .int .i64 502]) (by simp [results, Try.results36, go_sem, q0, q1, q2, q3, q4, q5, q6, q7, q8, q9, q10, q11]) rfl (hfin _ ?_)
              iterate 12 refine Tch.setCell ?_ _ _ (fun _ => rfl)
              exact Tch.refl _ _
          · have hb2 : (mk.putE != 0) = true := by simpa using hpe
            have HE2 := Kp.mk (show mgE b = 502 by rw [HE3.out, HOK.out, ← HMK.out]; simp [hpe])
            have HM2 := Kp.mk (show mgM b = M.zero by rw [HMM.out, HE2.out]; rfl)
            have HQ := HQ5; have HFQ := HFQ5
            clear hbad HQ5 HFQ5 hpe
            have q0 := HQ.out.id
            have q1 := HQ.out.nm
            have q2 := HQ.out.ty
            have q3 := HQ.out.ex
            have q4 := HQ.out.ky
            have q5 := HQ.out.tx
            have q6 := HQ.out.co
            have q7 := HQ.out.cn
            have q8 := HQ.out.tg
            have q9 := HQ.out.fl
            have q10 := HQ.out.bk
            have q11 := HQ.out.ar
            have g0 := HFQ.out 0
            have g1 := HFQ.out 1
            have g2 := HFQ.out 2
            have g3 := HFQ.out 3
            have g4 := HFQ.out 4
            have g5 := HFQ.out 5
            have g6 := HFQ.out 6
            have g7 := HFQ.out 7
            have g8 := HFQ.out 8
            have g9 := HFQ.out 9
            have g10 := HFQ.out 10
            have g11 := HFQ.out 11
            skip
            go_wp2_with fail
            have hfin : ∀ w9, Tch (· = w.heap.size) w5 w9 → RetGetM w b (.returned (.tuple #[.agg #[.int .i64 0, .string { data := #[] }, .string { data := #[] }, .string { data := #[] }, .string { data := #[] }, .string { data := #[] }, .int .i64 0, .int .i64 0, .int .u64 0, .bool false, .bool false, .slice none 0 0], .int .i64 502])) w9 := fun w9 h9 => by
              refine ⟨none, 0, ?_, by rw [HM2.out]; exact Sl.nil _ _ _, HT5.out.trans h9 (fun b hb e => by omega)⟩
              rw [HE2.out, HM2.out]
              rfl
            refine bodyPost_ret (v := .tuple #[.agg #[.int .i64 0, .string { data := #[] }, .string { data := #[] }, .string { data := #[] }, .string { data := #[] }, .string { data := #[] }, .int .i64 0, .int .i64 0, .int .u64 0, .bool false, .bool false, .slice none 0 0], .int .i64 502]) (by simp [results, Try.results36, go_sem, q0, q1, q2, q3, q4, q5, q6, q7, q8, q9, q10, q11]) rfl (hfin _ ?_)
            iterate 12 refine Tch.setCell ?_ _ _ (fun _ => rfl)
            exact Tch.refl _ _
end Go.Proofs.Ytaeainkfllfdfaa
/- C8: What the document says of a few calls: carrefourlaw5.told; and which calls are few: carrefourlaw5.Few. -/
namespace Go.Proofs.Ytaeainkfllfdfaa
open Go.RowKit
set_option linter.unusedVariables false
set_option linter.unusedSimpArgs false
set_option maxRecDepth 100000

def SomeBool (w : World) (e : Ending) (w' : World) : Prop := (∃ b : Bool, e = .returned (.bool b)) ∧ Still w w'
set_option maxHeartbeats 4000000 in
theorem few23 (m : M) (A : Option Addr) (n : Nat) (S : Nat → Prop) (w : World) (hm : m.Ok) (hA : Sl w S A m.ar) :
    Calls Try.prog 23 #[m.val A n] w (SomeBool w) := by
  have C := Kp.mk (fun W hs => few16 m.ar A n S W hm.arl hm.ar (hA.still hs))
  clear hA hm
  go_enter Try.func23, Try.ntmps23
  go_wp2_with (refine (C.out _ ((Still.refl _).alloc _)).mono ?_; rintro e w1 ⟨⟨fb, rfl⟩, hw1⟩)
  all_goals go_ret
  all_goals first | exact ⟨⟨_, rfl⟩, (Still.refl _).alloc _⟩ | exact ⟨⟨_, rfl⟩, ((Still.refl _).alloc _).still ‹_›⟩

def m1 : M := { M.zero with id := 2010 }
def m2 : M := { M.zero with id := 6080, tg := 258, fl := true }
def m3 : M := { M.zero with id := 6070, ky := ⟨#[120]⟩ }
theorem m1_put : m1.putE = 0 ∧ m1.putB = [0, 20, 0, 10] := by decide +kernel
theorem m2_put : m2.putE = 0 ∧ m2.putB = [0, 60, 0, 80, 0, 0, 0, 0, 0, 0, 1, 2, 1] := by decide +kernel
theorem m3_put : m3.putE = 1 ∧ m3.putB = [] := by decide +kernel
theorem m2_get : mgE [0, 60, 0, 80, 0, 0, 0, 0, 0, 0, 1, 2, 1] = 0 ∧ mgM [0, 60, 0, 80, 0, 0, 0, 0, 0, 0, 1, 2, 1] = m2 := by decide +kernel
theorem m4_get : mgE [0, 19, 0, 110] = 503 ∧ mgM [0, 19, 0, 110] = M.zero := by decide +kernel
theorem m5_get : mgE [0, 20] = 502 ∧ mgM [0, 20] = M.zero := by decide +kernel
theorem with_ok {m : M} (h : m.Ok) (id : Int) (h1 : 0 ≤ id) (h2 : id ≤ 100000) : ({ m with id := id } : M).Ok :=
  ⟨by show _ ≤ id; omega, by show id ≤ _; omega, h.nm, h.ty, h.ex, h.ky, h.tx, h.co1, h.co2, h.cn1, h.cn2, h.tg1, h.tg2, h.ar, h.arl⟩
theorem m1_ok : m1.Ok := with_ok M.zero_ok 2010 (by decide) (by decide)
theorem m2_ok : m2.Ok := by constructor <;> first | decide | trivial
theorem m3_ok : m3.Ok := by constructor <;> first | decide | trivial
theorem p6120 : partsL 6120 = [116, 102, 98] := by decide
theorem p7 : partsL 7 = [45] := by decide

/-- A row of bytes that was just laid. -/
theorem Bs.new {W : World} {S : Nat → Prop} {b : Nat} {bs : List UInt8} (hb : W.heap.size = b) (hS : S b) : Bs (W.alloc (.cells (nb bs).toArray 5)) S (some ⟨b, 0, none⟩) bs := by
  refine .inr ⟨b, 0, rfl, hS, fun j hj => ?_⟩
  rw [Nat.zero_add]
  exact cell_new' hb (by simp [nb, hj])

end Go.Proofs.Ytaeainkfllfdfaa
/- A10: Plain laws of calls: a call comes back from its bytes; cut off, or with a byte behind, it does not; one byte turned. No program in sight. -/
namespace Go.Proofs.Ytaeainkfllfdfaa
open Go.RowKit
set_option linter.unusedVariables false
set_option linter.unusedSimpArgs false

/-- One part taken over. -/
def M.setP (m mk : M) (c : UInt8) : M :=
  if c = 99 then { mk with co := m.co } else if c = 117 then { mk with cn := m.cn } else if c = 116 then { mk with tg := m.tg } else if c = 102 then { mk with fl := m.fl } else if c = 98 then { mk with bk := m.bk }
  else if c = 97 then { mk with ar := m.ar } else if c = 110 then { mk with nm := m.nm } else if c = 121 then { mk with ty := m.ty } else if c = 101 then { mk with ex := m.ex } else if c = 107 then { mk with ky := m.ky } else { mk with tx := m.tx }
/-- These parts taken over. -/
def M.mix (m mk : M) (p : UInt8 → Bool) : M :=
  ⟨mk.id, if p 110 then m.nm else mk.nm, if p 121 then m.ty else mk.ty, if p 101 then m.ex else mk.ex, if p 107 then m.ky else mk.ky, if p 120 then m.tx else mk.tx, if p 99 then m.co else mk.co, if p 117 then m.cn else mk.cn,
    if p 116 then m.tg else mk.tg, if p 102 then m.fl else mk.fl, if p 98 then m.bk else mk.bk, if p 97 then m.ar else mk.ar⟩
theorem M.mix_none (m mk : M) : m.mix mk (fun _ => false) = mk := rfl
theorem M.setP_mix (m mk : M) (p : UInt8 → Bool) {c : UInt8} (hc : c ∈ lettersL) : m.setP (m.mix mk p) c = m.mix mk (fun x => p x || (x == c)) := by
  rcases letters_five hc with rfl | rfl | rfl | rfl | rfl | rfl | rfl | rfl | rfl | rfl | rfl <;> simp [M.setP, M.mix]

theorem u64w_nat {n : Int} (h0 : 0 ≤ n) (h1 : n < 18446744073709551616) : u64w n = n.toNat := by
  have := u64w_mod n
  omega
theorem part_back {m mk : M} (hO : m.Ok) {c : UInt8} (hc : c ∈ lettersL) (hr : m.rightB c = true) (ha : c = 97 → m.ar.enc.length ≤ 3000) (rest : List UInt8) (hl : c = 97 → rest = []) :
    Rd.part mk c ⟨m.encP c ++ rest, false⟩ = (m.setP mk c, ⟨rest, false⟩) := by
  rcases letters_five hc with rfl | rfl | rfl | rfl | rfl | rfl | rfl | rfl | rfl | rfl | rfl
  · have h := of_decide_eq_true (show decide (0 ≤ m.co ∧ m.co ≤ 65535) = true from hr)
    have e := num_be (u64w m.co) 2 rest
    rw [u64w_nat h.1 (by omega)] at e
    simp only [Rd.part, M.encP, M.setP, if_true]
    rw [u64w_nat h.1 (by omega), e]
    simp only [Prod.mk.injEq, M.mk.injEq, true_and, and_true]
    omega
  · have h := of_decide_eq_true (show decide (0 ≤ m.cn ∧ m.cn ≤ 4294967295) = true from hr)
    have e := num_be (u64w m.cn) 4 rest
    rw [u64w_nat h.1 (by omega)] at e
    simp only [Rd.part, M.encP, M.setP, if_true, show (117 : UInt8) ≠ 99 from by decide, if_false]
    rw [u64w_nat h.1 (by omega), e]
    simp only [Prod.mk.injEq, M.mk.injEq, true_and, and_true]
    omega
  · have e := num_be m.tg.toNat 8 rest
    have h1 := hO.tg1; have h2 := hO.tg2
    simp only [Rd.part, M.encP, M.setP, if_true, show (116 : UInt8) ≠ 99 from by decide, show (116 : UInt8) ≠ 117 from by decide, if_false]
    rw [e]
    simp only [Prod.mk.injEq, M.mk.injEq, true_and, and_true]
    omega
  · simp only [Rd.part, M.encP, M.setP, if_true, show (102 : UInt8) ≠ 99 from by decide, show (102 : UInt8) ≠ 117 from by decide, show (102 : UInt8) ≠ 116 from by decide, if_false]
    rw [List.singleton_append, num_one]
    cases m.fl <;> rfl
  · simp only [Rd.part, M.encP, M.setP, if_true, show (98 : UInt8) ≠ 99 from by decide, show (98 : UInt8) ≠ 117 from by decide, show (98 : UInt8) ≠ 116 from by decide, show (98 : UInt8) ≠ 102 from by decide, if_false]
    rw [List.singleton_append, num_one]
    cases m.bk <;> rfl
  · have hm : m.ar.mayTab 1 = true := hr
    obtain ⟨h1, h2⟩ := get_put hO.ar hm (ha rfl)
    have hrest := hl rfl
    subst hrest
    have e : Rd.raw ⟨m.ar.enc ++ [], false⟩ (m.ar.enc ++ []).length = (m.ar.enc, ⟨[], false⟩) := raw_app' _ _ _ (by simp)
    have e2 : m.encP 97 = m.ar.enc := rfl
    have e3 : Rd.part mk 97 ⟨m.encP 97 ++ [], false⟩ = ({ mk with ar := getL (Rd.raw ⟨m.ar.enc ++ [], false⟩ (m.ar.enc ++ []).length).1 }, ⟨(Rd.raw ⟨m.ar.enc ++ [], false⟩ (m.ar.enc ++ []).length).2.b, (Rd.raw ⟨m.ar.enc ++ [], false⟩ (m.ar.enc ++ []).length).2.bad || decide (getE (Rd.raw ⟨m.ar.enc ++ [], false⟩ (m.ar.enc ++ []).length).1 ≠ 0)⟩) := rfl
    rw [e3, e, h1, h2]
    rfl
  all_goals
    simp only [Rd.part, M.encP, M.setP, M.txt, if_true, show ∀ a b : UInt8, (a = b) = (a = b) from fun _ _ => rfl, reduceCtorEq]
    have h := hr
    simp [M.rightB, M.txt] at h
    simp only [show (110 : UInt8) ≠ 99 from by decide, show (110 : UInt8) ≠ 117 from by decide, show (110 : UInt8) ≠ 116 from by decide, show (110 : UInt8) ≠ 102 from by decide, show (110 : UInt8) ≠ 98 from by decide, show (110 : UInt8) ≠ 97 from by decide,
      show (121 : UInt8) ≠ 99 from by decide, show (121 : UInt8) ≠ 117 from by decide, show (121 : UInt8) ≠ 116 from by decide, show (121 : UInt8) ≠ 102 from by decide, show (121 : UInt8) ≠ 98 from by decide, show (121 : UInt8) ≠ 97 from by decide, show (121 : UInt8) ≠ 110 from by decide,
      show (101 : UInt8) ≠ 99 from by decide, show (101 : UInt8) ≠ 117 from by decide, show (101 : UInt8) ≠ 116 from by decide, show (101 : UInt8) ≠ 102 from by decide, show (101 : UInt8) ≠ 98 from by decide, show (101 : UInt8) ≠ 97 from by decide, show (101 : UInt8) ≠ 110 from by decide, show (101 : UInt8) ≠ 121 from by decide,
      show (107 : UInt8) ≠ 99 from by decide, show (107 : UInt8) ≠ 117 from by decide, show (107 : UInt8) ≠ 116 from by decide, show (107 : UInt8) ≠ 102 from by decide, show (107 : UInt8) ≠ 98 from by decide, show (107 : UInt8) ≠ 97 from by decide, show (107 : UInt8) ≠ 110 from by decide, show (107 : UInt8) ≠ 121 from by decide, show (107 : UInt8) ≠ 101 from by decide,
      show (120 : UInt8) ≠ 99 from by decide, show (120 : UInt8) ≠ 117 from by decide, show (120 : UInt8) ≠ 116 from by decide, show (120 : UInt8) ≠ 102 from by decide, show (120 : UInt8) ≠ 98 from by decide, show (120 : UInt8) ≠ 97 from by decide, show (120 : UInt8) ≠ 110 from by decide, show (120 : UInt8) ≠ 121 from by decide, show (120 : UInt8) ≠ 101 from by decide, show (120 : UInt8) ≠ 107 from by decide, if_true, if_false]
    rw [List.cons_append, num_one]
    simp only
    rw [raw_app' _ _ _ (by rw [Array.length_toList, UInt8.toNat_ofNat', Nat.mod_eq_of_lt (by omega)]; rfl)]
end Go.Proofs.Ytaeainkfllfdfaa
/- A11: Plain laws of calls: the round trip, and what is cut off, longer or turned. No program in sight. -/
namespace Go.Proofs.Ytaeainkfllfdfaa
open Go.RowKit
set_option linter.unusedVariables false
set_option linter.unusedSimpArgs false

/-- What a call that is put bears. -/
structure M.Good (m : M) : Prop where
  ok : m.Ok
  may : m.mayB = true
  pe : m.putE = 0
  ne : partsL m.id ≠ [45]
  lo : 2010 ≤ m.id
  hi : m.id ≤ 9031
  let_ : ∀ c ∈ partsL m.id, c ∈ lettersL
  rt : ∀ c ∈ lettersL, m.rightB c = true
  em : ∀ c ∈ lettersL, c ∉ partsL m.id → m.emptyB c = true
  ar : 97 ∈ partsL m.id → m.ar.enc.length ≤ 3000
  la : partsL m.id = [110, 101, 107, 97] ∨ 97 ∉ partsL m.id
theorem M.good {m : M} (hO : m.Ok) (hp : m.putE = 0) : m.Good := by
  have hm : m.mayB = true := by
    cases h : m.mayB with
    | true => rfl
    | false => simp [M.putE, h] at hp
  obtain ⟨h1, h2⟩ := (M.mayB_iff m).1 hm
  obtain ⟨g1, g2, g3, g4, g5, g6, _⟩ := parts_a m.id h1
  refine ⟨hO, hm, hp, h1, g5, g6, g1, fun c hc => ?_, fun c hc hn => ?_, fun h => ?_, ?_⟩
  · have := h2 c hc
    simp only [M.okAt, Bool.and_eq_true] at this
    exact this.2
  · have := h2 c hc
    simp only [M.okAt, Bool.and_eq_true, Bool.or_eq_true] at this
    exact this.1.resolve_left (by simpa using hn)
  · exact encP_le m hm hp 97 h
  · cases ha : hasA m.id with
    | true => exact .inl (g3 ha)
    | false => exact .inr (g4 ha)
theorem M.Good.putB {m : M} (h : m.Good) : m.putB = m.enc := by simp [M.putB, h.pe]

theorem partsR_app : ∀ (a b : List UInt8) (m : M) (r : Rd), Rd.partsR (a ++ b) m r = Rd.partsR b (Rd.partsR a m r).1 (Rd.partsR a m r).2
  | [], b, m, r => rfl
  | c :: a, b, m, r => partsR_app a b _ _
/-- Parts that are no arguments. -/
theorem partsR_back {m : M} (h : m.Good) : ∀ (qs : List UInt8) (p : UInt8 → Bool) (mk : M) (rest : List UInt8), (∀ c ∈ qs, c ∈ lettersL ∧ c ≠ 97) →
    Rd.partsR qs (m.mix mk p) ⟨m.encPs qs ++ rest, false⟩ = (m.mix mk (fun x => p x || qs.contains x), ⟨rest, false⟩)
  | [], p, mk, rest, _ => by simp [Rd.partsR, M.encPs]
  | c :: qs, p, mk, rest, hq => by
    obtain ⟨hc, h97⟩ := hq c (by simp)
    unfold Rd.partsR
    rw [M.encPs, List.append_assoc, part_back h.ok hc (h.rt c hc) (fun e => absurd e h97) _ (fun e => absurd e h97), M.setP_mix m mk p hc]
    rw [partsR_back h qs _ mk rest (fun c hc => hq c (by simp [hc]))]
    congr 2
    funext x
    simp only [List.contains_cons, Bool.or_assoc]
theorem M.eq_parts (a b : M) : a = b ↔ a.id = b.id ∧ a.nm = b.nm ∧ a.ty = b.ty ∧ a.ex = b.ex ∧ a.ky = b.ky ∧ a.tx = b.tx ∧ a.co = b.co ∧ a.cn = b.cn ∧ a.tg = b.tg ∧ a.fl = b.fl ∧ a.bk = b.bk ∧ a.ar = b.ar := by
  cases a; cases b; simp only [M.mk.injEq]
theorem bytes_zero {s : ByteArray} (h : s.size = 0) : s = .empty := ba_nil h
/-- All parts taken over, the others empty: the call. -/
theorem mix_all {m : M} (h : m.Good) : m.mix { M.zero with id := m.id } (fun x => (partsL m.id).contains x) = m := by
  have em := h.em
  have key : ∀ c ∈ lettersL, (partsL m.id).contains c = false → m.emptyB c = true := fun c hc hn => em c hc (by simpa using hn)
  have k1 := key 110 (by decide); have k2 := key 121 (by decide); have k3 := key 101 (by decide); have k4 := key 107 (by decide); have k5 := key 120 (by decide)
  have k6 := key 99 (by decide); have k7 := key 117 (by decide); have k8 := key 116 (by decide); have k9 := key 102 (by decide); have k10 := key 98 (by decide); have k11 := key 97 (by decide)
  simp [M.emptyB, M.txt] at k1 k2 k3 k4 k5 k6 k7 k8 k9 k10 k11
  unfold M.mix M.zero
  rw [M.eq_parts]
  simp only
  refine ⟨trivial, ?_, ?_, ?_, ?_, ?_, ?_, ?_, ?_, ?_, ?_, ?_⟩
  all_goals (simp only [List.contains_eq_mem, decide_eq_true_eq]; split)
  all_goals first | rfl | skip
  · exact (k1 ‹_›).symm
  · exact (k2 ‹_›).symm
  · exact (k3 ‹_›).symm
  · exact (k4 ‹_›).symm
  · exact (k5 ‹_›).symm
  · exact (k6 ‹_›).symm
  · exact (k7 ‹_›).symm
  · exact (k8 ‹_›).symm
  · exact (k9 ‹_›).symm
  · exact (k10 ‹_›).symm
  · exact (L.len_zero (k11 ‹_›)).symm

theorem M.enc_eq (m : M) : m.enc = be (u64w (m.id.tdiv 100)) 2 ++ (be (u64w (m.id.tmod 100)) 2 ++ m.encPs (partsL m.id)) := by unfold M.enc; rw [List.append_assoc]
theorem M.Good.head {m : M} (h : m.Good) : mgC m.enc = (m.id / 100).toNat ∧ mgI m.enc = (m.id % 100).toNat ∧ mgR m.enc = ⟨m.encPs (partsL m.id), false⟩ ∧ mgId m.enc = m.id := by
  have h1 := h.lo; have h2 := h.hi
  obtain ⟨e1, e2⟩ := id_bytes h1 h2
  have hc : Rd.num ⟨m.enc, false⟩ 2 = ((m.id / 100).toNat, ⟨be (u64w (m.id.tmod 100)) 2 ++ m.encPs (partsL m.id), false⟩) := by
    rw [M.enc_eq, num_be, e1, Nat.mod_eq_of_lt (by omega)]
  have hi : Rd.num ⟨be (u64w (m.id.tmod 100)) 2 ++ m.encPs (partsL m.id), false⟩ 2 = ((m.id % 100).toNat, ⟨m.encPs (partsL m.id), false⟩) := by
    rw [num_be, e2, Nat.mod_eq_of_lt (by omega)]
  have c1 : mgC m.enc = (m.id / 100).toNat := by unfold mgC; rw [hc]
  have c2 : mgI m.enc = (m.id % 100).toNat := by unfold mgI; rw [hc, hi]
  refine ⟨c1, c2, by unfold mgR; rw [hc, hi], ?_⟩
  unfold mgId
  rw [c1, c2]
  omega
theorem M.Good.back {m : M} (h : m.Good) : mgX m.enc = (m, ⟨[], false⟩) := by
  obtain ⟨_, _, h3, h4⟩ := h.head
  unfold mgX
  rw [h4, h3]
  have hz : ({ M.zero with id := m.id } : M) = m.mix { M.zero with id := m.id } (fun _ => false) := rfl
  rw [hz]
  rcases h.la with hp | hn
  · have e1 := partsR_back h [110, 101, 107] (fun _ => false) { M.zero with id := m.id } (m.encPs [97]) (by decide)
    have e2 : m.encPs (partsL m.id) = m.encPs [110, 101, 107] ++ m.encPs [97] := by rw [hp, ← M.encPs_app]; rfl
    have e3 : partsL m.id = [110, 101, 107] ++ [97] := hp
    rw [e2]
    conv => lhs; rw [e3]
    rw [partsR_app, e1]
    have e4 := part_back (mk := m.mix { M.zero with id := m.id } (fun x => (fun _ => false) x || [110, 101, 107].contains x)) h.ok (c := 97) (by decide) (h.rt 97 (by decide)) (fun _ => h.ar (by rw [hp]; decide)) [] (fun _ => rfl)
    rw [show m.encPs [97] = m.encP 97 ++ [] from rfl]
    unfold Rd.partsR
    rw [e4, M.setP_mix m _ _ (by decide)]
    unfold Rd.partsR
    have e5 := mix_all h
    rw [hp] at e5
    refine Prod.ext ?_ rfl
    simp only
    conv => rhs; rw [← e5]
    congr 1
    funext x
    simp only [List.contains_cons, List.contains_nil, Bool.false_or, Bool.or_false, Bool.or_assoc]
  · have e1 := partsR_back h (partsL m.id) (fun _ => false) { M.zero with id := m.id } [] (fun c hc => ⟨h.let_ c hc, fun e => hn (e ▸ hc)⟩)
    rw [List.append_nil] at e1
    rw [e1]
    refine Prod.ext ?_ rfl
    simp only [Bool.false_or]
    exact mix_all h
theorem M.Good.get {m : M} (h : m.Good) : mgE m.enc = 0 ∧ mgM m.enc = m := by
  obtain ⟨h1, h2, h3, h4⟩ := h.head
  have hk : mgOk m.enc = true := by
    unfold mgOk
    rw [h.back]
    simp [h.pe, h.putB]
  have he : mgE m.enc = 0 := by
    unfold mgE
    rw [h3, h4, h2, hk]
    have hne := h.ne
    rw [if_neg (by simp), if_neg (by rintro (h9 | h9); omega; exact hne h9), if_pos rfl]
  exact ⟨he, by unfold mgM; rw [he, h.back]; rfl⟩
theorem mg_good {b : List UInt8} (hb : b.length ≤ 140737488351232) (h : mgE b = 0) : (mgM b).Good ∧ (mgM b).enc = b ∧ mgId b = (mgM b).id := by
  have hm : mgM b = (mgX b).1 := by unfold mgM; rw [if_pos h]
  have hk : mgOk b = true := by
    unfold mgE at h
    split at h
    · cases h
    split at h
    · cases h
    split at h
    · assumption
    · cases h
  unfold mgOk at hk
  simp only [Bool.and_eq_true, decide_eq_true_eq] at hk
  have hg : (mgM b).Good := by rw [hm]; exact M.good (mgX_ok b hb) hk.2.1
  have he : (mgM b).enc = b := by rw [← hg.putB, hm]; exact hk.2.2
  refine ⟨hg, he, ?_⟩
  have := hg.head.2.2.2
  rw [he] at this
  exact this

/-! ### cut off, longer -/
theorem be_inj {a b : Nat} (k : Nat) (ha : a < 256 ^ k) (hb : b < 256 ^ k) (h : be a k = be b k) : a = b := by
  have := congrArg val h
  rwa [val_be, val_be, Nat.mod_eq_of_lt ha, Nat.mod_eq_of_lt hb] at this
/-- A part's bytes tell where they end. -/
theorem encP_free {m k : M} {c : UInt8} (hc : c ∈ lettersL) (hm : m.rightB c = true) (hk : k.rightB c = true) (am : c = 97 → m.ar.enc.length ≤ 3000) (ak : c = 97 → k.ar.enc.length ≤ 3000) {X Y : List UInt8}
    (h : m.encP c ++ X = k.encP c ++ Y) : X = Y := by
  have key : (m.encP c).length = (k.encP c).length := by
    rcases letters_five hc with rfl | rfl | rfl | rfl | rfl | rfl | rfl | rfl | rfl | rfl | rfl
    · simp [M.encP, be_length]
    · simp [M.encP, be_length]
    · simp [M.encP, be_length]
    · simp [M.encP]
    · simp [M.encP]
    · have e1 : m.encP 97 = be m.ar.encI.length 4 ++ m.ar.encI := rfl
      have e2 : k.encP 97 = be k.ar.encI.length 4 ++ k.ar.encI := rfl
      have l1 : m.ar.enc.length = 4 + m.ar.encI.length := by simp [L.enc, be_length]
      have l2 : k.ar.enc.length = 4 + k.ar.encI.length := by simp [L.enc, be_length]
      have a1 := am rfl; have a2 := ak rfl
      rw [e1, e2, List.append_assoc, List.append_assoc] at h
      have h2 := (List.append_inj h (by rw [be_length, be_length])).1
      have h3 := be_inj 4 (by omega) (by omega) h2
      rw [e1, e2, List.length_append, List.length_append, be_length, be_length, h3]
    all_goals
      simp [M.rightB, M.txt] at hm hk
      simp [M.encP, M.txt] at h ⊢
      have h1 := congrArg UInt8.toNat h.1
      rw [UInt8.toNat_ofNat', UInt8.toNat_ofNat', Nat.mod_eq_of_lt (by omega), Nat.mod_eq_of_lt (by omega)] at h1
      exact h1
  exact (List.append_inj h key).2
theorem encPs_free {m k : M} (hm : m.Good) (hk : k.Good) : ∀ (qs : List UInt8), (∀ c ∈ qs, c ∈ partsL m.id ∧ c ∈ partsL k.id) → ∀ {X Y : List UInt8}, m.encPs qs ++ X = k.encPs qs ++ Y → X = Y
  | [], _, X, Y, h => h
  | c :: qs, hq, X, Y, h => by
    obtain ⟨h1, h2⟩ := hq c (by simp)
    have hl := hm.let_ c h1
    rw [M.encPs, M.encPs, List.append_assoc, List.append_assoc] at h
    exact encPs_free hm hk qs (fun c hc => hq c (by simp [hc])) (encP_free hl (hm.rt c hl) (hk.rt c hl) (fun e => hm.ar (e ▸ h1)) (fun e => hk.ar (e ▸ h2)) h)
/-- Of two calls of one number none's bytes are the other's, cut off. -/
theorem enc_free {m k : M} (hm : m.Good) (hk : k.Good) (hid : m.id = k.id) {X Y : List UInt8} (h : m.enc ++ X = k.enc ++ Y) : X = Y := by
  rw [M.enc_eq, M.enc_eq, hid] at h
  simp only [List.append_assoc] at h
  have h2 := (List.append_inj (List.append_inj h rfl).2 rfl).2
  exact encPs_free hm hk (partsL k.id) (fun c hc => ⟨by rw [hid]; exact hc, hc⟩) h2

theorem num_short {bs : List UInt8} {k : Nat} (h : bs.length < k) : (Rd.num ⟨bs, false⟩ k).2.bad = true := by
  unfold Rd.num Rd.raw
  rw [if_pos (.inr h)]
theorem num_bad (bs : List UInt8) (k : Nat) : (Rd.num ⟨bs, true⟩ k).2.bad = true := by
  unfold Rd.num Rd.raw
  rw [if_pos (.inl rfl)]
theorem num_long {bs : List UInt8} {k : Nat} (h : k ≤ bs.length) : Rd.num ⟨bs, false⟩ k = (val (bs.take k), ⟨bs.drop k, false⟩) := by
  unfold Rd.num Rd.raw
  rw [if_neg (by simp; omega)]
theorem mg_short {b : List UInt8} (h : b.length < 4) : mgE b = 502 := by
  have hb : (mgR b).bad = true := by
    unfold mgR
    by_cases h2 : b.length < 2
    · have := num_short (k := 2) h2
      generalize Rd.num ⟨b, false⟩ 2 = q at *
      obtain ⟨x, y, z⟩ := q
      simp only at this
      subst this
      exact num_bad y 2
    · rw [num_long (by omega)]
      exact num_short (by rw [List.length_drop]; omega)
  unfold mgE
  rw [hb]; rfl
theorem mg_long {b : List UInt8} (h : 4 ≤ b.length) : mgC b = val (b.take 2) ∧ mgI b = val ((b.drop 2).take 2) ∧ mgR b = ⟨b.drop 4, false⟩ := by
  have h1 : Rd.num ⟨b, false⟩ 2 = (val (b.take 2), ⟨b.drop 2, false⟩) := num_long (by omega)
  have h2 : Rd.num ⟨b.drop 2, false⟩ 2 = (val ((b.drop 2).take 2), ⟨(b.drop 2).drop 2, false⟩) := num_long (by rw [List.length_drop]; omega)
  unfold mgC mgI mgR
  rw [h1, h2]
  simp
/-- With the same first four bytes the number is the same. -/
theorem mg_same {b b' : List UInt8} (h : 4 ≤ b.length) (h' : 4 ≤ b'.length) (he : b'.take 4 = b.take 4) : mgC b' = mgC b ∧ mgI b' = mgI b ∧ mgId b' = mgId b ∧ (mgR b').bad = false := by
  obtain ⟨a1, a2, a3⟩ := mg_long h
  obtain ⟨c1, c2, c3⟩ := mg_long h'
  have e1 : b'.take 2 = b.take 2 := by have := congrArg (List.take 2) he; simpa [List.take_take] using this
  have e2 : (b'.drop 2).take 2 = (b.drop 2).take 2 := by
    have := congrArg (List.drop 2) he
    simpa [List.drop_take] using this
  have r1 : mgC b' = mgC b := by rw [c1, a1, e1]
  have r2 : mgI b' = mgI b := by rw [c2, a2, e2]
  exact ⟨r1, r2, by unfold mgId; rw [r1, r2], by rw [c3]⟩
theorem mg_not503 {m : M} (h : m.Good) {b' : List UInt8} (h' : 4 ≤ b'.length) (he : b'.take 4 = m.enc.take 4) : mgE b' = 0 ∨ mgE b' = 502 := by
  have hl : 4 ≤ m.enc.length := by rw [M.enc_eq]; simp [be_length]; omega
  obtain ⟨r1, r2, r3, r4⟩ := mg_same hl h' he
  obtain ⟨h1, h2, h3, h4⟩ := h.head
  have hne := h.ne
  unfold mgE
  rw [r4, r3, r2, h4, h2, if_neg (by simp), if_neg (by rintro (h9 | h9); omega; exact hne h9)]
  split
  · exact .inl rfl
  · exact .inr rfl
theorem enc_len {m : M} : 4 ≤ m.enc.length := by rw [M.enc_eq]; simp [be_length]; omega
theorem mg_cut {m : M} (h : m.Good) {b' X Y : List UInt8} (hl : b'.length ≤ 140737488351232) (h4 : 4 ≤ b'.length) (he : b'.take 4 = m.enc.take 4) (hx : b' ++ X = m.enc ++ Y) (hne : X ≠ Y) : mgE b' = 502 := by
  rcases mg_not503 h h4 he with h0 | h0
  · obtain ⟨g1, g2, g3⟩ := mg_good hl h0
    obtain ⟨r1, r2, r3, r4⟩ := mg_same enc_len h4 he
    have hid : (mgM b').id = m.id := by rw [← g3, r3]; exact h.head.2.2.2
    rw [← g2] at hx
    exact absurd (enc_free g1 h hid hx) hne
  · exact h0
theorem mg_take {m : M} (h : m.Good) (hl : m.enc.length ≤ 140737488351232) {k : Nat} (hk : k < m.enc.length) : mgE (m.enc.take k) = 502 := by
  by_cases h4 : 4 ≤ k
  · refine mg_cut h (X := m.enc.drop k) (Y := []) (by rw [List.length_take]; omega) (by rw [List.length_take]; omega) (by rw [List.take_take, Nat.min_eq_left h4]) (by simp) ?_
    intro e
    have := congrArg List.length e
    simp at this
    omega
  · exact mg_short (by rw [List.length_take]; omega)
theorem mg_more {m : M} (h : m.Good) (hl : m.enc.length ≤ 140737488351231) (c : UInt8) : mgE (m.enc ++ [c]) = 502 :=
  mg_cut h (X := []) (Y := [c]) (by simp; omega) (by have := @enc_len m; simp; omega) (by rw [List.take_append_of_le_length enc_len]) (by simp) (by simp)
theorem mg_turn_yes {m : M} (h : m.Good) {k : Nat} (c : UInt8) (hk : k < m.enc.length) (hl : m.enc.length ≤ 140737488351232) (h0 : mgE (turn m.enc k c) = 0) : (mgM (turn m.enc k c) = m ↔ c = 0) ∧ (mgM (turn m.enc k c)).putE = 0 ∧ (mgM (turn m.enc k c)).putB = turn m.enc k c := by
  obtain ⟨g1, g2, g3⟩ := mg_good (by rw [turn_length]; exact hl) h0
  refine ⟨⟨fun e => ?_, fun e => ?_⟩, g1.pe, by rw [g1.putB]; exact g2⟩
  · rw [e] at g2
    exact (turn_eq c hk).1 g2.symm
  · rw [(turn_eq c hk).2 e]
    exact h.get.2
theorem mg_turn_no {m : M} (h : m.Good) {k : Nat} (c : UInt8) (hk : k < m.enc.length) (h0 : mgE (turn m.enc k c) ≠ 0) : c ≠ 0 ∧ (mgE (turn m.enc k c) = 502 ∨ (mgE (turn m.enc k c) = 503 ∧ k < 4)) := by
  refine ⟨fun e => h0 ?_, ?_⟩
  · rw [(turn_eq c hk).2 e]; exact h.get.1
  · by_cases h4 : k < 4
    · unfold mgE at h0 ⊢
      split
      · exact .inl rfl
      rename_i hb
      rw [if_neg hb] at h0
      split
      · exact .inr ⟨rfl, h4⟩
      rename_i hp
      rw [if_neg hp] at h0
      split
      · rename_i hk; rw [if_pos hk] at h0; exact absurd rfl h0
      · exact .inl rfl
    · left
      rcases mg_not503 h (b' := turn m.enc k c) (by rw [turn_length]; exact enc_len) (by unfold turn; rw [List.take_set_of_le (by omega)]) with h1 | h1
      · exact absurd h1 h0
      · exact h1
end Go.Proofs.Ytaeainkfllfdfaa
/- F13: The walk of MethodBack. -/
namespace Go.Proofs.Ytaeainkfllfdfaa
open Go.RowKit
set_option linter.unusedVariables false
set_option linter.unusedSimpArgs false
set_option maxRecDepth 100000

theorem enc_max {m : M} (h : m.Good) : m.enc.length ≤ 15004 := by
  obtain ⟨_, h2, _⟩ := parts_a m.id h.ne
  have h1 := enc0_le m h.may h.pe h2 _ (Nat.le_refl _)
  rw [M.enc0_all m _ (Nat.le_refl _)] at h1
  omega
theorem get36n (b : List UInt8) (A : Option Addr) (c n : Nat) (S : Nat → Prop) (w : World) (hn : n = b.length) (h0 : b.length ≤ 140737488351232) (h1 : b.length ≤ c) (h2 : c ≤ 9223372036854775807) (hB : Bs w S A b) :
    Calls Try.prog 36 #[.slice A n c] w (RetGetM w b) := get36 b A c n S w hn h0 h1 h2 hB

/-- A call's block. -/
abbrev M.obj (m : M) (A : Option Addr) (c : Nat) : Obj := .cells #[.int .i64 m.id, .string m.nm, .string m.ty, .string m.ex, .string m.ky, .string m.tx, .int .i64 m.co, .int .i64 m.cn, .int .u64 m.tg, .bool m.fl, .bool m.bk, .slice A m.ar.len c] 42

end Go.Proofs.Ytaeainkfllfdfaa
