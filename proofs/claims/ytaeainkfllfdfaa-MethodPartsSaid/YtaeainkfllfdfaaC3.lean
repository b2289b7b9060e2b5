/- The contract of method.Put: the bytes of a call. -/
import Derived.Test.YtaeainkfllfdfaaC2
namespace Go.Proofs.Ytaeainkfllfdfaa
open Go.RowKit
set_option linter.unusedVariables false
set_option linter.unusedSimpArgs false
set_option maxRecDepth 100000

/-- The bytes ahead of part number i. -/
def M.enc0 (m : M) (i : Nat) : List UInt8 := be (u64w (m.id.tdiv 100)) 2 ++ be (u64w (m.id.tmod 100)) 2 ++ m.encPs ((partsL m.id).take i)
/-- What holds of Put's loop at its label, ahead of part number i. -/
structure PutInv (w : World) (base : Nat) (m : M) (A : Option Addr) (n : Nat) (AA : Option Addr) (la : Nat) (args : List UInt8) (i : Nat) (A' : Option Addr) (c' l4 : Nat) (wr : World) : Prop where
  len : l4 = (m.enc0 i).length
  le : i ≤ (partsL m.id).length
  own : OwnB wr base A' c' (m.enc0 i)
  at_ : MAt wr (fun b => b < w.heap.size) w.heap.size A n m
  arg : Bs wr (fun b => b < base) AA args
  argl : la = args.length
  arga : hasA m.id = true → args = m.ar.enc
  tch : Still w wr
  hb : w.heap.size < base
  hb2 : base ≤ wr.heap.size
  ok : m.putE = 0
/-- The frame there. -/
def PutJ (w : World) (m : M) (A : Option Addr) (n : Nat) (a' : Act) (wr : World) : Prop :=
  ∃ (base : Nat) (AA : Option Addr) (la ca : Nat) (args : List UInt8) (i : Nat) (A' : Option Addr) (c' l4 : Nat) (u : Nat → Value), Kp (PutInv w base m A n AA la args i A' c' l4 wr) ∧
    a' = { tmps := #[m.val A n, .pointer (some ⟨w.heap.size, 0, none⟩), .slice none 0 0, .int .i64 0, .slice A' l4 c', .slice AA la ca, .string (ps (partsL m.id)), .int .i64 (i : Int), .int .i64 0, (u 9), (u 10), (u 11), (u 12), (u 13), (u 14), (u 15), (u 16), (u 17), (u 18), (u 19), (u 20), (u 21), (u 22), (u 23), (u 24), (u 25), (u 26), (u 27), (u 28), (u 29), (u 30), (u 31), (u 32), (u 33), (u 34), (u 35), (u 36), (u 37), (u 38), (u 39), (u 40), (u 41), (u 42), (u 43), (u 44), (u 45), (u 46), (u 47), (u 48), (u 49), (u 50), (u 51), (u 52), (u 53), (u 54), (u 55), (u 56), (u 57), (u 58), (u 59), (u 60), (u 61), (u 62), (u 63), (u 64), (u 65), (u 66), (u 67), (u 68), (u 69), (u 70), (u 71), (u 72), (u 73), (u 74), (u 75), (u 76), (u 77), (u 78), (u 79), (u 80), (u 81), (u 82), (u 83), (u 84), (u 85), (u 86), (u 87), (u 88), (u 89), (u 90), (u 91), (u 92), (u 93), (u 94), (u 95), (u 96), (u 97), (u 98), (u 99), (u 100), (u 101)], defers := [] }
theorem PutJ.mk {w : World} {m : M} {A : Option Addr} {n : Nat} {a : Act} {wr : World} (base : Nat) (AA : Option Addr) (la ca : Nat) (args : List UInt8) (i : Nat) (A' : Option Addr) (c' l4 : Nat) (h : Kp (PutInv w base m A n AA la args i A' c' l4 wr))
    (e : a = { tmps := #[m.val A n, .pointer (some ⟨w.heap.size, 0, none⟩), .slice none 0 0, .int .i64 0, .slice A' l4 c', .slice AA la ca, .string (ps (partsL m.id)), .int .i64 (i : Int), .int .i64 0, a.tmps.getD 9 undef, a.tmps.getD 10 undef, a.tmps.getD 11 undef, a.tmps.getD 12 undef, a.tmps.getD 13 undef, a.tmps.getD 14 undef, a.tmps.getD 15 undef, a.tmps.getD 16 undef, a.tmps.getD 17 undef, a.tmps.getD 18 undef, a.tmps.getD 19 undef, a.tmps.getD 20 undef, a.tmps.getD 21 undef, a.tmps.getD 22 undef, a.tmps.getD 23 undef, a.tmps.getD 24 undef, a.tmps.getD 25 undef, a.tmps.getD 26 undef, a.tmps.getD 27 undef, a.tmps.getD 28 undef, a.tmps.getD 29 undef, a.tmps.getD 30 undef, a.tmps.getD 31 undef, a.tmps.getD 32 undef, a.tmps.getD 33 undef, a.tmps.getD 34 undef, a.tmps.getD 35 undef, a.tmps.getD 36 undef, a.tmps.getD 37 undef, a.tmps.getD 38 undef, a.tmps.getD 39 undef, a.tmps.getD 40 undef, a.tmps.getD 41 undef, a.tmps.getD 42 undef, a.tmps.getD 43 undef, a.tmps.getD 44 undef, a.tmps.getD 45 undef, a.tmps.getD 46 undef, a.tmps.getD 47 undef, a.tmps.getD 48 undef, a.tmps.getD 49 undef, a.tmps.getD 50 undef, a.tmps.getD 51 undef, a.tmps.getD 52 undef, a.tmps.getD 53 undef, a.tmps.getD 54 undef, a.tmps.getD 55 undef, a.tmps.getD 56 undef, a.tmps.getD 57 undef, a.tmps.getD 58 undef, a.tmps.getD 59 undef, a.tmps.getD 60 undef, a.tmps.getD 61 undef, a.tmps.getD 62 undef, a.tmps.getD 63 undef, a.tmps.getD 64 undef, a.tmps.getD 65 undef, a.tmps.getD 66 undef, a.tmps.getD 67 undef, a.tmps.getD 68 undef, a.tmps.getD 69 undef, a.tmps.getD 70 undef, a.tmps.getD 71 undef, a.tmps.getD 72 undef, a.tmps.getD 73 undef, a.tmps.getD 74 undef, a.tmps.getD 75 undef, a.tmps.getD 76 undef, a.tmps.getD 77 undef, a.tmps.getD 78 undef, a.tmps.getD 79 undef, a.tmps.getD 80 undef, a.tmps.getD 81 undef, a.tmps.getD 82 undef, a.tmps.getD 83 undef, a.tmps.getD 84 undef, a.tmps.getD 85 undef, a.tmps.getD 86 undef, a.tmps.getD 87 undef, a.tmps.getD 88 undef, a.tmps.getD 89 undef, a.tmps.getD 90 undef, a.tmps.getD 91 undef, a.tmps.getD 92 undef, a.tmps.getD 93 undef, a.tmps.getD 94 undef, a.tmps.getD 95 undef, a.tmps.getD 96 undef, a.tmps.getD 97 undef, a.tmps.getD 98 undef, a.tmps.getD 99 undef, a.tmps.getD 100 undef, a.tmps.getD 101 undef], defers := [] }) : PutJ w m A n a wr := ⟨base, AA, la, ca, args, i, A', c', l4, fun k => a.tmps.getD k undef, h, e⟩
/-- The place in the parts. -/
def placeOf : Value → Nat | .int _ i => i.toNat | _ => 0

theorem M.enc0_succ (m : M) (i : Nat) (h : i < (partsL m.id).length) : m.enc0 (i + 1) = m.enc0 i ++ m.encP (partsL m.id)[i] := by
  unfold M.enc0
  rw [List.take_succ_eq_append_getElem h, M.encPs_app, M.encPs, M.encPs, List.append_nil]
  simp only [List.append_assoc]
theorem M.enc0_zero (m : M) : m.enc0 0 = be (u64w (m.id.tdiv 100)) 2 ++ be (u64w (m.id.tmod 100)) 2 := by simp [M.enc0, M.encPs]
theorem M.enc0_all (m : M) (i : Nat) (h : (partsL m.id).length ≤ i) : m.enc0 i = m.enc := by
  unfold M.enc0 M.enc
  rw [List.take_of_length_le h]
theorem encP_le (m : M) (hm : m.mayB = true) (hput : m.putE = 0) (c : UInt8) (hc : c ∈ partsL m.id) : (m.encP c).length ≤ 3000 := by
  obtain ⟨h1, h2⟩ := (M.mayB_iff m).1 hm
  obtain ⟨g1, g2, g3, g4, _⟩ := parts_a m.id h1
  have hr := h2 c (g1 c hc)
  simp only [M.okAt, Bool.and_eq_true] at hr
  unfold M.encP
  split
  · simp [be_length]
  split
  · simp [be_length]
  split
  · simp [be_length]
  split
  · simp
  split
  · simp
  split
  · rename_i h97
    subst h97
    cases ha : hasA m.id with
    | false => exact absurd hc (g4 ha)
    | true =>
      unfold M.putE at hput
      rw [hm, ha] at hput
      simp only [if_true] at hput
      by_cases hl : 3000 < m.ar.enc.length
      · rw [if_pos hl] at hput; cases hput
      · omega
  · rename_i x1 x2 x3 x4 x5 x6
    have hr2 := hr.2
    unfold M.rightB at hr2
    rw [if_neg x1, if_neg x2, if_neg (by simp [x3, x4, x5]), if_neg x6] at hr2
    have := of_decide_eq_true hr2
    have e : (m.txt c).data.size = (m.txt c).size := rfl
    simp
    omega
theorem enc0_le (m : M) (hm : m.mayB = true) (hput : m.putE = 0) (hn : (partsL m.id).length ≤ 5) : ∀ i, i ≤ (partsL m.id).length → (m.enc0 i).length ≤ 4 + 3000 * i
  | 0, _ => by simp [M.enc0, be_length, M.encPs]
  | i + 1, h => by
    have := enc0_le m hm hput hn i (by omega)
    have h2 := encP_le m hm hput _ (List.getElem_mem (show i < (partsL m.id).length by omega))
    rw [M.enc0_succ m i (by omega), List.length_append]
    omega
theorem id_wraps {id : Int} (h1 : 2010 ≤ id) (h2 : id ≤ 9031) : IntKind.i64.wrap (id.tdiv 100) = id / 100 ∧ IntKind.i64.wrap (id.tmod 100) = id % 100 ∧ id.tmod 100 = id % 100 ∧ IntKind.u64.wrap (id / 100) = id / 100 ∧ IntKind.u64.wrap (id % 100) = id % 100 := by
  rw [Int.tdiv_eq_ediv_of_nonneg (by omega), Int.tmod_eq_emod_of_nonneg (by omega)]
  simp only [IntKind.wrap, IntKind.signed, IntKind.bits]
  simp
  omega
theorem OwnB.mono' {w : World} {base base' : Nat} {A : Option Addr} {c : Nat} {bs : List UInt8} (h : OwnB w base A c bs) (hb : base' ≤ base) : OwnB w base' A c bs := h.mono (fun b hk => Nat.le_trans hb (h.base hk).1)
theorem id_bytes {id : Int} (h1 : 2010 ≤ id) (h2 : id ≤ 9031) : u64w (id.tdiv 100) = (id / 100).toNat ∧ u64w (id.tmod 100) = (id % 100).toNat := by
  have e1 : id.tdiv 100 = id / 100 := Int.tdiv_eq_ediv_of_nonneg (by omega)
  have e2 : id.tmod 100 = id % 100 := Int.tmod_eq_emod_of_nonneg (by omega)
  rw [e1, e2]
  have k1 := u64w_mod (id / 100)
  have k2 := u64w_mod (id % 100)
  constructor <;> omega

set_option maxHeartbeats 8000000 in
theorem put35 (m : M) (hO : m.Ok) (S : Nat → Prop) (A : Option Addr) (n : Nat) (w : World) (hS : Sl w S A m.ar) :
    Calls Try.prog 35 #[m.val A n] w (RetPut w m.putB m.putE) := by
  have HM := Kp.mk (MAt.new (c := n) m (hS.old.weak (fun b hb => hb.2)))
  have HO := Kp.mk hO; clear hO
  have HS := Kp.mk hS; clear hS
  cases hm : m.mayB with
  | false =>
    have HE := Kp.mk (show m.putE = 1 ∧ m.putB = [] by simp [M.putE, M.putB, hm])
    go_enter Try.func35, Try.ntmps35
    go_wp2_with fail
    refine wp_scope_loop 0 (fun _ _ => False) (fun _ _ => 0) rfl (fun _ _ h => h.elim) (fun _ => ?_)
    go_wp2_with fail
    refine (may32 m HO.out S A n _ (HS.out.still ((Still.refl _).alloc _))).mono ?_
    rintro e w1 ⟨rfl, ht1⟩
    rw [hm]
    have HT1 := Kp.mk (((Still.refl w).alloc _).strans ht1); clear ht1 hm
    go_wp2_with fail
    simp only [Exit.jump]
    go_ret2
    rw [HE.out.1, HE.out.2]
    exact ⟨none, 0, rfl, OwnB.nil _ _, HT1.out⟩
  | true =>
    have hne := ((M.mayB_iff m).1 hm).1
    obtain ⟨g1, g2, g3, g4, g5, g6, g7, g8⟩ := parts_a m.id hne
    have HG := Kp.mk g1; have HG3 := Kp.mk g3; have HG4 := Kp.mk g4
    have HNE := Kp.mk hne
    have HMB := Kp.mk hm
    have hlen := g2
    clear g1 g3 g4 hne
    go_enter Try.func35, Try.ntmps35
    go_wp2_with fail
    refine wp_scope_loop 0 (PutJ w m A n) (fun a' _ => 6 - placeOf (a'.tmps.getD 7 undef)) rfl ?_ ?_
    · rintro a' wr ⟨base, AA, la, ca, args, i, A', c', l4, u, ⟨HI⟩, rfl⟩
      obtain rfl := HI.len
      by_cases hlt : i < (partsL m.id).length
      · obtain ⟨c, hc⟩ : ∃ c, (partsL m.id)[i] = c := ⟨_, rfl⟩
        have hcl : c ∈ lettersL := HG.out c (by rw [← hc]; exact List.getElem_mem _)
        have hcp : c ∈ partsL m.id := by rw [← hc]; exact List.getElem_mem _
        have HE1 := Kp.mk (show m.enc0 (i + 1) = m.enc0 i ++ m.encP c by rw [M.enc0_succ m i hlt, hc])
        have hl0 := enc0_le m HMB.out HI.ok hlen i (by omega)
        have hps := ps_size (partsL m.id)
        have hib : i < (ps (partsL m.id)).size := by omega
        have hne : ((i : Int) == ((ps (partsL m.id)).size : Int)) = false := by rw [beq_eq_false_iff_ne]; omega
        have hci : (ps (partsL m.id))[i]'hib = c := by rw [← hc]; rfl
        have HRT := Kp.mk (show m.okAt (partsL m.id) c = true from ((M.mayB_iff m).1 HMB.out).2 c hcl)
        have HCP := Kp.mk hcp
        have hb2 := HI.hb2; have hbw := HI.hb
        have HOW := Kp.mk HI.own
        have HARG := Kp.mk HI.arg; have HAL := Kp.mk HI.argl; have HARGA := Kp.mk HI.arga
        have HF := Kp.mk (show ∀ A2 c2 l4 w2, l4 = (m.enc0 (i + 1)).length → OwnB w2 base A2 c2 (m.enc0 i ++ m.encP c) → Tch (blk A') wr w2 → (∀ b, blk A2 b → blk A' b ∨ wr.heap.size ≤ b) → Kp (PutInv w base m A n AA la args (i + 1) A2 c2 l4 w2) from fun A2 c2 l4 w2 h0 h1 h2 h3 =>
          ⟨⟨h0, by omega, by rw [HE1.out]; exact h1, HI.at_.tch h2 (fun h => by have := (HI.own.base h).1; omega) (fun b hb h => by have := (HI.own.base h).1; omega), HI.arg.tch h2 (fun b hb h => by have := (HI.own.base h).1; omega), HI.argl, HI.arga, HI.tch.trans h2 (fun b hb h => by have := (HI.own.base h).1; omega), HI.hb, Nat.le_trans HI.hb2 h2.size, HI.ok⟩⟩)
        clear hps hc
        have hcl2 := letters_five hcl
        clear hcl hcp
        rcases hcl2 with rfl | rfl | rfl | rfl | rfl | rfl | rfl | rfl | rfl | rfl | rfl
        · have h0 := HI.at_.co
          have HV := Kp.mk (show 0 ≤ IntKind.u64.wrap m.co ∧ IntKind.u64.wrap m.co < 18446744073709551616 by rw [u64w_eq]; exact ⟨by omega, u64w_lt _⟩)
          clear HI
          go_wp2_with fail
          refine (num63 A' c' (m.enc0 i) _ 2 _ base _ wr rfl rfl (by omega) ?_ ?_ HOW.out hb2 (by omega)).mono ?_
          · exact HV.out.1
          · exact HV.out.2
          rintro e w2 ⟨A2, c2, rfl, ho2, ht2, hat2⟩
          have HO2 := Kp.mk (show OwnB w2 base A2 c2 (m.enc0 i ++ m.encP 99) from ho2); have HT2 := Kp.mk ht2; have HA2 := Kp.mk hat2
          have HLN := Kp.mk (show (m.enc0 (i + 1)).length = (m.enc0 i).length + (be (u64w m.co) 2).length by rw [HE1.out, List.length_append]; rfl)
          clear ho2 ht2 hat2
          go_wp2_with fail
          go_step3
          show _ ∧ _
          exact ⟨rfl, PutJ.mk base AA _ ca _ (i + 1) A2 c2 _ (HF.out A2 c2 _ w2 HLN.out.symm HO2.out HT2.out HA2.out) rfl, (by show 6 - ((i : Int) + 1).toNat < 6 - (i : Int).toNat; omega)⟩
        · have h0 := HI.at_.cn
          have HV := Kp.mk (show 0 ≤ IntKind.u64.wrap m.cn ∧ IntKind.u64.wrap m.cn < 18446744073709551616 by rw [u64w_eq]; exact ⟨by omega, u64w_lt _⟩)
          clear HI
          go_wp2_with fail
          refine (num63 A' c' (m.enc0 i) _ 4 _ base _ wr rfl rfl (by omega) ?_ ?_ HOW.out hb2 (by omega)).mono ?_
          · exact HV.out.1
          · exact HV.out.2
          rintro e w2 ⟨A2, c2, rfl, ho2, ht2, hat2⟩
          have HO2 := Kp.mk (show OwnB w2 base A2 c2 (m.enc0 i ++ m.encP 117) from ho2); have HT2 := Kp.mk ht2; have HA2 := Kp.mk hat2
          have HLN := Kp.mk (show (m.enc0 (i + 1)).length = (m.enc0 i).length + (be (u64w m.cn) 4).length by rw [HE1.out, List.length_append]; rfl)
          clear ho2 ht2 hat2
          go_wp2_with fail
          go_step3
          show _ ∧ _
          exact ⟨rfl, PutJ.mk base AA _ ca _ (i + 1) A2 c2 _ (HF.out A2 c2 _ w2 HLN.out.symm HO2.out HT2.out HA2.out) rfl, (by show 6 - ((i : Int) + 1).toNat < 6 - (i : Int).toNat; omega)⟩
        · have h0 := HI.at_.tg
          have HV := Kp.mk (show 0 ≤ m.tg ∧ m.tg < 18446744073709551616 from ⟨HO.out.tg1, HO.out.tg2⟩)
          clear HI
          go_wp2_with fail
          refine (num63 A' c' (m.enc0 i) _ 8 _ base _ wr rfl rfl (by omega) ?_ ?_ HOW.out hb2 (by omega)).mono ?_
          · exact HV.out.1
          · exact HV.out.2
          rintro e w2 ⟨A2, c2, rfl, ho2, ht2, hat2⟩
          have HO2 := Kp.mk (show OwnB w2 base A2 c2 (m.enc0 i ++ m.encP 116) from ho2); have HT2 := Kp.mk ht2; have HA2 := Kp.mk hat2
          have HLN := Kp.mk (show (m.enc0 (i + 1)).length = (m.enc0 i).length + (be m.tg.toNat 8).length by rw [HE1.out, List.length_append]; rfl)
          clear ho2 ht2 hat2
          go_wp2_with fail
          go_step3
          show _ ∧ _
          exact ⟨rfl, PutJ.mk base AA _ ca _ (i + 1) A2 c2 _ (HF.out A2 c2 _ w2 HLN.out.symm HO2.out HT2.out HA2.out) rfl, (by show 6 - ((i : Int) + 1).toNat < 6 - (i : Int).toNat; omega)⟩
        · have h0 := HI.at_.fl
          clear HI
          go_wp2_with fail
          refine (flag64 m.fl wr).mono ?_
          rintro e w2 ⟨rfl, rfl⟩
          obtain ⟨fb, hfb⟩ : ∃ fb : UInt8, (if m.fl then 1 else 0 : UInt8) = fb := ⟨_, rfl⟩
          rw [hfb]
          have HFB := Kp.mk hfb; clear hfb
          go_wp2_with (at_builtin; (refine wpList_appB _ rfl _ _ rfl base A' c' _ 1 (m.enc0 i) rfl rfl (HOW.out.still ((Still.refl _).alloc _)) (some ⟨wr.heap.size, 0, none⟩) 1 [fb] rfl rfl (fun _ => True) (Bs.one _ _ _ trivial (new_one _ _ _)) ?_ ?_ ?_); (simp only [List.length_cons, List.length_nil]; omega); (simp only [World.size_alloc]; omega); intro A2 c2 w2 ho2 ht2 hat2; have HO2 := Kp.mk (show OwnB w2 base A2 c2 (m.enc0 i ++ m.encP 102) by rw [show m.encP 102 = [fb] by rw [← HFB.out]; rfl]; exact ho2); have HT2 := Kp.mk (show Tch (blk A') wr w2 from ((Still.refl wr).alloc _).of_still.trans ht2 (fun b _ h => h)); have HA2 := Kp.mk (show ∀ b, blk A2 b → blk A' b ∨ wr.heap.size ≤ b from fun b hb => (hat2 b hb).imp id (fun h => by simp only [World.size_alloc] at h; omega)); have HLN := Kp.mk (show (m.enc0 (i + 1)).length = (m.enc0 i).length + 1 by rw [HE1.out, List.length_append]; rfl); clear ho2 ht2 hat2)
          go_step3
          show _ ∧ _
          exact ⟨rfl, PutJ.mk base AA _ ca _ (i + 1) A2 c2 _ (HF.out A2 c2 _ w2 HLN.out.symm HO2.out HT2.out HA2.out) rfl, (by show 6 - ((i : Int) + 1).toNat < 6 - (i : Int).toNat; omega)⟩
        · have h0 := HI.at_.bk
          clear HI
          go_wp2_with fail
          refine (flag64 m.bk wr).mono ?_
          rintro e w2 ⟨rfl, rfl⟩
          obtain ⟨fb, hfb⟩ : ∃ fb : UInt8, (if m.bk then 1 else 0 : UInt8) = fb := ⟨_, rfl⟩
          rw [hfb]
          have HFB := Kp.mk hfb; clear hfb
          go_wp2_with (at_builtin; (refine wpList_appB _ rfl _ _ rfl base A' c' _ 1 (m.enc0 i) rfl rfl (HOW.out.still ((Still.refl _).alloc _)) (some ⟨wr.heap.size, 0, none⟩) 1 [fb] rfl rfl (fun _ => True) (Bs.one _ _ _ trivial (new_one _ _ _)) ?_ ?_ ?_); (simp only [List.length_cons, List.length_nil]; omega); (simp only [World.size_alloc]; omega); intro A2 c2 w2 ho2 ht2 hat2; have HO2 := Kp.mk (show OwnB w2 base A2 c2 (m.enc0 i ++ m.encP 98) by rw [show m.encP 98 = [fb] by rw [← HFB.out]; rfl]; exact ho2); have HT2 := Kp.mk (show Tch (blk A') wr w2 from ((Still.refl wr).alloc _).of_still.trans ht2 (fun b _ h => h)); have HA2 := Kp.mk (show ∀ b, blk A2 b → blk A' b ∨ wr.heap.size ≤ b from fun b hb => (hat2 b hb).imp id (fun h => by simp only [World.size_alloc] at h; omega)); have HLN := Kp.mk (show (m.enc0 (i + 1)).length = (m.enc0 i).length + 1 by rw [HE1.out, List.length_append]; rfl); clear ho2 ht2 hat2)
          go_step3
          show _ ∧ _
          exact ⟨rfl, PutJ.mk base AA _ ca _ (i + 1) A2 c2 _ (HF.out A2 c2 _ w2 HLN.out.symm HO2.out HT2.out HA2.out) rfl, (by show 6 - ((i : Int) + 1).toNat < 6 - (i : Int).toNat; omega)⟩
        · have hha : hasA m.id = true := by
            cases h : hasA m.id with
            | true => rfl
            | false => exact absurd HCP.out (HG4.out h)
          have hael := HARGA.out hha
          have hle3 := encP_le m HMB.out HI.ok 97 HCP.out
          change m.ar.enc.length ≤ 3000 at hle3
          subst hael
          clear HI hha
          go_wp2_with (at_builtin; (refine wpList_appB _ rfl _ _ rfl base A' c' _ _ (m.enc0 i) rfl rfl HOW.out AA ca m.ar.enc rfl HAL.out _ HARG.out ?_ ?_ ?_); (omega); (omega); intro A2 c2 w2 ho2 ht2 hat2; have HO2 := Kp.mk (show OwnB w2 base A2 c2 (m.enc0 i ++ m.encP 97) from ho2); have HT2 := Kp.mk ht2; have HA2 := Kp.mk hat2; have HLN := Kp.mk (show (m.enc0 (i + 1)).length = (m.enc0 i).length + la by rw [HE1.out, List.length_append, HAL.out]; rfl); clear ho2 ht2 hat2)
          go_step3
          show _ ∧ _
          exact ⟨rfl, PutJ.mk base AA _ ca _ (i + 1) A2 c2 _ (HF.out A2 c2 _ w2 HLN.out.symm HO2.out HT2.out HA2.out) rfl, (by show 6 - ((i : Int) + 1).toNat < 6 - (i : Int).toNat; omega)⟩
        · have h0 := HI.at_.nm
          clear HI
          have hs255 := HRT.out
          replace hs255 : m.nm.size ≤ 255 := by simp [M.okAt, M.rightB, M.txt] at hs255; exact hs255.2
          have HU8 := Kp.mk (show ((UInt8.ofNat m.nm.size).toNat : Int) = (m.nm.size : Int) by rw [UInt8.toNat_ofNat', Nat.mod_eq_of_lt (by omega)])
          go_wp2_with fail
          refine (part65 w.heap.size 110 wr (by decide)).mono ?_
          rintro e w2 ⟨rfl, rfl⟩
          rw [show fieldOf 110 = 1 from rfl]
          go_wp2_with (first
            | (at_builtin; (refine wpList_appB _ rfl (.tmp 51) (.tmp 55) rfl base A' c' _ 1 (m.enc0 i) rfl rfl (HOW.out.still ((Still.refl _).alloc _)) (some ⟨wr.heap.size, 0, none⟩) 1 [UInt8.ofNat m.nm.size] rfl rfl (fun _ => True) (Bs.one _ _ _ trivial ?_) ?_ ?_ ?_); (rw [HU8.out]; exact new_one _ _ _); (simp only [List.length_cons, List.length_nil]; omega); (simp only [World.size_alloc]; omega); intro A5 c5 w5 ho5 ht5 hat5; have HO5 := Kp.mk ho5; have HT5 := Kp.mk (show Tch (blk A') wr w5 from ((Still.refl wr).alloc _).of_still.trans ht5 (fun b _ h => h)); have HA5 := Kp.mk (show ∀ b, blk A5 b → blk A' b ∨ wr.heap.size ≤ b from fun b hb => (hat5 b hb).imp id (fun h => by simp only [World.size_alloc] at h; omega)); clear ho5 ht5 hat5)
            | (at_builtin; (refine wpList_appS _ rfl (.tmp 56) (.tmp 57) rfl base A5 c5 _ (m.enc0 i ++ [UInt8.ofNat m.nm.size]) rfl ?_ HO5.out m.nm rfl ?_ ?_ ?_); (simp); (simp only [List.length_append, List.length_cons, List.length_nil]; omega); (have := HT5.out.size; omega); intro A2 c2 w2 ho2 ht2 hat2; have HO2 := Kp.mk (show OwnB w2 base A2 c2 (m.enc0 i ++ m.encP 110) by rw [show m.enc0 i ++ m.encP 110 = m.enc0 i ++ [UInt8.ofNat m.nm.size] ++ m.nm.data.toList by rw [List.append_assoc]; rfl]; exact ho2); have HT2 := Kp.mk (show Tch (blk A') wr w2 from HT5.out.trans ht2 (fun b hb h => (HA5.out b h).resolve_right (by omega))); have HA2 := Kp.mk (show ∀ b, blk A2 b → blk A' b ∨ wr.heap.size ≤ b from fun b hb => by { have hz5 := HT5.out.size; rcases hat2 b hb with h | h; exact HA5.out b h; exact .inr (by omega) }); have HLN := Kp.mk (show (m.enc0 (i + 1)).length = (m.enc0 i).length + 1 + m.nm.size by rw [HE1.out, List.length_append, Nat.add_assoc]; congr 1; show (UInt8.ofNat m.nm.size :: m.nm.data.toList).length = 1 + m.nm.size; rw [List.length_cons, Array.length_toList]; exact Nat.add_comm _ _); clear ho2 ht2 hat2))
          go_step3
          show _ ∧ _
          exact ⟨rfl, PutJ.mk base AA _ ca _ (i + 1) A2 c2 _ (HF.out A2 c2 _ w2 HLN.out.symm HO2.out HT2.out HA2.out) rfl, (by show 6 - ((i : Int) + 1).toNat < 6 - (i : Int).toNat; omega)⟩
        · have h0 := HI.at_.ty
          clear HI
          have hs255 := HRT.out
          replace hs255 : m.ty.size ≤ 255 := by simp [M.okAt, M.rightB, M.txt] at hs255; exact hs255.2
          have HU8 := Kp.mk (show ((UInt8.ofNat m.ty.size).toNat : Int) = (m.ty.size : Int) by rw [UInt8.toNat_ofNat', Nat.mod_eq_of_lt (by omega)])
          go_wp2_with fail
          refine (part65 w.heap.size 121 wr (by decide)).mono ?_
          rintro e w2 ⟨rfl, rfl⟩
          rw [show fieldOf 121 = 2 from rfl]
          go_wp2_with (first
            | (at_builtin; (refine wpList_appB _ rfl (.tmp 51) (.tmp 55) rfl base A' c' _ 1 (m.enc0 i) rfl rfl (HOW.out.still ((Still.refl _).alloc _)) (some ⟨wr.heap.size, 0, none⟩) 1 [UInt8.ofNat m.ty.size] rfl rfl (fun _ => True) (Bs.one _ _ _ trivial ?_) ?_ ?_ ?_); (rw [HU8.out]; exact new_one _ _ _); (simp only [List.length_cons, List.length_nil]; omega); (simp only [World.size_alloc]; omega); intro A5 c5 w5 ho5 ht5 hat5; have HO5 := Kp.mk ho5; have HT5 := Kp.mk (show Tch (blk A') wr w5 from ((Still.refl wr).alloc _).of_still.trans ht5 (fun b _ h => h)); have HA5 := Kp.mk (show ∀ b, blk A5 b → blk A' b ∨ wr.heap.size ≤ b from fun b hb => (hat5 b hb).imp id (fun h => by simp only [World.size_alloc] at h; omega)); clear ho5 ht5 hat5)
            | (at_builtin; (refine wpList_appS _ rfl (.tmp 56) (.tmp 57) rfl base A5 c5 _ (m.enc0 i ++ [UInt8.ofNat m.ty.size]) rfl ?_ HO5.out m.ty rfl ?_ ?_ ?_); (simp); (simp only [List.length_append, List.length_cons, List.length_nil]; omega); (have := HT5.out.size; omega); intro A2 c2 w2 ho2 ht2 hat2; have HO2 := Kp.mk (show OwnB w2 base A2 c2 (m.enc0 i ++ m.encP 121) by rw [show m.enc0 i ++ m.encP 121 = m.enc0 i ++ [UInt8.ofNat m.ty.size] ++ m.ty.data.toList by rw [List.append_assoc]; rfl]; exact ho2); have HT2 := Kp.mk (show Tch (blk A') wr w2 from HT5.out.trans ht2 (fun b hb h => (HA5.out b h).resolve_right (by omega))); have HA2 := Kp.mk (show ∀ b, blk A2 b → blk A' b ∨ wr.heap.size ≤ b from fun b hb => by { have hz5 := HT5.out.size; rcases hat2 b hb with h | h; exact HA5.out b h; exact .inr (by omega) }); have HLN := Kp.mk (show (m.enc0 (i + 1)).length = (m.enc0 i).length + 1 + m.ty.size by rw [HE1.out, List.length_append, Nat.add_assoc]; congr 1; show (UInt8.ofNat m.ty.size :: m.ty.data.toList).length = 1 + m.ty.size; rw [List.length_cons, Array.length_toList]; exact Nat.add_comm _ _); clear ho2 ht2 hat2))
          go_step3
          show _ ∧ _
          exact ⟨rfl, PutJ.mk base AA _ ca _ (i + 1) A2 c2 _ (HF.out A2 c2 _ w2 HLN.out.symm HO2.out HT2.out HA2.out) rfl, (by show 6 - ((i : Int) + 1).toNat < 6 - (i : Int).toNat; omega)⟩
        · have h0 := HI.at_.ex
          clear HI
          have hs255 := HRT.out
          replace hs255 : m.ex.size ≤ 255 := by simp [M.okAt, M.rightB, M.txt] at hs255; exact hs255.2
          have HU8 := Kp.mk (show ((UInt8.ofNat m.ex.size).toNat : Int) = (m.ex.size : Int) by rw [UInt8.toNat_ofNat', Nat.mod_eq_of_lt (by omega)])
          go_wp2_with fail
          refine (part65 w.heap.size 101 wr (by decide)).mono ?_
          rintro e w2 ⟨rfl, rfl⟩
          rw [show fieldOf 101 = 3 from rfl]
          go_wp2_with (first
            | (at_builtin; (refine wpList_appB _ rfl (.tmp 51) (.tmp 55) rfl base A' c' _ 1 (m.enc0 i) rfl rfl (HOW.out.still ((Still.refl _).alloc _)) (some ⟨wr.heap.size, 0, none⟩) 1 [UInt8.ofNat m.ex.size] rfl rfl (fun _ => True) (Bs.one _ _ _ trivial ?_) ?_ ?_ ?_); (rw [HU8.out]; exact new_one _ _ _); (simp only [List.length_cons, List.length_nil]; omega); (simp only [World.size_alloc]; omega); intro A5 c5 w5 ho5 ht5 hat5; have HO5 := Kp.mk ho5; have HT5 := Kp.mk (show Tch (blk A') wr w5 from ((Still.refl wr).alloc _).of_still.trans ht5 (fun b _ h => h)); have HA5 := Kp.mk (show ∀ b, blk A5 b → blk A' b ∨ wr.heap.size ≤ b from fun b hb => (hat5 b hb).imp id (fun h => by simp only [World.size_alloc] at h; omega)); clear ho5 ht5 hat5)
            | (at_builtin; (refine wpList_appS _ rfl (.tmp 56) (.tmp 57) rfl base A5 c5 _ (m.enc0 i ++ [UInt8.ofNat m.ex.size]) rfl ?_ HO5.out m.ex rfl ?_ ?_ ?_); (simp); (simp only [List.length_append, List.length_cons, List.length_nil]; omega); (have := HT5.out.size; omega); intro A2 c2 w2 ho2 ht2 hat2; have HO2 := Kp.mk (show OwnB w2 base A2 c2 (m.enc0 i ++ m.encP 101) by rw [show m.enc0 i ++ m.encP 101 = m.enc0 i ++ [UInt8.ofNat m.ex.size] ++ m.ex.data.toList by rw [List.append_assoc]; rfl]; exact ho2); have HT2 := Kp.mk (show Tch (blk A') wr w2 from HT5.out.trans ht2 (fun b hb h => (HA5.out b h).resolve_right (by omega))); have HA2 := Kp.mk (show ∀ b, blk A2 b → blk A' b ∨ wr.heap.size ≤ b from fun b hb => by { have hz5 := HT5.out.size; rcases hat2 b hb with h | h; exact HA5.out b h; exact .inr (by omega) }); have HLN := Kp.mk (show (m.enc0 (i + 1)).length = (m.enc0 i).length + 1 + m.ex.size by rw [HE1.out, List.length_append, Nat.add_assoc]; congr 1; show (UInt8.ofNat m.ex.size :: m.ex.data.toList).length = 1 + m.ex.size; rw [List.length_cons, Array.length_toList]; exact Nat.add_comm _ _); clear ho2 ht2 hat2))
          go_step3
          show _ ∧ _
          exact ⟨rfl, PutJ.mk base AA _ ca _ (i + 1) A2 c2 _ (HF.out A2 c2 _ w2 HLN.out.symm HO2.out HT2.out HA2.out) rfl, (by show 6 - ((i : Int) + 1).toNat < 6 - (i : Int).toNat; omega)⟩
        · have h0 := HI.at_.ky
          clear HI
          have hs255 := HRT.out
          replace hs255 : m.ky.size ≤ 255 := by simp [M.okAt, M.rightB, M.txt] at hs255; exact hs255.2
          have HU8 := Kp.mk (show ((UInt8.ofNat m.ky.size).toNat : Int) = (m.ky.size : Int) by rw [UInt8.toNat_ofNat', Nat.mod_eq_of_lt (by omega)])
          go_wp2_with fail
          refine (part65 w.heap.size 107 wr (by decide)).mono ?_
          rintro e w2 ⟨rfl, rfl⟩
          rw [show fieldOf 107 = 4 from rfl]
          go_wp2_with (first
            | (at_builtin; (refine wpList_appB _ rfl (.tmp 51) (.tmp 55) rfl base A' c' _ 1 (m.enc0 i) rfl rfl (HOW.out.still ((Still.refl _).alloc _)) (some ⟨wr.heap.size, 0, none⟩) 1 [UInt8.ofNat m.ky.size] rfl rfl (fun _ => True) (Bs.one _ _ _ trivial ?_) ?_ ?_ ?_); (rw [HU8.out]; exact new_one _ _ _); (simp only [List.length_cons, List.length_nil]; omega); (simp only [World.size_alloc]; omega); intro A5 c5 w5 ho5 ht5 hat5; have HO5 := Kp.mk ho5; have HT5 := Kp.mk (show Tch (blk A') wr w5 from ((Still.refl wr).alloc _).of_still.trans ht5 (fun b _ h => h)); have HA5 := Kp.mk (show ∀ b, blk A5 b → blk A' b ∨ wr.heap.size ≤ b from fun b hb => (hat5 b hb).imp id (fun h => by simp only [World.size_alloc] at h; omega)); clear ho5 ht5 hat5)
            | (at_builtin; (refine wpList_appS _ rfl (.tmp 56) (.tmp 57) rfl base A5 c5 _ (m.enc0 i ++ [UInt8.ofNat m.ky.size]) rfl ?_ HO5.out m.ky rfl ?_ ?_ ?_); (simp); (simp only [List.length_append, List.length_cons, List.length_nil]; omega); (have := HT5.out.size; omega); intro A2 c2 w2 ho2 ht2 hat2; have HO2 := Kp.mk (show OwnB w2 base A2 c2 (m.enc0 i ++ m.encP 107) by rw [show m.enc0 i ++ m.encP 107 = m.enc0 i ++ [UInt8.ofNat m.ky.size] ++ m.ky.data.toList by rw [List.append_assoc]; rfl]; exact ho2); have HT2 := Kp.mk (show Tch (blk A') wr w2 from HT5.out.trans ht2 (fun b hb h => (HA5.out b h).resolve_right (by omega))); have HA2 := Kp.mk (show ∀ b, blk A2 b → blk A' b ∨ wr.heap.size ≤ b from fun b hb => by { have hz5 := HT5.out.size; rcases hat2 b hb with h | h; exact HA5.out b h; exact .inr (by omega) }); have HLN := Kp.mk (show (m.enc0 (i + 1)).length = (m.enc0 i).length + 1 + m.ky.size by rw [HE1.out, List.length_append, Nat.add_assoc]; congr 1; show (UInt8.ofNat m.ky.size :: m.ky.data.toList).length = 1 + m.ky.size; rw [List.length_cons, Array.length_toList]; exact Nat.add_comm _ _); clear ho2 ht2 hat2))
          go_step3
          show _ ∧ _
          exact ⟨rfl, PutJ.mk base AA _ ca _ (i + 1) A2 c2 _ (HF.out A2 c2 _ w2 HLN.out.symm HO2.out HT2.out HA2.out) rfl, (by show 6 - ((i : Int) + 1).toNat < 6 - (i : Int).toNat; omega)⟩
        · have h0 := HI.at_.tx
          clear HI
          have hs255 := HRT.out
          replace hs255 : m.tx.size ≤ 255 := by simp [M.okAt, M.rightB, M.txt] at hs255; exact hs255.2
          have HU8 := Kp.mk (show ((UInt8.ofNat m.tx.size).toNat : Int) = (m.tx.size : Int) by rw [UInt8.toNat_ofNat', Nat.mod_eq_of_lt (by omega)])
          go_wp2_with fail
          refine (part65 w.heap.size 120 wr (by decide)).mono ?_
          rintro e w2 ⟨rfl, rfl⟩
          rw [show fieldOf 120 = 5 from rfl]
          go_wp2_with (first
            | (at_builtin; (refine wpList_appB _ rfl (.tmp 51) (.tmp 55) rfl base A' c' _ 1 (m.enc0 i) rfl rfl (HOW.out.still ((Still.refl _).alloc _)) (some ⟨wr.heap.size, 0, none⟩) 1 [UInt8.ofNat m.tx.size] rfl rfl (fun _ => True) (Bs.one _ _ _ trivial ?_) ?_ ?_ ?_); (rw [HU8.out]; exact new_one _ _ _); (simp only [List.length_cons, List.length_nil]; omega); (simp only [World.size_alloc]; omega); intro A5 c5 w5 ho5 ht5 hat5; have HO5 := Kp.mk ho5; have HT5 := Kp.mk (show Tch (blk A') wr w5 from ((Still.refl wr).alloc _).of_still.trans ht5 (fun b _ h => h)); have HA5 := Kp.mk (show ∀ b, blk A5 b → blk A' b ∨ wr.heap.size ≤ b from fun b hb => (hat5 b hb).imp id (fun h => by simp only [World.size_alloc] at h; omega)); clear ho5 ht5 hat5)
            | (at_builtin; (refine wpList_appS _ rfl (.tmp 56) (.tmp 57) rfl base A5 c5 _ (m.enc0 i ++ [UInt8.ofNat m.tx.size]) rfl ?_ HO5.out m.tx rfl ?_ ?_ ?_); (simp); (simp only [List.length_append, List.length_cons, List.length_nil]; omega); (have := HT5.out.size; omega); intro A2 c2 w2 ho2 ht2 hat2; have HO2 := Kp.mk (show OwnB w2 base A2 c2 (m.enc0 i ++ m.encP 120) by rw [show m.enc0 i ++ m.encP 120 = m.enc0 i ++ [UInt8.ofNat m.tx.size] ++ m.tx.data.toList by rw [List.append_assoc]; rfl]; exact ho2); have HT2 := Kp.mk (show Tch (blk A') wr w2 from HT5.out.trans ht2 (fun b hb h => (HA5.out b h).resolve_right (by omega))); have HA2 := Kp.mk (show ∀ b, blk A2 b → blk A' b ∨ wr.heap.size ≤ b from fun b hb => by { have hz5 := HT5.out.size; rcases hat2 b hb with h | h; exact HA5.out b h; exact .inr (by omega) }); have HLN := Kp.mk (show (m.enc0 (i + 1)).length = (m.enc0 i).length + 1 + m.tx.size by rw [HE1.out, List.length_append, Nat.add_assoc]; congr 1; show (UInt8.ofNat m.tx.size :: m.tx.data.toList).length = 1 + m.tx.size; rw [List.length_cons, Array.length_toList]; exact Nat.add_comm _ _); clear ho2 ht2 hat2))
          go_step3
          show _ ∧ _
          exact ⟨rfl, PutJ.mk base AA _ ca _ (i + 1) A2 c2 _ (HF.out A2 c2 _ w2 HLN.out.symm HO2.out HT2.out HA2.out) rfl, (by show 6 - ((i : Int) + 1).toNat < 6 - (i : Int).toNat; omega)⟩
      · obtain rfl : i = (partsL m.id).length := by have := HI.le; omega
        have hps := ps_size (partsL m.id)
        have hne : (((partsL m.id).length : Int) == ((ps (partsL m.id)).size : Int)) = true := by rw [hps]; simp
        have HEA := Kp.mk (m.enc0_all _ (Nat.le_refl _))
        have HB := Kp.mk (show m.putB = m.enc by simp [M.putB, HI.ok])
        go_wp2_with fail
        simp only [Exit.jump]
        go_ret2
        rw [HI.ok, HB.out, ← HEA.out]
        exact ⟨A', c', rfl, HI.own.mono (fun b hb => by have := (HI.own.base hb).1; have := HI.hb; omega), HI.tch⟩
    · intro hJ
      have HJ := Kp.mk hJ; clear hJ
      go_wp2_with fail
      refine (may32 m HO.out S A n _ (HS.out.still ((Still.refl _).alloc _))).mono ?_
      rintro e w1 ⟨rfl, ht1⟩
      rw [hm]
      have HT1 := Kp.mk (((Still.refl w).alloc _).strans ht1)
      have HM1 := Kp.mk (HM.out.still ht1)
      have q0 := HM1.out.id
      have hz1 := ht1.size
      simp only [World.size_alloc] at hz1
      clear ht1 hm
      go_wp2_with fail
      refine (parts33 m.id _).mono ?_
      rintro e w2 ⟨rfl, rfl⟩
      go_wp2_with fail
      refine (suffix62 (partsL m.id) _ (by omega)).mono ?_
      rintro e w2 ⟨rfl, rfl⟩
      cases ha : ((partsL m.id).getLast? == some 97) with
      | false =>
        have HPE := Kp.mk (show m.putE = 0 by simp [M.putE, HMB.out, show hasA m.id = false from ha])
        have HHA := Kp.mk (show hasA m.id = false from ha)
        obtain ⟨W0, hW0⟩ : ∃ W0, W0 = w1 := ⟨_, rfl⟩
        subst hW0
        have hq0 : W0.drew.cell? ⟨w.heap.size, 0, none⟩ = some (.int .i64 m.id) := q0
        have HID := Kp.mk (id_bytes g5 g6)
        obtain ⟨e1, e2, e3, e4, e5⟩ := id_wraps g5 g6
        go_wp2_with fail
        go_region_held3 (fun W => W.cell? ⟨w.heap.size, 0, none⟩ = some (.int .i64 m.id))
          (first | exact hq0 | exact hq5 | exact hq6)
          (first
           | (go_at_call 63; ((with_reducible refine (num63 none 0 [] _ 2 2 W0.heap.size 0 _ ?_ ?_ ?_ ?_ ?_ (OwnB.nil _ _) ?_ ?_).mono ?_)); (exact rfl); (exact rfl); (omega); (omega); (omega); (simp only [World.size_drew]; omega); (simp); rintro e w5 ⟨A5, c5, rfl, ho5, ht5, hat5⟩; have HO5 := Kp.mk (show OwnB w5 W0.heap.size A5 c5 (be (m.id / 100).toNat 2) from ho5); have HT5 := Kp.mk (show Still W0 w5 from ((Still.refl _).drew).trans ht5 (fun b _ h => by obtain ⟨_, h, _⟩ := h; cases h)); have hq5 := HT5.out.scell q0; clear ho5 ht5 hat5)
           | (go_at_call 63; (refine (num63 A5 c5 (be (m.id / 100).toNat 2) _ 2 2 W0.heap.size _ _ ?_ ?_ ?_ ?_ ?_ HO5.out ?_ ?_).mono ?_); (exact rfl); (exact rfl); (omega); (omega); (omega); (exact HT5.out.size); (simp [be_length]); rintro e w6 ⟨A6, c6, rfl, ho6, ht6, hat6⟩; have HO6 := Kp.mk (show OwnB w6 W0.heap.size A6 c6 (m.enc0 0) by rw [M.enc0_zero, HID.out.1, HID.out.2]; exact ho6); have HT6 := Kp.mk (show Still W0 w6 from HT5.out.trans ht6 (fun b hb h => by have := (HO5.out.base h).1; omega)); have hq6 := HT6.out.scell q0; clear ho6 ht6 hat6))
        go_wp2_with fail
        go_step3
        simp only [Exit.then]
        refine ‹∀ (a : Act) (w : World), Code.wp _ _ _ a w → _› _ _ (HJ.out _ _ ?_)
        clear HJ
        exact PutJ.mk W0.heap.size none 0 0 [] 0 A6 c6 _ ⟨⟨by rw [M.enc0_zero, HID.out.1, HID.out.2, List.length_append], Nat.zero_le _, HO6.out, HM1.out.still HT6.out, Bs.nil _ _ _, rfl, (fun h => by rw [HHA.out] at h; cases h), HT1.out.strans HT6.out, hz1, HT6.out.size, HPE.out⟩⟩ rfl
      | true =>
        have HHA := Kp.mk (show hasA m.id = true from ha)
        have q11 := HM1.out.ar
        go_wp2_with fail
        refine (put_ok m.ar A n _ w1 HO.out.arl HO.out.ar HM1.out.sl).mono ?_
        rintro e w2 ⟨AA, ca, rfl, ho2, ht2⟩
        have HT1' := HT1
        clear HT1
        have HT1 := Kp.mk (HT1'.out.strans ht2)
        have HM2 := Kp.mk (HM1.out.still ht2)
        have q0 := HM2.out.id
        have hz2 := ht2.size
        have HARG := Kp.mk ho2
        have hmt : m.ar.mayTab 1 = true := by
          have := ((M.mayB_iff m).1 HMB.out).2 97 (by decide)
          simp only [M.okAt, Bool.and_eq_true] at this
          exact this.2
        clear ho2 ht2 HT1' q11 ha
        by_cases hlong : 3000 < m.ar.enc.length
        · have HE := Kp.mk (show m.putE = 502 ∧ m.putB = [] by simp [M.putE, M.putB, HMB.out, HHA.out, hlong])
          rw [show m.ar.putE = 502 by unfold L.putE; rw [if_pos hmt, if_pos hlong]]
          clear hmt
          go_wp2_with fail
          simp only [Exit.jump]
          go_ret2
          rw [HE.out.1, HE.out.2]
          exact ⟨none, 0, rfl, OwnB.nil _ _, HT1.out⟩
        · have HPE := Kp.mk (show m.putE = 0 by simp [M.putE, HMB.out, HHA.out, hlong])
          have hpb : m.ar.putB = m.ar.enc := by unfold L.putB; rw [if_pos hmt, if_neg hlong]
          rw [show m.ar.putE = 0 by unfold L.putE; rw [if_pos hmt, if_neg hlong]]
          rw [hpb] at HARG ⊢
          clear hmt hpb
          obtain ⟨W0, hW0⟩ : ∃ W0, W0 = w2 := ⟨_, rfl⟩
          subst hW0
          have hq0 : W0.drew.cell? ⟨w.heap.size, 0, none⟩ = some (.int .i64 m.id) := q0
          have HID := Kp.mk (id_bytes g5 g6)
          obtain ⟨e1, e2, e3, e4, e5⟩ := id_wraps g5 g6
          go_wp2_with fail
          go_region_held3 (fun W => W.cell? ⟨w.heap.size, 0, none⟩ = some (.int .i64 m.id))
            (first | exact hq0 | exact hq5 | exact hq6)
            (first
             | (go_at_call 63; ((with_reducible refine (num63 none 0 [] _ 2 2 W0.heap.size 0 _ ?_ ?_ ?_ ?_ ?_ (OwnB.nil _ _) ?_ ?_).mono ?_)); (exact rfl); (exact rfl); (omega); (omega); (omega); (simp only [World.size_drew]; omega); (simp); rintro e w5 ⟨A5, c5, rfl, ho5, ht5, hat5⟩; have HO5 := Kp.mk (show OwnB w5 W0.heap.size A5 c5 (be (m.id / 100).toNat 2) from ho5); have HT5 := Kp.mk (show Still W0 w5 from ((Still.refl _).drew).trans ht5 (fun b _ h => by obtain ⟨_, h, _⟩ := h; cases h)); have hq5 := HT5.out.scell q0; clear ho5 ht5 hat5)
             | (go_at_call 63; (refine (num63 A5 c5 (be (m.id / 100).toNat 2) _ 2 2 W0.heap.size _ _ ?_ ?_ ?_ ?_ ?_ HO5.out ?_ ?_).mono ?_); (exact rfl); (exact rfl); (omega); (omega); (omega); (exact HT5.out.size); (simp [be_length]); rintro e w6 ⟨A6, c6, rfl, ho6, ht6, hat6⟩; have HO6 := Kp.mk (show OwnB w6 W0.heap.size A6 c6 (m.enc0 0) by rw [M.enc0_zero, HID.out.1, HID.out.2]; exact ho6); have HT6 := Kp.mk (show Still W0 w6 from HT5.out.trans ht6 (fun b hb h => by have := (HO5.out.base h).1; omega)); have hq6 := HT6.out.scell q0; clear ho6 ht6 hat6))
          go_wp2_with fail
          go_step3
          simp only [Exit.then]
          refine ‹∀ (a : Act) (w : World), Code.wp _ _ _ a w → _› _ _ (HJ.out _ _ ?_)
          clear HJ
          exact PutJ.mk W0.heap.size AA _ ca m.ar.enc 0 A6 c6 _ ⟨⟨by rw [M.enc0_zero, HID.out.1, HID.out.2, List.length_append], Nat.zero_le _, HO6.out, HM2.out.still HT6.out, (HARG.out.bs.still HT6.out).weak (fun b hb => hb.2.1), rfl, (fun _ => rfl), HT1.out.strans HT6.out, by omega, HT6.out.size, HPE.out⟩⟩ rfl
end Go.Proofs.Ytaeainkfllfdfaa
