/- A call in memory; the contracts of method.empty, right and May. -/
import Derived.Test.YtaeainkfllfdfaaC1
namespace Go.Proofs.Ytaeainkfllfdfaa
open Go.RowKit
set_option linter.unusedVariables false
set_option linter.unusedSimpArgs false
set_option maxRecDepth 100000

/-- A call in block b: its twelve cells. -/
structure MAt (w : World) (S : Nat → Prop) (b : Nat) (A : Option Addr) (c : Nat) (m : M) : Prop where
  id : w.cell? ⟨b, 0, none⟩ = some (.int .i64 m.id)
  nm : w.cell? ⟨b, 1, none⟩ = some (.string m.nm)
  ty : w.cell? ⟨b, 2, none⟩ = some (.string m.ty)
  ex : w.cell? ⟨b, 3, none⟩ = some (.string m.ex)
  ky : w.cell? ⟨b, 4, none⟩ = some (.string m.ky)
  tx : w.cell? ⟨b, 5, none⟩ = some (.string m.tx)
  co : w.cell? ⟨b, 6, none⟩ = some (.int .i64 m.co)
  cn : w.cell? ⟨b, 7, none⟩ = some (.int .i64 m.cn)
  tg : w.cell? ⟨b, 8, none⟩ = some (.int .u64 m.tg)
  fl : w.cell? ⟨b, 9, none⟩ = some (.bool m.fl)
  bk : w.cell? ⟨b, 10, none⟩ = some (.bool m.bk)
  ar : w.cell? ⟨b, 11, none⟩ = some (.slice A m.ar.len c)
  sl : Sl w S A m.ar
theorem MAt.tch {w w' : World} {S T : Nat → Prop} {b : Nat} {A : Option Addr} {c : Nat} {m : M} (h : MAt w S b A c m) (k : Tch T w w') (hb : ¬ T b) (hd : ∀ b, S b → ¬ T b) : MAt w' S b A c m :=
  ⟨k.cell h.id hb, k.cell h.nm hb, k.cell h.ty hb, k.cell h.ex hb, k.cell h.ky hb, k.cell h.tx hb, k.cell h.co hb, k.cell h.cn hb, k.cell h.tg hb, k.cell h.fl hb, k.cell h.bk hb, k.cell h.ar hb, h.sl.tch k hd⟩
theorem MAt.still {w w' : World} {S : Nat → Prop} {b : Nat} {A : Option Addr} {c : Nat} {m : M} (h : MAt w S b A c m) (k : Still w w') : MAt w' S b A c m := h.tch k (fun f => f) (fun _ _ f => f)
theorem MAt.txt {w : World} {S : Nat → Prop} {b : Nat} {A : Option Addr} {c : Nat} {m : M} (h : MAt w S b A c m) (l : UInt8) (hc : l = 110 ∨ l = 121 ∨ l = 101 ∨ l = 107 ∨ l = 120) : w.cell? ⟨b, fieldOf l, none⟩ = some (.string (m.txt l)) := by
  rcases hc with rfl | rfl | rfl | rfl | rfl
  · exact h.nm
  · exact h.ty
  · exact h.ex
  · exact h.ky
  · exact h.tx
/-- A call's value, as a call hands it on. -/
abbrev M.val (m : M) (A : Option Addr) (c : Nat) : Value :=
  .agg #[.int .i64 m.id, .string m.nm, .string m.ty, .string m.ex, .string m.ky, .string m.tx, .int .i64 m.co, .int .i64 m.cn, .int .u64 m.tg, .bool m.fl, .bool m.bk, .slice A m.ar.len c]
theorem MAt.new {w : World} {S : Nat → Prop} {A : Option Addr} {c : Nat} (m : M) (h : Sl w S A m.ar) :
    MAt (w.alloc (.cells #[.int .i64 m.id, .string m.nm, .string m.ty, .string m.ex, .string m.ky, .string m.tx, .int .i64 m.co, .int .i64 m.cn, .int .u64 m.tg, .bool m.fl, .bool m.bk, .slice A m.ar.len c] 42)) S w.heap.size A c m := by
  refine ⟨?_, ?_, ?_, ?_, ?_, ?_, ?_, ?_, ?_, ?_, ?_, ?_, h.still ((Still.refl _).alloc _)⟩ <;> exact cell_new' rfl rfl

theorem letters_five {c : UInt8} (h : c ∈ lettersL) : c = 99 ∨ c = 117 ∨ c = 116 ∨ c = 102 ∨ c = 98 ∨ c = 97 ∨ (c = 110 ∨ c = 121 ∨ c = 101 ∨ c = 107 ∨ c = 120) := by
  simp only [lettersL, List.mem_cons, List.not_mem_nil, or_false] at h
  rcases h with h | h | h | h | h | h | h | h | h | h | h <;> simp [h]
theorem txt_letter {c : UInt8} (h : c = 110 ∨ c = 121 ∨ c = 101 ∨ c = 107 ∨ c = 120) : c ≠ 99 ∧ c ≠ 117 ∧ c ≠ 116 ∧ c ≠ 102 ∧ c ≠ 98 ∧ c ≠ 97 := by
  rcases h with rfl | rfl | rfl | rfl | rfl <;> decide

set_option maxHeartbeats 2000000 in
theorem empty60 (m : M) (b : Nat) (S : Nat → Prop) (A : Option Addr) (n : Nat) (c : UInt8) (w : World) (hc : c ∈ lettersL) (h : MAt w S b A n m) :
    Calls Try.prog 60 #[.pointer (some ⟨b, 0, none⟩), .int .u8 c.toNat] w fun e w' => e = .returned (.bool (m.emptyB c)) ∧ w = w' := by
  rcases letters_five hc with rfl | rfl | rfl | rfl | rfl | rfl | rfl | rfl | rfl | rfl | rfl
  · have h0 := h.co
    go_enter Try.func60, Try.ntmps60
    go_wp2_with fail
    go_ret
    exact ⟨ret_bool (by rw [Bool.eq_iff_iff]; simp [M.emptyB]), rfl⟩
  · have h0 := h.cn
    go_enter Try.func60, Try.ntmps60
    go_wp2_with fail
    go_ret
    exact ⟨ret_bool (by rw [Bool.eq_iff_iff]; simp [M.emptyB]), rfl⟩
  · have h0 := h.tg
    go_enter Try.func60, Try.ntmps60
    go_wp2_with fail
    go_ret
    exact ⟨ret_bool (by rw [Bool.eq_iff_iff]; simp [M.emptyB]), rfl⟩
  · have h0 := h.fl
    go_enter Try.func60, Try.ntmps60
    go_wp2_with fail
    go_ret
    exact ⟨ret_bool (by rw [Bool.eq_iff_iff]; simp [M.emptyB]), rfl⟩
  · have h0 := h.bk
    go_enter Try.func60, Try.ntmps60
    go_wp2_with fail
    go_ret
    exact ⟨ret_bool (by rw [Bool.eq_iff_iff]; simp [M.emptyB]), rfl⟩
  · have h0 := h.ar
    go_enter Try.func60, Try.ntmps60
    go_wp2_with fail
    go_ret
    exact ⟨ret_bool (by rw [Bool.eq_iff_iff]; simp [M.emptyB]), rfl⟩
  · have h0 := h.nm
    have HZ := Kp.mk (size_zero m.nm)
    go_enter Try.func60, Try.ntmps60
    go_wp2_with fail
    refine (part65 b 110 w (by decide)).mono ?_
    rintro e w1 ⟨rfl, rfl⟩
    rw [show fieldOf 110 = 1 from rfl]
    go_wp2_with fail
    go_ret
    exact ⟨ret_bool (by rw [Bool.eq_iff_iff]; simp [M.emptyB, M.txt, HZ.out]), rfl⟩
  · have h0 := h.ty
    have HZ := Kp.mk (size_zero m.ty)
    go_enter Try.func60, Try.ntmps60
    go_wp2_with fail
    refine (part65 b 121 w (by decide)).mono ?_
    rintro e w1 ⟨rfl, rfl⟩
    rw [show fieldOf 121 = 2 from rfl]
    go_wp2_with fail
    go_ret
    exact ⟨ret_bool (by rw [Bool.eq_iff_iff]; simp [M.emptyB, M.txt, HZ.out]), rfl⟩
  · have h0 := h.ex
    have HZ := Kp.mk (size_zero m.ex)
    go_enter Try.func60, Try.ntmps60
    go_wp2_with fail
    refine (part65 b 101 w (by decide)).mono ?_
    rintro e w1 ⟨rfl, rfl⟩
    rw [show fieldOf 101 = 3 from rfl]
    go_wp2_with fail
    go_ret
    exact ⟨ret_bool (by rw [Bool.eq_iff_iff]; simp [M.emptyB, M.txt, HZ.out]), rfl⟩
  · have h0 := h.ky
    have HZ := Kp.mk (size_zero m.ky)
    go_enter Try.func60, Try.ntmps60
    go_wp2_with fail
    refine (part65 b 107 w (by decide)).mono ?_
    rintro e w1 ⟨rfl, rfl⟩
    rw [show fieldOf 107 = 4 from rfl]
    go_wp2_with fail
    go_ret
    exact ⟨ret_bool (by rw [Bool.eq_iff_iff]; simp [M.emptyB, M.txt, HZ.out]), rfl⟩
  · have h0 := h.tx
    have HZ := Kp.mk (size_zero m.tx)
    go_enter Try.func60, Try.ntmps60
    go_wp2_with fail
    refine (part65 b 120 w (by decide)).mono ?_
    rintro e w1 ⟨rfl, rfl⟩
    rw [show fieldOf 120 = 5 from rfl]
    go_wp2_with fail
    go_ret
    exact ⟨ret_bool (by rw [Bool.eq_iff_iff]; simp [M.emptyB, M.txt, HZ.out]), rfl⟩

set_option maxHeartbeats 2000000 in
theorem right61 (m : M) (hO : m.Ok) (b : Nat) (S : Nat → Prop) (A : Option Addr) (n : Nat) (c : UInt8) (w : World) (hc : c ∈ lettersL) (h : MAt w S b A n m) :
    Calls Try.prog 61 #[.pointer (some ⟨b, 0, none⟩), .int .u8 c.toNat] w fun e w' => e = .returned (.bool (m.rightB c)) ∧ Still w w' := by
  rcases letters_five hc with rfl | rfl | rfl | rfl | rfl | rfl | rfl | rfl | rfl | rfl | rfl
  · have h0 := h.co
    go_enter Try.func61, Try.ntmps61
    go_wp2_with fail
    all_goals go_ret
    all_goals go_light
    all_goals refine ⟨ret_bool ?_, Still.refl _⟩
    all_goals (rw [Bool.eq_iff_iff]; simp [M.rightB, *])
    all_goals omega
  · have h0 := h.cn
    go_enter Try.func61, Try.ntmps61
    go_wp2_with fail
    all_goals go_ret
    all_goals go_light
    all_goals refine ⟨ret_bool ?_, Still.refl _⟩
    all_goals (rw [Bool.eq_iff_iff]; simp [M.rightB, *])
    all_goals omega
  · go_enter Try.func61, Try.ntmps61
    go_wp2_with fail
    go_ret
    exact ⟨rfl, Still.refl _⟩
  · go_enter Try.func61, Try.ntmps61
    go_wp2_with fail
    go_ret
    exact ⟨rfl, Still.refl _⟩
  · go_enter Try.func61, Try.ntmps61
    go_wp2_with fail
    go_ret
    exact ⟨rfl, Still.refl _⟩
  · have h0 := h.ar
    have HS := Kp.mk h.sl
    have HO := Kp.mk hO
    clear h hO
    go_enter Try.func61, Try.ntmps61
    go_wp2_with fail
    refine (mayTable_ok m.ar A n S w HO.out.arl HO.out.ar HS.out).mono ?_
    rintro e w1 ⟨rfl, ht⟩
    have HT := Kp.mk ht; clear ht
    go_wp2_with fail
    go_ret
    exact ⟨ret_bool (by simp [M.rightB]), HT.out⟩
  · have h0 := h.nm
    have hb := hO.nm
    clear h hO
    go_enter Try.func61, Try.ntmps61
    go_wp2_with fail
    refine (part65 b 110 w (by decide)).mono ?_
    rintro e w1 ⟨rfl, rfl⟩
    rw [show fieldOf 110 = 1 from rfl]
    go_wp2_with fail
    go_ret
    exact ⟨ret_bool (by rw [Bool.eq_iff_iff]; simp [M.rightB, M.txt]; omega), Still.refl _⟩
  · have h0 := h.ty
    have hb := hO.ty
    clear h hO
    go_enter Try.func61, Try.ntmps61
    go_wp2_with fail
    refine (part65 b 121 w (by decide)).mono ?_
    rintro e w1 ⟨rfl, rfl⟩
    rw [show fieldOf 121 = 2 from rfl]
    go_wp2_with fail
    go_ret
    exact ⟨ret_bool (by rw [Bool.eq_iff_iff]; simp [M.rightB, M.txt]; omega), Still.refl _⟩
  · have h0 := h.ex
    have hb := hO.ex
    clear h hO
    go_enter Try.func61, Try.ntmps61
    go_wp2_with fail
    refine (part65 b 101 w (by decide)).mono ?_
    rintro e w1 ⟨rfl, rfl⟩
    rw [show fieldOf 101 = 3 from rfl]
    go_wp2_with fail
    go_ret
    exact ⟨ret_bool (by rw [Bool.eq_iff_iff]; simp [M.rightB, M.txt]; omega), Still.refl _⟩
  · have h0 := h.ky
    have hb := hO.ky
    clear h hO
    go_enter Try.func61, Try.ntmps61
    go_wp2_with fail
    refine (part65 b 107 w (by decide)).mono ?_
    rintro e w1 ⟨rfl, rfl⟩
    rw [show fieldOf 107 = 4 from rfl]
    go_wp2_with fail
    go_ret
    exact ⟨ret_bool (by rw [Bool.eq_iff_iff]; simp [M.rightB, M.txt]; omega), Still.refl _⟩
  · have h0 := h.tx
    have hb := hO.tx
    clear h hO
    go_enter Try.func61, Try.ntmps61
    go_wp2_with fail
    refine (part65 b 120 w (by decide)).mono ?_
    rintro e w1 ⟨rfl, rfl⟩
    rw [show fieldOf 120 = 5 from rfl]
    go_wp2_with fail
    go_ret
    exact ⟨ret_bool (by rw [Bool.eq_iff_iff]; simp [M.rightB, M.txt]; omega), Still.refl _⟩

theorem letter_at (k : Nat) (hk : k < 11) (w : World) : (Instr.index 9 (.string ⟨#[110, 121, 101, 107, 120, 99, 117, 116, 102, 98, 97]⟩) (.int .i64 (k : Int))).run Try.prog w = .ok (.int .u8 (lettersL.getD k 0).toNat) w := by
  match k, hk with
  | 0, _ => rfl
  | 1, _ => rfl
  | 2, _ => rfl
  | 3, _ => rfl
  | 4, _ => rfl
  | 5, _ => rfl
  | 6, _ => rfl
  | 7, _ => rfl
  | 8, _ => rfl
  | 9, _ => rfl
  | 10, _ => rfl
theorem letter_in (k : Nat) (hk : k < 11) : lettersL.getD k 0 ∈ lettersL := by
  match k, hk with
  | 0, _ | 1, _ | 2, _ | 3, _ | 4, _ | 5, _ | 6, _ | 7, _ | 8, _ | 9, _ | 10, _ => decide
theorem letters_all (P : UInt8 → Bool) : (∀ j, j < 11 → P (lettersL.getD j 0) = true) ↔ ∀ c ∈ lettersL, P c = true := by
  constructor
  · intro h c hc
    obtain ⟨j, hj, rfl⟩ := List.getElem_of_mem hc
    have := h j hj
    simpa [List.getD, hj] using this
  · intro h j hj
    exact h _ (letter_in j hj)
theorem ps_list (l : List UInt8) : (ps l).toList = l := by rw [ByteArray.toList_eq]; rfl

set_option maxHeartbeats 4000000 in
theorem may32 (m : M) (hO : m.Ok) (S : Nat → Prop) (A : Option Addr) (n : Nat) (w : World) (hS : Sl w S A m.ar) :
    Calls Try.prog 32 #[m.val A n] w fun e w' => e = .returned (.bool m.mayB) ∧ Still w w' := by
  have HM := Kp.mk (MAt.new (c := n) m hS)
  have HO := Kp.mk hO; clear hO hS
  by_cases hp : partsL m.id = [45]
  · have hb : ((ps (partsL m.id)).toList == [45]) = true := by rw [ps_list, hp]; rfl
    have HE := Kp.mk (show m.mayB = false by simp [M.mayB, hp])
    clear hp
    go_enter Try.func32, Try.ntmps32
    go_wp2_with fail
    refine (parts33 m.id _).mono ?_
    rintro e w1 ⟨rfl, rfl⟩
    go_wp2_with fail
    go_ret
    exact ⟨ret_bool HE.out.symm, (Still.refl _).alloc _⟩
  · have hb : ((ps (partsL m.id)).toList == [45]) = false := by rw [ps_list]; simpa using hp
    have HF := Kp.mk (show ∀ j, j < 11 → m.okAt (partsL m.id) (lettersL.getD j 0) = false → m.mayB = false from fun j hj h => by
      cases hm : m.mayB with
      | false => rfl
      | true => have := (M.mayB_iff m).1 hm; rw [this.2 _ (letter_in j hj)] at h; cases h)
    have HIF := Kp.mk (show m.mayB = true ↔ ∀ j, j < 11 → m.okAt (partsL m.id) (lettersL.getD j 0) = true by rw [M.mayB_iff, letters_all]; simp [hp])
    clear hp
    go_enter Try.func32, Try.ntmps32
    go_wp2_with fail
    refine (parts33 m.id _).mono ?_
    rintro e w1 ⟨rfl, rfl⟩
    go_wp2_with fail
    go_loopw [11] (fun i wr => ∃ k : Nat, k ≤ 11 ∧ i = .int .i64 k ∧ Kp (∀ j, j < k → m.okAt (partsL m.id) (lettersL.getD j 0) = true) ∧ Kp (MAt wr S w.heap.size A n m) ∧ Kp (Still w wr)) (fun i _ => 11 - (intOf i).toNat)
    case atStart => exact ⟨0, by omega, rfl, ⟨fun j hj => by omega⟩, HM, ⟨(Still.refl _).alloc _⟩⟩
    case round =>
      obtain ⟨k, hk, rfl, HA, HW, HT⟩ := hrel
      by_cases hlt : k < 11
      · have hidx := letter_at k hlt
        have HIN := Kp.mk (letter_in k hlt)
        have HOK := Kp.mk (show m.okAt (partsL m.id) (lettersL.getD k 0) = (((partsL m.id).contains (lettersL.getD k 0) || m.emptyB (lettersL.getD k 0)) && m.rightB (lettersL.getD k 0)) from rfl)
        obtain ⟨c, hcc⟩ : ∃ c, lettersL.getD k 0 = c := ⟨_, rfl⟩
        rw [hcc] at hidx HIN HOK
        have HC := Kp.mk (show m.okAt (partsL m.id) (lettersL.getD k 0) = m.okAt (partsL m.id) c by rw [hcc])
        clear hcc
        go_wp2_with fail
        refine (idx59 (partsL m.id) c wr).mono ?_
        rintro e w1 ⟨rfl, rfl⟩
        have hneg := index_neg (partsL m.id) c
        cases hcn : (partsL m.id).contains c with
        | true =>
          rw [hcn] at hneg HOK
          clear hcn
          simp only [Bool.not_true] at hneg
          have CR := Kp.mk (right61 m HO.out w.heap.size S A n c wr HIN.out HW.out)
          cases hr : m.rightB c with
          | true =>
            rw [hr] at HOK CR
            clear hr
            go_wp2_with fail
            refine CR.out.mono ?_
            rintro e w2 ⟨rfl, ht2⟩
            have HT2 := Kp.mk (HT.out.strans ht2)
            have HW2 := Kp.mk (HW.out.still ht2); clear ht2
            go_wp2_with fail
            go_roundw
            case rel => exact ⟨k + 1, by omega, by go_num, ⟨below_succ HA.out (by rw [HC.out, HOK.out]; rfl)⟩, HW2, HT2⟩
            case measure => go_light; simp only [intOf]; omega
          | false =>
            rw [hr] at HOK CR
            clear hr
            go_wp2_with fail
            refine CR.out.mono ?_
            rintro e w2 ⟨rfl, ht2⟩
            have HT2 := Kp.mk (HT.out.strans ht2); clear ht2
            go_wp2_with fail
            go_ret
            exact ⟨ret_bool (HF.out k hlt (by rw [HC.out, HOK.out]; simp)).symm, HT2.out⟩
        | false =>
          rw [hcn] at hneg HOK
          clear hcn
          simp only [Bool.not_false] at hneg
          have CE := Kp.mk (empty60 m w.heap.size S A n c wr HIN.out HW.out)
          cases he : m.emptyB c with
          | true =>
            rw [he] at HOK CE
            clear he
            go_wp2_with fail
            refine CE.out.mono ?_
            rintro e w2 ⟨rfl, rfl⟩
            go_wp2_with fail
            have CR := Kp.mk (right61 m HO.out w.heap.size S A n c wr HIN.out HW.out)
            cases hr : m.rightB c with
            | true =>
              rw [hr] at HOK CR
              clear hr
              refine CR.out.mono ?_
              rintro e w2 ⟨rfl, ht2⟩
              have HT2 := Kp.mk (HT.out.strans ht2)
              have HW2 := Kp.mk (HW.out.still ht2); clear ht2
              go_wp2_with fail
              go_roundw
              case rel => exact ⟨k + 1, by omega, by go_num, ⟨below_succ HA.out (by rw [HC.out, HOK.out]; rfl)⟩, HW2, HT2⟩
              case measure => go_light; simp only [intOf]; omega
            | false =>
              rw [hr] at HOK CR
              clear hr
              refine CR.out.mono ?_
              rintro e w2 ⟨rfl, ht2⟩
              have HT2 := Kp.mk (HT.out.strans ht2); clear ht2
              go_wp2_with fail
              go_ret
              exact ⟨ret_bool (HF.out k hlt (by rw [HC.out, HOK.out]; simp)).symm, HT2.out⟩
          | false =>
            rw [he] at HOK CE
            clear he
            go_wp2_with fail
            refine CE.out.mono ?_
            rintro e w2 ⟨rfl, rfl⟩
            go_wp2_with fail
            go_ret
            exact ⟨ret_bool (HF.out k hlt (by rw [HC.out, HOK.out]; simp)).symm, HT.out⟩
      · obtain rfl : k = 11 := by omega
        go_wp2_with fail
        go_ret
        exact ⟨ret_bool (HIF.out.2 HA.out).symm, HT.out⟩
end Go.Proofs.Ytaeainkfllfdfaa
