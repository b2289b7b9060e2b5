/- Contracts of the functions that the statement reaches, each walked once, and the plain laws over them, for every input that their premises name (E5, E3, E4, E6, E7, E8, E9, E8b). -/
import Derived.Test.YtaeainkfllfdfaaQ14
import Derived.Deep.QuietTactic
import Derived.BigQuiet
import Derived.Deep.RegionHeld3
import Derived.Outline
/- E5: The reference's mayValue, mayTable, MayTable: they answer what the plain functions answer, and turn nothing. -/
namespace Go.Proofs.Ytaeainkfllfdfaa
open Go.RowKit
set_option linter.unusedVariables false
set_option linter.unusedSimpArgs false
set_option maxRecDepth 100000

def MayR (l : L) : Prop := ∀ (d : Nat) (D : Int) (A : Option Addr) (c : Nat) (S : Nat → Prop) (w : World), D = d → d ≤ 5 → l.len ≤ 140737488351232 → l.Ok → Sl w S A l →
  Calls Try.prog 87 #[.slice A l.len c, .int .i64 D] w fun e w' => e = .returned (.bool (l.mayTab d)) ∧ Still w w'
theorem MayR.use {l : L} (h : MayR l) (d : Nat) (D : Int) (A : Option Addr) (c : Nat) (S : Nat → Prop) (w : World) (hD : D = d) (hd : d ≤ 5) (hl : l.len ≤ 140737488351232) (hO : l.Ok) (hS : Sl w S A l) :
  Calls Try.prog 87 #[.slice A l.len c, .int .i64 D] w fun e w' => e = .returned (.bool (l.mayTab d)) ∧ Still w w' := h d D A c S w hD hd hl hO hS

set_option maxHeartbeats 2000000 in
theorem mayV93 (it : L) (hC : MayR it) (k n : Int) (s : ByteArray) (d : Nat) (D : Int) (A : Option Addr) (c : Nat) (S : Nat → Prop) (w : World) (hD : D = d) (hd : d ≤ 4) (hs : s.size ≤ 140737488351232) (hl : it.len ≤ 140737488351232) (hO : it.Ok) (hS : Sl w S A it) :
    Calls Try.prog 93 #[.agg #[.int .i64 k, .int .i64 n, .string s, .slice A it.len c], .int .i64 D] w fun e w' => e = .returned (.bool (kindOk k n s.size it.len (it.mayTab (d + 1)))) ∧ Still w w' := by
  subst hD
  have HC := Kp.mk hC; clear hC
  have HO := Kp.mk hO; clear hO
  have HS := Kp.mk hS; clear hS
  go_enter Try.func93, Try.ntmps93
  go_wp2_with ((with_reducible refine (MayR.use HC.out (d + 1) _ A c S _ (by omega) (by omega) hl HO.out (HS.out.still ((Still.refl _).alloc _))).mono ?_); rintro e w' ⟨rfl, hw⟩)
  all_goals go_ret
  all_goals refine ⟨ret_bool ?_, ?_⟩
  all_goals first | exact (Still.refl _).alloc _ | exact ((Still.refl _).alloc _).still ‹_› | skip
  all_goals (try simp only [size_zero] at *)
  all_goals clear HC HO HS
  all_goals go_light
  all_goals (try simp only [beq_iff_eq, bne_iff_ne, beq_eq_false_iff_ne, bne_eq_false_iff_eq, ne_eq] at *)
  all_goals (unfold kindOk; (repeat' split) <;> first | rfl | omega | (simp_all; done) | (rw [Bool.eq_iff_iff]; simp; done) | (rw [Bool.eq_iff_iff]; simp; omega))

/-- One item may be just where its length, its value and the names ahead of it say so. -/
theorem ok_iff (l : L) (d j : Nat) : (l.get j).ok d (l.names j) = true ↔ 1 ≤ (l.get j).nm.size ∧ (l.get j).nm.size ≤ 40 ∧ (∀ i, i < j → (l.get i).nm ≠ (l.get j).nm) ∧ kindOk (l.get j).k (l.get j).n (l.get j).s.size (l.get j).it.len ((l.get j).it.mayTab (d + 1)) = true := by
  have h := seenB_names l (l.get j).nm j
  simp only [It.ok, It.may, Bool.and_eq_true, decide_eq_true_eq, Bool.not_eq_true', and_assoc]
  constructor
  · rintro ⟨h1, h2, h3, h4⟩
    refine ⟨h1, h2, fun i hi e => ?_, h4⟩
    rw [h.2 ⟨i, hi, e⟩] at h3; cases h3
  · rintro ⟨h1, h2, h3, h4⟩
    refine ⟨h1, h2, ?_, h4⟩
    cases hs : seenB (l.names j) (l.get j).nm with
    | false => rfl
    | true =>
      obtain ⟨i, hi, e⟩ := h.1 hs
      exact absurd e (h3 i hi)

set_option maxHeartbeats 4000000 in
theorem mayR : ∀ l, MayR l := L.ind fun l ih => by
  intro d D A c S w hD hd hl hO hS
  subst hD
  have HI := Kp.mk ih; clear ih
  have HO := Kp.mk hO; clear hO
  have HS := Kp.mk hS; clear hS
  by_cases hd4 : 4 < d
  · have E := Kp.mk (show l.mayTab d = false by simp [L.mayTab]; intro h; omega)
    go_enter Try.func87, Try.ntmps87
    go_wp2_with fail
    go_ret
    exact ⟨ret_bool E.out.symm, Still.refl _⟩
  by_cases hl32 : 32 < l.len
  · have E := Kp.mk (show l.mayTab d = false by simp [L.mayTab]; intro h h2; omega)
    go_enter Try.func87, Try.ntmps87
    go_wp2_with fail
    go_ret
    exact ⟨ret_bool E.out.symm, Still.refl _⟩
  have HIF := Kp.mk (show l.mayTab d = true ↔ ∀ j, j < l.len → (l.get j).ok d (l.names j) = true by
    rw [← L.mayIts_all]
    simp only [L.mayTab, Bool.and_eq_true, decide_eq_true_eq]
    constructor
    · rintro ⟨_, h⟩; exact h
    · intro h; exact ⟨⟨by omega, by omega⟩, h⟩)
  have HNO := Kp.mk (fun j (hj : j < l.len) (h : ¬ ((l.get j).ok d (l.names j) = true)) => show l.mayTab d = false by
    cases hm : l.mayTab d with
    | false => rfl
    | true => exact absurd (HIF.out.1 hm j hj) h)
  go_enter Try.func87, Try.ntmps87
  go_wp2_with fail
  go_loopw [5, 6] (fun i x wr => ∃ k : Nat, k ≤ l.len ∧ i = .int .i64 k ∧ Kp (∀ j, j < k → (l.get j).ok d (l.names j) = true) ∧ Kp (Still w wr)) (fun i _ _ => l.len - (intOf i).toNat)
  case atStart => exact ⟨0, by omega, rfl, ⟨fun j hj => by omega⟩, ⟨Still.refl _⟩⟩
  case round =>
    obtain ⟨k, hk, rfl, HA, HT⟩ := hrel
    by_cases hlt : k < l.len
    · obtain ⟨b, o, rfl, hSb, hat⟩ := (HS.out.still HT.out).at (by omega)
      have HAT := Kp.mk hat
      obtain ⟨B, cB, q0, q1, q2, q3, q4, hs⟩ := hat k hlt
      have Hs := Kp.mk hs
      clear hat hs hSb
      have HKO := Kp.mk (HO.out.get k hlt)
      have hnm := (HO.out.get k hlt).1.1
      have HKI := Kp.mk (ok_iff l d k)
      by_cases g1 : (l.get k).nm.size < 1
      · go_wp2_with fail
        go_ret
        exact ⟨ret_bool (HNO.out k hlt (fun h => by have := HKI.out.1 h; omega)).symm, HT.out⟩
      by_cases g2 : 40 < (l.get k).nm.size
      · go_wp2_with fail
        go_ret
        exact ⟨ret_bool (HNO.out k hlt (fun h => by have := HKI.out.1 h; omega)).symm, HT.out⟩
      go_wp2_with fail
      refine (mayV93 (l.get k).it (HI.out k hlt) (l.get k).k (l.get k).n (l.get k).s d _ B cB S _ rfl (by omega) HKO.out.1.2.1 HKO.out.1.2.2.1 HKO.out.2 Hs.out).mono ?_
      rintro e w1 ⟨rfl, ht1⟩
      have HQ := Kp.mk (show ∀ j, j < l.len → w1.cell? ⟨b, o + j * 5, none⟩ = some (.string (l.get j).nm) from fun j hj => by
        obtain ⟨_, _, h0, _⟩ := HAT.out j hj
        exact ht1.scell h0)
      have HT1 := Kp.mk (HT.out.strans ht1); clear ht1 HAT Hs q0 q1 q2 q3 q4
      cases hv : kindOk (l.get k).k (l.get k).n (l.get k).s.size (l.get k).it.len ((l.get k).it.mayTab (d + 1)) with
      | false =>
        have HV := Kp.mk hv; clear hv
        go_wp2_with fail
        go_ret
        exact ⟨ret_bool (HNO.out k hlt (fun h => by have := (HKI.out.1 h).2.2.2; rw [HV.out] at this; cases this)).symm, HT1.out⟩
      | true =>
        have HV := Kp.mk hv; clear hv
        go_wp2_with fail
        go_loopw [6] (fun i wx => ∃ m : Nat, m ≤ k ∧ i = .int .i64 m ∧ Kp (∀ j, j < m → (l.get j).nm ≠ (l.get k).nm) ∧ Kp (Still w1 wx)) (fun i _ => k - (intOf i).toNat)
        case atStart => exact ⟨0, by omega, rfl, ⟨fun j hj => by omega⟩, ⟨Still.refl _⟩⟩
        case round =>
          obtain ⟨m, hm, rfl, HM, HX⟩ := hrel
          by_cases hmk : m < k
          · have p0 := HX.out.scell (HQ.out m (by omega))
            have p1 := HX.out.scell (HQ.out k hlt)
            have hml : (m : Int) < (l.len : Int) := by omega
            by_cases he : (l.get m).nm = (l.get k).nm
            · have heq := (str_eq _ _).2 he
              have HEQ := Kp.mk he; clear he
              go_wp2_with fail
              go_quiet (fail)
              go_wp2_with fail
              go_ret
              exact ⟨ret_bool (HNO.out k hlt (fun h => (HKI.out.1 h).2.2.1 m hmk HEQ.out)).symm, HT1.out.strans (HX.out.drewN _)⟩
            · have hne : ((l.get m).nm.toList == (l.get k).nm.toList) = false := beq_eq_false_iff_ne.2 (fun h => he ((str_eq _ _).1 h))
              have HNE := Kp.mk he; clear he
              go_wp2_with fail
              go_quiet (fail)
              go_wp2_with fail
              go_light
              refine ⟨⟨m + 1, by omega, by go_num, ⟨fun j hj => ?_⟩, ⟨HX.out.drewN _⟩⟩, by simp only [intOf]; omega⟩
              by_cases e : j < m
              · exact HM.out j e
              · have : j = m := by omega
                subst this; exact HNE.out
          · have hme : m = k := by omega
            subst hme
            go_wp2_with fail
            go_roundw
            case rel => exact ⟨m + 1, by omega, by go_num, ⟨fun j hj => by
              by_cases e : j < m
              · exact HA.out j e
              · have : j = m := by omega
                subst this
                exact HKI.out.2 ⟨by omega, by omega, HM.out, HV.out⟩⟩, ⟨HT1.out.strans HX.out⟩⟩
            case measure => go_light; simp only [intOf]; omega
    · have hkl : k = l.len := by omega
      subst hkl
      go_wp2_with fail
      go_ret
      exact ⟨ret_bool (HIF.out.2 HA.out).symm, HT.out⟩

theorem mayTable70 (l : L) (A : Option Addr) (c : Nat) (S : Nat → Prop) (w : World) (hl : l.len ≤ 140737488351232) (hO : l.Ok) (hS : Sl w S A l) :
    Calls Try.prog 70 #[.slice A l.len c] w fun e w' => e = .returned (.bool (l.mayTab 1)) ∧ Still w w' := by
  have C := Kp.mk ((mayR l).use 1 1 A c S w rfl (by omega) hl hO hS)
  clear hO hS
  go_enter Try.func70, Try.ntmps70
  go_wp2_with (refine C.out.mono ?_; rintro e w1 ⟨rfl, hw1⟩)
  go_ret
  exact ⟨rfl, hw1⟩
end Go.Proofs.Ytaeainkfllfdfaa
/- E3: The reference's Big: a number's bytes as a string. -/
namespace Go.Proofs.Ytaeainkfllfdfaa
open Go.RowKit
set_option linter.unusedVariables false
set_option linter.unusedSimpArgs false
set_option maxRecDepth 100000

/-- A call that answers a string, and turns nothing. -/
def RetStr (w : World) (l : List UInt8) (e : Ending) (w' : World) : Prop := e = .returned (.string (ps l)) ∧ Still w w'

set_option maxHeartbeats 1000000 in
theorem big73 (n : Int) (k : Nat) (K : Int) (w : World) (hK : K = k) (hk : k ≤ 8) (hn0 : 0 ≤ n) (hn : n < 18446744073709551616) :
    Calls Try.prog 73 #[.int .u64 n, .int .i64 K] w (RetStr w (be n.toNat k)) := by
  subst hK
  have HQ := Kp.mk (fun j => byte_at n hn0 j)
  have hkb := be_length n.toNat k
  have HKB := Kp.mk hkb; clear hkb
  go_enter Try.func73, Try.ntmps73
  go_wp2_with fail
  go_loopw [5, 6] (fun v i wr => ∃ (j : Nat) (A' : Option Addr) (c' : Nat) (ds : List UInt8), j ≤ k ∧ i = .int .i64 ((j : Int) - 1) ∧ v = .slice A' ds.length c' ∧ Kp (ds ++ be n.toNat j = be n.toNat k) ∧ Kp (OwnB wr w.heap.size A' c' ds) ∧ Kp (Still w wr)) (fun _ i _ => (intOf i + 1).toNat)
  case atStart => exact ⟨k, none, 0, [], by omega, by go_num, rfl, ⟨rfl⟩, ⟨OwnB.nil _ _⟩, ⟨Tch.refl _ _⟩⟩
  case round =>
    obtain ⟨j, A', c', ds, hj, rfl, rfl, HE, HW, HT⟩ := hrel
    cases j with
    | zero =>
      have he := HE.out
      simp only [be, List.append_nil] at he
      have HEE := Kp.mk he; clear he
      have hcv := run_conv (c := c') HW.out.bs ds.length rfl
      go_wp2_with fail
      go_ret
      exact ⟨by rw [← HEE.out]; rfl, HT.out⟩
    | succ j =>
      have g0 : (0 : Int) ≤ ((j + 1 : Nat) : Int) - 1 := by omega
      have hsz : ds.length + (j + 1) = k := by have := congrArg List.length HE.out; simpa [be_length] using this
      have HSZ := Kp.mk hsz; clear hsz
      have hbr := HT.out.size
      have HBR := Kp.mk hbr; clear hbr
      go_wp2_with (at_builtin; (refine wpList_appB _ rfl _ _ rfl w.heap.size A' c' _ 1 ds rfl rfl (HW.out.still ((Still.refl wr).alloc _)) (some ⟨wr.heap.size, 0, none⟩) 1 [UInt8.ofNat (n.toNat / 256 ^ j)] rfl rfl (fun _ => True) ?_ ?_ ?_ ?_); (rw [HQ.out]; exact Bs.one _ _ _ trivial (new_one _ _ _)); (have := HSZ.out; simp only [List.length_cons, List.length_nil]; omega); (have := HBR.out; simp only [World.size_alloc]; omega); intro A2 c2 w2 ho2 ht2 hat2; have HO2 := Kp.mk ho2; have HT2 := Kp.mk ht2; have HA2 := Kp.mk hat2; clear ho2 ht2 hat2)
      go_roundw
      case rel =>
        refine ⟨j, A2, c2, ds ++ [UInt8.ofNat (n.toNat / 256 ^ j)], by omega, by go_num, by simp, ⟨?_⟩, HO2, ⟨?_⟩⟩
        · rw [← HE.out]; simp [be]
        · exact (HT.out.alloc _).trans HT2.out (fun b hb e => by have := (HW.out.base e).1; omega)
      case measure => go_light; simp only [intOf]; omega
end Go.Proofs.Ytaeainkfllfdfaa
/- E4: The reference's PutTable and putValue: a table's bytes as a string. -/
namespace Go.Proofs.Ytaeainkfllfdfaa
open Go.RowKit
set_option linter.unusedVariables false
set_option linter.unusedSimpArgs false
set_option maxRecDepth 100000

def TabS (l : L) : Prop := ∀ (A : Option Addr) (c : Nat) (S : Nat → Prop) (w : World), l.len ≤ 140737488351232 → l.Ok → l.Kinds → l.enc.length ≤ 1099511627776 → Sl w S A l →
  Calls Try.prog 72 #[.slice A l.len c] w (RetStr w l.enc)
theorem TabS.use {l : L} (h : TabS l) (A : Option Addr) (c : Nat) (S : Nat → Prop) (w : World) (h1 : l.len ≤ 140737488351232) (h2 : l.Ok) (h3 : l.Kinds) (h4 : l.enc.length ≤ 1099511627776) (h5 : Sl w S A l) :
  Calls Try.prog 72 #[.slice A l.len c] w (RetStr w l.enc) := h A c S w h1 h2 h3 h4 h5
theorem ps_app (a b : List UInt8) : ps a ++ ps b = ps (a ++ b) := by
  apply ByteArray.ext
  simp [ps, ByteArray.data_append]
theorem ps_eta (s : ByteArray) : ps s.data.toList = s := by cases s; simp [ps]
theorem ps_one (c : UInt8) : (⟨#[c]⟩ : ByteArray) = ps [c] := rfl

theorem str_add (a b : ByteArray) (h : a.size + b.size ≤ 9223372036854775807) (w : World) : (Op.stringOp .add a b).run Try.prog w = .ok (.string (a ++ b)) w := run_string_add_sum _ _ _ h
theorem be_one_wrap (n : Int) {s : ByteArray} {it : L} : (⟨#[116]⟩ : ByteArray) ++ ps (be (u64w n) 1) = ps (encBody 1 n s it.enc) := by
  rw [ps_one, ps_app]
  have h : UInt8.ofNat (u64w n / 256 ^ 0) = UInt8.ofNat (n % 256).toNat := by
    apply UInt8.toNat_inj.1
    have hm : ((u64w n : Nat) : Int) = n % 18446744073709551616 := by
      rw [← u64w_eq]
      simp only [IntKind.wrap, IntKind.signed, Bool.false_and]
      rfl
    simp only [UInt8.toNat_ofNat', Nat.pow_zero, Nat.div_one]
    omega
  show ps [116, UInt8.ofNat (u64w n / 256 ^ 0)] = ps [116, UInt8.ofNat (n % 256).toNat]
  rw [h]
theorem str_k4 (s : ByteArray) {n : Int} {tb : List UInt8} : (⟨#[83]⟩ : ByteArray) ++ ps (be s.size 4) ++ s = ps (encBody 4 n s tb) := by
  rw [ps_one, ps_app]
  conv => lhs; rhs; rw [← ps_eta s]
  rw [ps_app]; rfl
set_option maxHeartbeats 2000000 in
theorem val90 (k n : Int) (s : ByteArray) (it : L) (hk : 0 ≤ k ∧ k ≤ 5) (hC : TabS it) (B : Option Addr) (cB : Nat) (S : Nat → Prop) (w : World) (hO : it.Ok) (hK : it.Kinds) (hl : it.len ≤ 140737488351232) (hn1 : -9223372036854775808 ≤ n) (hn2 : n ≤ 9223372036854775807) (hs : s.size ≤ 140737488351232)
    (hlen : (encBody k n s it.enc).length ≤ 1099511627776) (hS : Sl w S B it) :
    Calls Try.prog 90 #[.agg #[.int .i64 k, .int .i64 n, .string s, .slice B it.len cB]] w (RetStr w (encBody k n s it.enc)) := by
  have HS := Kp.mk hS; clear hS
  have HC := Kp.mk hC; clear hC
  have HO := Kp.mk hO; clear hO
  have HK := Kp.mk hK; clear hK
  have HL := Kp.mk hlen; clear hlen
  have hw0 : 0 ≤ (u64w n : Int) := by omega
  have hw1 := u64w_lt n
  have hw := u64w_eq n
  obtain ⟨h0, h5⟩ := hk
  have hkk : k = 0 ∨ k = 1 ∨ k = 2 ∨ k = 3 ∨ k = 4 ∨ k = 5 := by omega
  clear h0 h5
  rcases hkk with rfl | rfl | rfl | rfl | rfl | rfl
  · go_enter Try.func90, Try.ntmps90
    go_wp2_with fail
    go_ret
    exact ⟨rfl, (Still.refl _).alloc _⟩
  · go_enter Try.func90, Try.ntmps90
    go_wp2_with fail
    have hadd := str_add ⟨#[116]⟩ (ps (be (u64w n) 1)) (by rw [ps_size, be_length]; decide)
    refine (big73 (u64w n) 1 1 _ rfl (by omega) hw0 hw1).mono ?_
    rintro e w1 ⟨rfl, ht1⟩
    have HT1 := Kp.mk (((Still.refl w).alloc _).strans ht1); clear ht1
    go_wp2_with fail
    go_ret
    exact ⟨ret_str (be_one_wrap n), HT1.out⟩
  · go_enter Try.func90, Try.ntmps90
    go_wp2_with fail
    have hadd := str_add ⟨#[73]⟩ (ps (be (u64w n) 4)) (by rw [ps_size, be_length]; decide)
    refine (big73 (u64w n) 4 4 _ rfl (by omega) hw0 hw1).mono ?_
    rintro e w1 ⟨rfl, ht1⟩
    have HT1 := Kp.mk (((Still.refl w).alloc _).strans ht1); clear ht1
    go_wp2_with fail
    go_ret
    exact ⟨ret_str rfl, HT1.out⟩
  · go_enter Try.func90, Try.ntmps90
    go_wp2_with fail
    have hadd := str_add ⟨#[108]⟩ (ps (be (u64w n) 8)) (by rw [ps_size, be_length]; decide)
    refine (big73 (u64w n) 8 8 _ rfl (by omega) hw0 hw1).mono ?_
    rintro e w1 ⟨rfl, ht1⟩
    have HT1 := Kp.mk (((Still.refl w).alloc _).strans ht1); clear ht1
    go_wp2_with fail
    go_ret
    exact ⟨ret_str rfl, HT1.out⟩
  · have hss := u64_small s.size (by omega)
    go_enter Try.func90, Try.ntmps90
    go_wp2_with fail
    have hadd := str_add ⟨#[83]⟩ (ps (be s.size 4)) (by rw [ps_size, be_length]; decide)
    have hsz : ((⟨#[83]⟩ : ByteArray) ++ ps (be s.size 4)).size = 5 := by rw [ByteArray.size_append, ps_size, be_length]; rfl
    have hadd2 := str_add ((⟨#[83]⟩ : ByteArray) ++ ps (be s.size 4)) s (by rw [hsz]; omega)
    clear hsz
    have f2 : (w.alloc (Obj.cells #[Value.int IntKind.i64 4, Value.int IntKind.i64 n, Value.string s, Value.slice B it.len cB] 34)).cell? ⟨w.heap.size, 2, none⟩ = some (.string s) := by go_simp
    have HF := Kp.mk (fun W (h : Still (w.alloc (Obj.cells #[Value.int IntKind.i64 4, Value.int IntKind.i64 n, Value.string s, Value.slice B it.len cB] 34)) W) => h.scell f2)
    clear f2
    have ht0 : Still w (w.alloc (Obj.cells #[Value.int IntKind.i64 4, Value.int IntKind.i64 n, Value.string s, Value.slice B it.len cB] 34)) := (Still.refl _).alloc _
    generalize w.alloc (Obj.cells #[Value.int IntKind.i64 4, Value.int IntKind.i64 n, Value.string s, Value.slice B it.len cB] 34) = W at *
    go_region_held3 (fun W' => W'.cell? ⟨w.heap.size, 2, none⟩ = some (.string s))
      ((refine HF.out _ ?_; (repeat' (first | exact Tch.refl _ _ | exact HT1.out | refine Tch.alloc ?_ _ | refine Tch.drew ?_))))
      (first | (go_at_call 73; (refine (big73 (s.size : Int) 4 4 _ rfl (by omega) (by omega) (by omega)).mono ?_); rintro e w1 ⟨rfl, ht1⟩; have HT1 := Kp.mk (show Still W w1 from Tch.strans (by (repeat' (first | exact Tch.refl _ _ | refine Tch.drew ?_))) ht1); clear ht1))
    all_goals go_wp2_with fail
    all_goals go_ret
    all_goals exact ⟨ret_str (str_k4 s), ht0.strans HT1.out⟩
  · go_enter Try.func90, Try.ntmps90
    go_wp2_with fail
    have hadd := str_add ⟨#[70]⟩ (ps it.enc) (by rw [ps_size]; have := HL.out; simp [encBody] at this; have : (ByteArray.mk #[70]).size = 1 := rfl; omega)
    refine (HC.out.use B cB S _ hl HO.out HK.out (by have := HL.out; simp [encBody] at this; omega) (HS.out.still ((Still.refl _).alloc _))).mono ?_
    rintro e w1 ⟨rfl, ht1⟩
    have HT1 := Kp.mk (((Still.refl w).alloc _).strans ht1); clear ht1
    go_wp2_with fail
    go_ret
    exact ⟨ret_str (by rw [ps_one, ps_app]; rfl), HT1.out⟩

theorem str_item (bs : List UInt8) (x : It) : Value.string (ps bs ++ ps (be x.nm.size 1) ++ x.nm ++ ps (encBody x.k x.n x.s x.it.enc)) = .string (ps (bs ++ x.enc)) := by
  congr 1
  conv => lhs; lhs; rhs; rw [← ps_eta x.nm]
  rw [ps_app, ps_app, ps_app]
  congr 1
  simp [It.enc, It.encV, be]
set_option maxHeartbeats 4000000 in
theorem tabS : ∀ l, TabS l := L.ind fun l ih => by
  intro A c S w hl hO hKd hlen hS
  have hlen' : 4 + l.encI.length ≤ 1099511627776 := by simpa [L.enc, be_length] using hlen
  have HI := Kp.mk ih; clear ih
  have HO := Kp.mk hO; clear hO
  have HKD := Kp.mk hKd; clear hKd
  have HS := Kp.mk hS; clear hS
  have HLEN := Kp.mk hlen'; clear hlen hlen'
  go_enter Try.func72, Try.ntmps72
  go_wp2_with fail
  go_loopw [3, 4] (fun v i wr => ∃ k : Nat, k ≤ l.len ∧ i = .int .i64 k ∧ v = .string (ps (l.take k).encI) ∧ Kp (Still w wr)) (fun _ i _ => l.len - (intOf i).toNat)
  case atStart => exact ⟨0, by omega, rfl, rfl, ⟨Still.refl w⟩⟩
  case round =>
    obtain ⟨k, hk, rfl, rfl, HT⟩ := hrel
    by_cases hlt : k < l.len
    · obtain ⟨b, o, rfl, hSb, hat⟩ := (HS.out.still HT.out).at (by omega)
      obtain ⟨B, cB, q0, q1, q2, q3, q4, hs⟩ := hat k hlt
      clear hat hSb
      have Hs := Kp.mk hs; clear hs
      have hle := L.encI_le l (k + 1)
      rw [L.encI_succ l k hlt, List.length_append, It.enc_length] at hle
      have hle1 := HLEN.out
      have hnm := (HO.out.get k hlt).1.1
      have hwr := u64_small (l.get k).nm.size (by omega)
      have HE := Kp.mk (L.encI_succ l k hlt)
      have hx1 : (ps (l.take k).encI).size + (ps (be (l.get k).nm.size 1)).size ≤ 9223372036854775807 := by rw [ps_size, ps_size, be_length]; omega
      have hx2 : (ps (l.take k).encI ++ ps (be (l.get k).nm.size 1)).size + (l.get k).nm.size ≤ 9223372036854775807 := by rw [ByteArray.size_append, ps_size, ps_size, be_length]; omega
      have hx3 : (ps (l.take k).encI ++ ps (be (l.get k).nm.size 1) ++ (l.get k).nm).size + (ps (encBody (l.get k).k (l.get k).n (l.get k).s (l.get k).it.enc)).size ≤ 9223372036854775807 := by
        rw [ByteArray.size_append, ByteArray.size_append, ps_size, ps_size, be_length, ps_size]
        have : (encBody (l.get k).k (l.get k).n (l.get k).s (l.get k).it.enc).length = (l.get k).encV.length := rfl
        omega
      have hvl : (encBody (l.get k).k (l.get k).n (l.get k).s (l.get k).it.enc).length ≤ 1099511627776 := by
        have : (encBody (l.get k).k (l.get k).n (l.get k).s (l.get k).it.enc).length = (l.get k).encV.length := rfl
        omega
      have hadd1 := str_add _ _ hx1
      have hadd2 := str_add _ _ hx2
      have hadd3 := str_add _ _ hx3
      have HVL := Kp.mk hvl
      have HP := Kp.mk (fun W' (h : Still wr W') => And.intro (h.scell q0) (And.intro (h.scell q1) (And.intro (h.scell q2) (And.intro (h.scell q3) (h.scell q4)))))
      clear q0 q1 q2 q3 q4 hx1 hx2 hx3 hvl hle hle1 hnm
      generalize hbs : (l.take k).encI = bs at *
      have HBS := Kp.mk hbs; clear hbs
      go_wp2_with fail
      go_region_held3 (fun W => W.cell? ⟨b, o + k * 5, none⟩ = some (.string (l.get k).nm) ∧ W.cell? ⟨b, o + k * 5 + 1, none⟩ = some (.int .i64 (l.get k).k) ∧ W.cell? ⟨b, o + k * 5 + 1 + 1, none⟩ = some (.int .i64 (l.get k).n) ∧ W.cell? ⟨b, o + k * 5 + 1 + 2, none⟩ = some (.string (l.get k).s) ∧ W.cell? ⟨b, o + k * 5 + 1 + 3, none⟩ = some (.slice B (l.get k).it.len cB))
        ((refine HP.out _ ?_; (repeat' (first | exact Tch.refl _ _ | exact HT5.out | exact HT6.out | refine Tch.alloc ?_ _ | refine Tch.drew ?_))))
        (first
         | (go_at_call 73; (refine (big73 ((l.get k).nm.size : Int) 1 1 _ rfl (by omega) (by omega) (by have := (HO.out.get k hlt).1.1; omega)).mono ?_); rintro e w5 ⟨rfl, ht5⟩; have HT5 := Kp.mk (show Still wr w5 from Tch.strans (by (repeat' (first | exact Tch.refl _ _ | refine Tch.drew ?_))) ht5); clear ht5)
         | (go_at_call 90; (refine (val90 (l.get k).k (l.get k).n (l.get k).s (l.get k).it (HKD.out.get k hlt).1 (HI.out k hlt) B cB S _ (HO.out.get k hlt).2 (HKD.out.get k hlt).2 (HO.out.get k hlt).1.2.2.1 (HO.out.get k hlt).1.2.2.2.2.2.1 (HO.out.get k hlt).1.2.2.2.2.2.2 (HO.out.get k hlt).1.2.1 HVL.out (Hs.out.still ?_)).mono ?_); (exact HT5.out); rintro e w6 ⟨rfl, ht6⟩; have HT6 := Kp.mk (HT5.out.strans ht6); clear ht6))
      all_goals go_wp2_with fail
      all_goals go_roundw
      all_goals first
       | exact ⟨k + 1, by omega, by go_num, by rw [HE.out]; exact str_item _ _, ⟨HT.out.strans HT6.out⟩⟩
       | (go_light; simp only [intOf]; omega)
    · have hkl : k = l.len := by omega
      subst hkl
      rw [L.take_all l l.len (Nat.le_refl _)]
      have hps := ps_size l.encI
      have hx := HLEN.out
      have hwr := u64_small l.encI.length (by omega)
      have hadd := str_add (ps (be l.encI.length 4)) (ps l.encI) (by rw [ps_size, ps_size, be_length]; omega)
      clear hx
      go_wp2_with fail
      refine (big73 (l.encI.length : Int) 4 4 _ rfl (by omega) (by omega) (by have := HLEN.out; omega)).mono ?_
      rintro e w1 ⟨rfl, ht1⟩
      have HT1 := Kp.mk (HT.out.strans ht1); clear ht1
      go_wp2_with fail
      go_ret
      exact ⟨ret_str (by rw [ps_app]; rfl), HT1.out⟩
end Go.Proofs.Ytaeainkfllfdfaa
/- E6: The reference's Parts, has, bears, text, flag, SameFrame: what they answer; nothing turns. -/
namespace Go.Proofs.Ytaeainkfllfdfaa
open Go.RowKit
set_option linter.unusedVariables false
set_option linter.unusedSimpArgs false
set_option maxRecDepth 100000

set_option maxHeartbeats 4000000 in
theorem parts85 (id : Int) (w : World) : Calls Try.prog 85 #[.int .i64 id] w fun e w' => e = .returned (.string (ps (partsL id))) ∧ w = w' := by
  go_enter Try.func85, Try.ntmps85
  go_wp2_with fail
  all_goals go_ret
  all_goals refine ⟨ret_str (congrArg ps ?_), rfl⟩
  all_goals go_light
  all_goals (try simp only [beq_iff_eq, beq_eq_false_iff_ne, ne_eq] at *)
  all_goals (simp [partsL, tabP, lookP, *])

theorem ps_index (l : List UInt8) (k : Nat) (hk : k < l.length) (w : World) : (Instr.index 9 (.string (ps l)) (.int .i64 (k : Int))).run Try.prog w = .ok (.int .u8 (l[k]'hk).toNat) w := by
  have hsz := ps_size l
  rw [run_index_string w 9 (ps l) .i64 (k : Int) Try.underlying9, dif_pos ⟨by omega, by rw [hsz]; omega⟩]
  rfl
theorem parts_len (id : Int) : (partsL id).length ≤ 5 := by
  by_cases h : partsL id = [45]
  · rw [h]; decide
  · exact (parts_a id h).2.1

set_option maxHeartbeats 2000000 in
theorem has86 (id : Int) (c : UInt8) (w : World) : Calls Try.prog 86 #[.int .i64 id, .int .u8 c.toNat] w fun e w' => e = .returned (.bool ((partsL id).contains c)) ∧ w = w' := by
  go_enter Try.func86, Try.ntmps86
  go_wp2_with fail
  refine (parts85 id w).mono ?_
  rintro e w1 ⟨rfl, rfl⟩
  have hl5 := parts_len id
  have hps := ps_size (partsL id)
  obtain ⟨l, hl⟩ : ∃ l, partsL id = l := ⟨_, rfl⟩
  rw [hl] at hps hl5 ⊢
  have HL := Kp.mk hl; clear hl
  go_wp2_with fail
  go_loopw [6] (fun i wr => ∃ k : Nat, k ≤ l.length ∧ i = .int .i64 k ∧ Kp (∀ j (h : j < l.length), j < k → l[j] ≠ c) ∧ wr = w) (fun i _ => l.length - (intOf i).toNat)
  case atStart => exact ⟨0, by omega, rfl, ⟨fun j h hj => by omega⟩, rfl⟩
  case round =>
    obtain ⟨k, hk, rfl, HA, rfl⟩ := hrel
    by_cases hlt : k < l.length
    · have hix := ps_index l k hlt
      by_cases he : l[k] = c
      · have hb : (((l[k]'hlt).toNat : Int) == (c.toNat : Int)) = true := by rw [he]; simp
        have HE := Kp.mk (show l.contains c = true by rw [List.contains_iff_mem, ← he]; exact List.getElem_mem _)
        clear he
        go_wp2_with fail
        go_ret
        exact ⟨ret_bool (by rw [HL.out, HE.out]), rfl⟩
      · have hb : (((l[k]'hlt).toNat : Int) == (c.toNat : Int)) = false := by
          rw [beq_eq_false_iff_ne]; intro h; exact he (UInt8.toNat_inj.1 (by omega))
        have HE := Kp.mk he
        clear he
        go_wp2_with fail
        go_roundw
        case rel => exact ⟨k + 1, by omega, by go_num, ⟨fun j h hj => by
          by_cases e : j < k
          · exact HA.out j h e
          · have : j = k := by omega
            subst this; exact HE.out⟩, trivial⟩
        case measure => go_light; simp only [intOf]; omega
    · have hkl : k = l.length := by omega
      subst hkl
      have HE := Kp.mk (show l.contains c = false by
        cases h : l.contains c with
        | false => rfl
        | true =>
          rw [List.contains_iff_mem] at h
          obtain ⟨j, hj, e⟩ := List.getElem_of_mem h
          exact absurd e (HA.out j hj hj))
      go_wp2_with fail
      go_ret
      exact ⟨ret_bool (by rw [HL.out, HE.out]), rfl⟩

set_option maxHeartbeats 1000000 in
theorem flag89 (b : Bool) (w : World) : Calls Try.prog 89 #[.bool b] w (RetStr w [if b then 1 else 0]) := by
  cases b
  all_goals
    go_enter Try.func89, Try.ntmps89
    go_wp2_with fail
    go_ret
    exact ⟨rfl, Still.refl _⟩
set_option maxHeartbeats 1000000 in
theorem text88 (s : ByteArray) (w : World) (hs : s.size ≤ 140737488351232) : Calls Try.prog 88 #[.string s] w (RetStr w (be s.size 1 ++ s.data.toList)) := by
  have hw := u64_small s.size (by omega)
  have hadd := str_add (ps (be s.size 1)) s (by rw [ps_size, be_length]; omega)
  go_enter Try.func88, Try.ntmps88
  go_wp2_with fail
  refine (big73 (s.size : Int) 1 1 _ rfl (by omega) (by omega) (by omega)).mono ?_
  rintro e w1 ⟨rfl, ht1⟩
  go_wp2_with fail
  go_ret
  refine ⟨ret_str ?_, ht1⟩
  conv => lhs; rhs; rw [← ps_eta s]
  rw [ps_app]
set_option maxHeartbeats 1000000 in
theorem sameF39 (f : Fr) (A B : Option Addr) (a b : Nat) (S : Nat → Prop) (w : World) (hA : Bs w S A f.d) (hB : Bs w S B f.d) :
    Calls Try.prog 39 #[.agg #[.int .i64 f.k, .int .i64 f.ch, .slice A f.d.length a], .agg #[.int .i64 f.k, .int .i64 f.ch, .slice B f.d.length b]] w fun e w' => e = .returned (.bool true) ∧ Still w w' := by
  have k1 := fun W (h : Still w W) => run_conv (c := a) (hA.still h) f.d.length rfl
  have k2 := fun W (h : Still w W) => run_conv (c := b) (hB.still h) f.d.length rfl
  have j1 := fun o1 o2 => k1 ((w.alloc o1).alloc o2) (((Still.refl w).alloc _).alloc _)
  have j2 := fun o1 o2 => k2 ((w.alloc o1).alloc o2) (((Still.refl w).alloc _).alloc _)
  clear hA hB k1 k2
  go_enter Try.func39, Try.ntmps39
  go_wp2_with fail
  go_ret
  exact ⟨rfl, ((Still.refl _).alloc _).alloc _⟩
end Go.Proofs.Ytaeainkfllfdfaa
/- E7: The reference's MayMethod: it answers whether a call may be, and turns nothing. -/
namespace Go.Proofs.Ytaeainkfllfdfaa
open Go.RowKit
set_option linter.unusedVariables false
set_option linter.unusedSimpArgs false
set_option maxRecDepth 100000

/-- Q, but R at the end. -/
def cutQ (R : Act → World → Prop) (Q : Exit → Act → World → Prop) : Exit → Act → World → Prop
  | .normal, a, w => R a w
  | e, a, w => Q e a w
theorem wp_cutQ {P : Program} {o : Oper} {a : Act} {w : World} {K R : Act → World → Prop} {Q : Exit → Act → World → Prop} (h : o.wp P a w K (cutQ R Q)) : o.wp P a w K Q := by
  unfold Oper.wp at *
  generalize (execOp a.eval o).run P w = r at *
  cases r with
  | ok n w' => cases n <;> exact h
  | halt d w' => cases d <;> exact h
/-- A plain region's operations are walked in two parts: what holds between them. -/
theorem wpList_cut {P : Program} {ops : Array Oper} {Q : Exit → Act → World → Prop} (R : Act → World → Prop) (h2 : List Oper) (hrest : ∀ a w, R a w → wpList P ops Q h2 a w) : ∀ (l1 : List Oper) (a : Act) (w : World), wpList P ops (cutQ R Q) l1 a w → wpList P ops Q (l1 ++ h2) a w
  | [], a, w, h => hrest a w h
  | o :: l, a, w, h => by
    have ih := wpList_cut R h2 hrest l
    show wpList P ops Q (o :: (l ++ h2)) a w
    unfold wpList at h ⊢
    split at h
    · rename_i hw
      rw [if_pos hw]
      rcases h with h | h
      · exact .inl (Oper.wp_mono (fun a w => ih a w) (wp_cutQ h))
      · exact .inr h
    · rename_i hw
      rw [if_neg hw]
      exact ih _ _ h
theorem wpList_cut_at {P : Program} {ops : Array Oper} {Q : Exit → Act → World → Prop} {l : List Oper} {a : Act} {w : World} (n : Nat) (R : Act → World → Prop) (h1 : wpList P ops (cutQ R Q) (l.take n) a w) (h2 : ∀ a w, R a w → wpList P ops Q (l.drop n) a w) : wpList P ops Q l a w := by
  rw [← List.take_append_drop n l]
  exact wpList_cut R _ h2 _ _ _ h1

theorem has86i (id n : Int) (w : World) (h0 : 0 ≤ n) (h1 : n < 256) : Calls Try.prog 86 #[.int .i64 id, .int .u8 n] w fun e w' => e = .returned (.bool ((partsL id).contains (UInt8.ofNat n.toNat))) ∧ w = w' := by
  have h := has86 id (UInt8.ofNat n.toNat) w
  rw [show ((UInt8.ofNat n.toNat).toNat : Int) = n by rw [UInt8.toNat_ofNat']; omega] at h
  exact h
/-- The frame behind the letters up to number 0. -/
def FrM0 (m : M) (X : Nat) (b : Bool) (u : Nat → Value) : Act := { tmps := #[u 0, .pointer (some ⟨X, 0, none⟩), u 2, .int .i64 m.id, u 4, u 5, u 6, u 7, u 8, u 9, u 10, u 11, u 12, u 13, u 14, u 15, u 16, u 17, u 18, u 19, u 20, u 21, u 22, u 23, u 24, u 25, u 26, u 27, u 28, u 29, u 30, u 31, u 32, u 33, u 34, u 35, u 36, u 37, u 38, u 39, u 40, u 41, u 42, u 43, u 44, u 45, u 46, u 47, u 48, u 49, u 50, u 51, u 52, u 53, u 54, u 55, u 56, u 57, u 58, u 59, u 60, u 61, u 62, u 63, u 64, u 65, u 66, u 67, u 68, u 69, u 70, u 71, .bool b, u 73, u 74, u 75, u 76, u 77, u 78, u 79, u 80, u 81, u 82, u 83, u 84, u 85, u 86, u 87, u 88, u 89, u 90, u 91, u 92, u 93, u 94, u 95, u 96, u 97, u 98, u 99, u 100, u 101, u 102, u 103, u 104, u 105, u 106, u 107, u 108, u 109, u 110, u 111, u 112, u 113, u 114, u 115, u 116, u 117, u 118, u 119, u 120, u 121, u 122, u 123, u 124, u 125, u 126, u 127, u 128, u 129, u 130, u 131, u 132, u 133, u 134, u 135, u 136, u 137, u 138, u 139, u 140, u 141, u 142, u 143, u 144, u 145, u 146, u 147, u 148, u 149, u 150, u 151, u 152, u 153, u 154, u 155, u 156, u 157, u 158, u 159, u 160, u 161, u 162], defers := [] }
/-- The frame behind the letters up to number 1. -/
def FrM1 (m : M) (X : Nat) (b : Bool) (u : Nat → Value) : Act := { tmps := #[u 0, .pointer (some ⟨X, 0, none⟩), u 2, .int .i64 m.id, u 4, u 5, u 6, u 7, u 8, u 9, u 10, u 11, u 12, u 13, u 14, u 15, u 16, u 17, u 18, u 19, u 20, u 21, u 22, u 23, u 24, u 25, u 26, u 27, u 28, u 29, u 30, u 31, u 32, u 33, u 34, u 35, u 36, u 37, u 38, u 39, u 40, u 41, u 42, u 43, u 44, u 45, u 46, u 47, u 48, u 49, u 50, u 51, u 52, u 53, u 54, u 55, u 56, u 57, u 58, u 59, u 60, u 61, u 62, u 63, u 64, u 65, u 66, u 67, u 68, u 69, u 70, u 71, u 72, u 73, u 74, u 75, u 76, u 77, u 78, u 79, u 80, .bool b, u 82, u 83, u 84, u 85, u 86, u 87, u 88, u 89, u 90, u 91, u 92, u 93, u 94, u 95, u 96, u 97, u 98, u 99, u 100, u 101, u 102, u 103, u 104, u 105, u 106, u 107, u 108, u 109, u 110, u 111, u 112, u 113, u 114, u 115, u 116, u 117, u 118, u 119, u 120, u 121, u 122, u 123, u 124, u 125, u 126, u 127, u 128, u 129, u 130, u 131, u 132, u 133, u 134, u 135, u 136, u 137, u 138, u 139, u 140, u 141, u 142, u 143, u 144, u 145, u 146, u 147, u 148, u 149, u 150, u 151, u 152, u 153, u 154, u 155, u 156, u 157, u 158, u 159, u 160, u 161, u 162], defers := [] }
/-- The frame behind the letters up to number 2. -/
def FrM2 (m : M) (X : Nat) (b : Bool) (u : Nat → Value) : Act := { tmps := #[u 0, .pointer (some ⟨X, 0, none⟩), u 2, .int .i64 m.id, u 4, u 5, u 6, u 7, u 8, u 9, u 10, u 11, u 12, u 13, u 14, u 15, u 16, u 17, u 18, u 19, u 20, u 21, u 22, u 23, u 24, u 25, u 26, u 27, u 28, u 29, u 30, u 31, u 32, u 33, u 34, u 35, u 36, u 37, u 38, u 39, u 40, u 41, u 42, u 43, u 44, u 45, u 46, u 47, u 48, u 49, u 50, u 51, u 52, u 53, u 54, u 55, u 56, u 57, u 58, u 59, u 60, u 61, u 62, u 63, u 64, u 65, u 66, u 67, u 68, u 69, u 70, u 71, u 72, u 73, u 74, u 75, u 76, u 77, u 78, u 79, u 80, u 81, u 82, u 83, u 84, u 85, u 86, u 87, u 88, u 89, .bool b, u 91, u 92, u 93, u 94, u 95, u 96, u 97, u 98, u 99, u 100, u 101, u 102, u 103, u 104, u 105, u 106, u 107, u 108, u 109, u 110, u 111, u 112, u 113, u 114, u 115, u 116, u 117, u 118, u 119, u 120, u 121, u 122, u 123, u 124, u 125, u 126, u 127, u 128, u 129, u 130, u 131, u 132, u 133, u 134, u 135, u 136, u 137, u 138, u 139, u 140, u 141, u 142, u 143, u 144, u 145, u 146, u 147, u 148, u 149, u 150, u 151, u 152, u 153, u 154, u 155, u 156, u 157, u 158, u 159, u 160, u 161, u 162], defers := [] }
/-- The frame behind the letters up to number 3. -/
def FrM3 (m : M) (X : Nat) (b : Bool) (u : Nat → Value) : Act := { tmps := #[u 0, .pointer (some ⟨X, 0, none⟩), u 2, .int .i64 m.id, u 4, u 5, u 6, u 7, u 8, u 9, u 10, u 11, u 12, u 13, u 14, u 15, u 16, u 17, u 18, u 19, u 20, u 21, u 22, u 23, u 24, u 25, u 26, u 27, u 28, u 29, u 30, u 31, u 32, u 33, u 34, u 35, u 36, u 37, u 38, u 39, u 40, u 41, u 42, u 43, u 44, u 45, u 46, u 47, u 48, u 49, u 50, u 51, u 52, u 53, u 54, u 55, u 56, u 57, u 58, u 59, u 60, u 61, u 62, u 63, u 64, u 65, u 66, u 67, u 68, u 69, u 70, u 71, u 72, u 73, u 74, u 75, u 76, u 77, u 78, u 79, u 80, u 81, u 82, u 83, u 84, u 85, u 86, u 87, u 88, u 89, u 90, u 91, u 92, u 93, u 94, u 95, u 96, u 97, u 98, .bool b, u 100, u 101, u 102, u 103, u 104, u 105, u 106, u 107, u 108, u 109, u 110, u 111, u 112, u 113, u 114, u 115, u 116, u 117, u 118, u 119, u 120, u 121, u 122, u 123, u 124, u 125, u 126, u 127, u 128, u 129, u 130, u 131, u 132, u 133, u 134, u 135, u 136, u 137, u 138, u 139, u 140, u 141, u 142, u 143, u 144, u 145, u 146, u 147, u 148, u 149, u 150, u 151, u 152, u 153, u 154, u 155, u 156, u 157, u 158, u 159, u 160, u 161, u 162], defers := [] }
/-- The frame behind the letters up to number 4. -/
def FrM4 (m : M) (X : Nat) (b : Bool) (u : Nat → Value) : Act := { tmps := #[u 0, .pointer (some ⟨X, 0, none⟩), u 2, .int .i64 m.id, u 4, u 5, u 6, u 7, u 8, u 9, u 10, u 11, u 12, u 13, u 14, u 15, u 16, u 17, u 18, u 19, u 20, u 21, u 22, u 23, u 24, u 25, u 26, u 27, u 28, u 29, u 30, u 31, u 32, u 33, u 34, u 35, u 36, u 37, u 38, u 39, u 40, u 41, u 42, u 43, u 44, u 45, u 46, u 47, u 48, u 49, u 50, u 51, u 52, u 53, u 54, u 55, u 56, u 57, u 58, u 59, u 60, u 61, u 62, u 63, u 64, u 65, u 66, u 67, u 68, u 69, u 70, u 71, u 72, u 73, u 74, u 75, u 76, u 77, u 78, u 79, u 80, u 81, u 82, u 83, u 84, u 85, u 86, u 87, u 88, u 89, u 90, u 91, u 92, u 93, u 94, u 95, u 96, u 97, u 98, u 99, u 100, u 101, u 102, u 103, u 104, u 105, u 106, u 107, .bool b, u 109, u 110, u 111, u 112, u 113, u 114, u 115, u 116, u 117, u 118, u 119, u 120, u 121, u 122, u 123, u 124, u 125, u 126, u 127, u 128, u 129, u 130, u 131, u 132, u 133, u 134, u 135, u 136, u 137, u 138, u 139, u 140, u 141, u 142, u 143, u 144, u 145, u 146, u 147, u 148, u 149, u 150, u 151, u 152, u 153, u 154, u 155, u 156, u 157, u 158, u 159, u 160, u 161, u 162], defers := [] }
/-- The frame behind the letters up to number 5. -/
def FrM5 (m : M) (X : Nat) (b : Bool) (u : Nat → Value) : Act := { tmps := #[u 0, .pointer (some ⟨X, 0, none⟩), u 2, .int .i64 m.id, u 4, u 5, u 6, u 7, u 8, u 9, u 10, u 11, u 12, u 13, u 14, u 15, u 16, u 17, u 18, u 19, u 20, u 21, u 22, u 23, u 24, u 25, u 26, u 27, u 28, u 29, u 30, u 31, u 32, u 33, u 34, u 35, u 36, u 37, u 38, u 39, u 40, u 41, u 42, u 43, u 44, u 45, u 46, u 47, u 48, u 49, u 50, u 51, u 52, u 53, u 54, u 55, u 56, u 57, u 58, u 59, u 60, u 61, u 62, u 63, u 64, u 65, u 66, u 67, u 68, u 69, u 70, u 71, u 72, u 73, u 74, u 75, u 76, u 77, u 78, u 79, u 80, u 81, u 82, u 83, u 84, u 85, u 86, u 87, u 88, u 89, u 90, u 91, u 92, u 93, u 94, u 95, u 96, u 97, u 98, u 99, u 100, u 101, u 102, u 103, u 104, u 105, u 106, u 107, u 108, u 109, u 110, u 111, u 112, u 113, u 114, u 115, u 116, .bool b, u 118, u 119, u 120, u 121, u 122, u 123, u 124, u 125, u 126, u 127, u 128, u 129, u 130, u 131, u 132, u 133, u 134, u 135, u 136, u 137, u 138, u 139, u 140, u 141, u 142, u 143, u 144, u 145, u 146, u 147, u 148, u 149, u 150, u 151, u 152, u 153, u 154, u 155, u 156, u 157, u 158, u 159, u 160, u 161, u 162], defers := [] }
/-- The frame behind the letters up to number 6. -/
def FrM6 (m : M) (X : Nat) (b : Bool) (u : Nat → Value) : Act := { tmps := #[u 0, .pointer (some ⟨X, 0, none⟩), u 2, .int .i64 m.id, u 4, u 5, u 6, u 7, u 8, u 9, u 10, u 11, u 12, u 13, u 14, u 15, u 16, u 17, u 18, u 19, u 20, u 21, u 22, u 23, u 24, u 25, u 26, u 27, u 28, u 29, u 30, u 31, u 32, u 33, u 34, u 35, u 36, u 37, u 38, u 39, u 40, u 41, u 42, u 43, u 44, u 45, u 46, u 47, u 48, u 49, u 50, u 51, u 52, u 53, u 54, u 55, u 56, u 57, u 58, u 59, u 60, u 61, u 62, u 63, u 64, u 65, u 66, u 67, u 68, u 69, u 70, u 71, u 72, u 73, u 74, u 75, u 76, u 77, u 78, u 79, u 80, u 81, u 82, u 83, u 84, u 85, u 86, u 87, u 88, u 89, u 90, u 91, u 92, u 93, u 94, u 95, u 96, u 97, u 98, u 99, u 100, u 101, u 102, u 103, u 104, u 105, u 106, u 107, u 108, u 109, u 110, u 111, u 112, u 113, u 114, u 115, u 116, u 117, u 118, u 119, u 120, u 121, u 122, u 123, u 124, u 125, .bool b, u 127, u 128, u 129, u 130, u 131, u 132, u 133, u 134, u 135, u 136, u 137, u 138, u 139, u 140, u 141, u 142, u 143, u 144, u 145, u 146, u 147, u 148, u 149, u 150, u 151, u 152, u 153, u 154, u 155, u 156, u 157, u 158, u 159, u 160, u 161, u 162], defers := [] }
/-- The frame behind the letters up to number 7. -/
def FrM7 (m : M) (X : Nat) (b : Bool) (u : Nat → Value) : Act := { tmps := #[u 0, .pointer (some ⟨X, 0, none⟩), u 2, .int .i64 m.id, u 4, u 5, u 6, u 7, u 8, u 9, u 10, u 11, u 12, u 13, u 14, u 15, u 16, u 17, u 18, u 19, u 20, u 21, u 22, u 23, u 24, u 25, u 26, u 27, u 28, u 29, u 30, u 31, u 32, u 33, u 34, u 35, u 36, u 37, u 38, u 39, u 40, u 41, u 42, u 43, u 44, u 45, u 46, u 47, u 48, u 49, u 50, u 51, u 52, u 53, u 54, u 55, u 56, u 57, u 58, u 59, u 60, u 61, u 62, u 63, u 64, u 65, u 66, u 67, u 68, u 69, u 70, u 71, u 72, u 73, u 74, u 75, u 76, u 77, u 78, u 79, u 80, u 81, u 82, u 83, u 84, u 85, u 86, u 87, u 88, u 89, u 90, u 91, u 92, u 93, u 94, u 95, u 96, u 97, u 98, u 99, u 100, u 101, u 102, u 103, u 104, u 105, u 106, u 107, u 108, u 109, u 110, u 111, u 112, u 113, u 114, u 115, u 116, u 117, u 118, u 119, u 120, u 121, u 122, u 123, u 124, u 125, u 126, u 127, u 128, u 129, u 130, u 131, u 132, u 133, u 134, .bool b, u 136, u 137, u 138, u 139, u 140, u 141, u 142, u 143, u 144, u 145, u 146, u 147, u 148, u 149, u 150, u 151, u 152, u 153, u 154, u 155, u 156, u 157, u 158, u 159, u 160, u 161, u 162], defers := [] }
/-- The frame behind the letters up to number 8. -/
def FrM8 (m : M) (X : Nat) (b : Bool) (u : Nat → Value) : Act := { tmps := #[u 0, .pointer (some ⟨X, 0, none⟩), u 2, .int .i64 m.id, u 4, u 5, u 6, u 7, u 8, u 9, u 10, u 11, u 12, u 13, u 14, u 15, u 16, u 17, u 18, u 19, u 20, u 21, u 22, u 23, u 24, u 25, u 26, u 27, u 28, u 29, u 30, u 31, u 32, u 33, u 34, u 35, u 36, u 37, u 38, u 39, u 40, u 41, u 42, u 43, u 44, u 45, u 46, u 47, u 48, u 49, u 50, u 51, u 52, u 53, u 54, u 55, u 56, u 57, u 58, u 59, u 60, u 61, u 62, u 63, u 64, u 65, u 66, u 67, u 68, u 69, u 70, u 71, u 72, u 73, u 74, u 75, u 76, u 77, u 78, u 79, u 80, u 81, u 82, u 83, u 84, u 85, u 86, u 87, u 88, u 89, u 90, u 91, u 92, u 93, u 94, u 95, u 96, u 97, u 98, u 99, u 100, u 101, u 102, u 103, u 104, u 105, u 106, u 107, u 108, u 109, u 110, u 111, u 112, u 113, u 114, u 115, u 116, u 117, u 118, u 119, u 120, u 121, u 122, u 123, u 124, u 125, u 126, u 127, u 128, u 129, u 130, u 131, u 132, u 133, u 134, u 135, u 136, u 137, u 138, u 139, u 140, u 141, u 142, u 143, .bool b, u 145, u 146, u 147, u 148, u 149, u 150, u 151, u 152, u 153, u 154, u 155, u 156, u 157, u 158, u 159, u 160, u 161, u 162], defers := [] }
/-- The frame behind the letters up to number 9. -/
def FrM9 (m : M) (X : Nat) (b : Bool) (u : Nat → Value) : Act := { tmps := #[u 0, .pointer (some ⟨X, 0, none⟩), u 2, .int .i64 m.id, u 4, u 5, u 6, u 7, u 8, u 9, u 10, u 11, u 12, u 13, u 14, u 15, u 16, u 17, u 18, u 19, u 20, u 21, u 22, u 23, u 24, u 25, u 26, u 27, u 28, u 29, u 30, u 31, u 32, u 33, u 34, u 35, u 36, u 37, u 38, u 39, u 40, u 41, u 42, u 43, u 44, u 45, u 46, u 47, u 48, u 49, u 50, u 51, u 52, u 53, u 54, u 55, u 56, u 57, u 58, u 59, u 60, u 61, u 62, u 63, u 64, u 65, u 66, u 67, u 68, u 69, u 70, u 71, u 72, u 73, u 74, u 75, u 76, u 77, u 78, u 79, u 80, u 81, u 82, u 83, u 84, u 85, u 86, u 87, u 88, u 89, u 90, u 91, u 92, u 93, u 94, u 95, u 96, u 97, u 98, u 99, u 100, u 101, u 102, u 103, u 104, u 105, u 106, u 107, u 108, u 109, u 110, u 111, u 112, u 113, u 114, u 115, u 116, u 117, u 118, u 119, u 120, u 121, u 122, u 123, u 124, u 125, u 126, u 127, u 128, u 129, u 130, u 131, u 132, u 133, u 134, u 135, u 136, u 137, u 138, u 139, u 140, u 141, u 142, u 143, u 144, u 145, u 146, u 147, u 148, u 149, u 150, u 151, u 152, .bool b, u 154, u 155, u 156, u 157, u 158, u 159, u 160, u 161, u 162], defers := [] }
/-- Is a part there, or empty? -/
def M.okE (m : M) (c : UInt8) : Bool := (partsL m.id).contains c || m.emptyB c
def M.allE (m : M) (k : Nat) : Bool := (lettersL.take (k + 1)).all m.okE
theorem M.allE_0 (m : M) : m.allE 0 = m.okE 110 := by simp [M.allE, lettersL]
theorem M.allE_1 (m : M) : m.allE 1 = (m.allE 0 && m.okE 121) := by simp [M.allE, lettersL, Bool.and_assoc]
theorem M.allE_2 (m : M) : m.allE 2 = (m.allE 1 && m.okE 101) := by simp [M.allE, lettersL, Bool.and_assoc]
theorem M.allE_3 (m : M) : m.allE 3 = (m.allE 2 && m.okE 107) := by simp [M.allE, lettersL, Bool.and_assoc]
theorem M.allE_4 (m : M) : m.allE 4 = (m.allE 3 && m.okE 120) := by simp [M.allE, lettersL, Bool.and_assoc]
theorem M.allE_5 (m : M) : m.allE 5 = (m.allE 4 && m.okE 99) := by simp [M.allE, lettersL, Bool.and_assoc]
theorem M.allE_6 (m : M) : m.allE 6 = (m.allE 5 && m.okE 117) := by simp [M.allE, lettersL, Bool.and_assoc]
theorem M.allE_7 (m : M) : m.allE 7 = (m.allE 6 && m.okE 116) := by simp [M.allE, lettersL, Bool.and_assoc]
theorem M.allE_8 (m : M) : m.allE 8 = (m.allE 7 && m.okE 102) := by simp [M.allE, lettersL, Bool.and_assoc]
theorem M.allE_9 (m : M) : m.allE 9 = (m.allE 8 && m.okE 98) := by simp [M.allE, lettersL, Bool.and_assoc]
theorem M.allE_10 (m : M) : m.allE 10 = (m.allE 9 && m.okE 97) := by simp [M.allE, lettersL, Bool.and_assoc]
/-- What holds behind the letters up to number 0. -/
def RM0 (m : M) (X : Nat) (w1 : World) (a : Act) (w : World) : Prop := (∃ u, a = FrM0 m X (m.allE 0) u) ∧ w = w1
theorem RM0.mk {m : M} {X : Nat} {w1 : World} (b : Bool) (a : Act) (hb : m.allE 0 = b) (h : a = FrM0 m X b (fun k => a.tmps.getD k undef)) : RM0 m X w1 a w1 := ⟨⟨_, by rw [hb]; exact h⟩, rfl⟩
/-- What holds behind the letters up to number 1. -/
def RM1 (m : M) (X : Nat) (w1 : World) (a : Act) (w : World) : Prop := (∃ u, a = FrM1 m X (m.allE 1) u) ∧ w = w1
theorem RM1.mk {m : M} {X : Nat} {w1 : World} (b : Bool) (a : Act) (hb : m.allE 1 = b) (h : a = FrM1 m X b (fun k => a.tmps.getD k undef)) : RM1 m X w1 a w1 := ⟨⟨_, by rw [hb]; exact h⟩, rfl⟩
/-- What holds behind the letters up to number 2. -/
def RM2 (m : M) (X : Nat) (w1 : World) (a : Act) (w : World) : Prop := (∃ u, a = FrM2 m X (m.allE 2) u) ∧ w = w1
theorem RM2.mk {m : M} {X : Nat} {w1 : World} (b : Bool) (a : Act) (hb : m.allE 2 = b) (h : a = FrM2 m X b (fun k => a.tmps.getD k undef)) : RM2 m X w1 a w1 := ⟨⟨_, by rw [hb]; exact h⟩, rfl⟩
/-- What holds behind the letters up to number 3. -/
def RM3 (m : M) (X : Nat) (w1 : World) (a : Act) (w : World) : Prop := (∃ u, a = FrM3 m X (m.allE 3) u) ∧ w = w1
theorem RM3.mk {m : M} {X : Nat} {w1 : World} (b : Bool) (a : Act) (hb : m.allE 3 = b) (h : a = FrM3 m X b (fun k => a.tmps.getD k undef)) : RM3 m X w1 a w1 := ⟨⟨_, by rw [hb]; exact h⟩, rfl⟩
/-- What holds behind the letters up to number 4. -/
def RM4 (m : M) (X : Nat) (w1 : World) (a : Act) (w : World) : Prop := (∃ u, a = FrM4 m X (m.allE 4) u) ∧ w = w1
theorem RM4.mk {m : M} {X : Nat} {w1 : World} (b : Bool) (a : Act) (hb : m.allE 4 = b) (h : a = FrM4 m X b (fun k => a.tmps.getD k undef)) : RM4 m X w1 a w1 := ⟨⟨_, by rw [hb]; exact h⟩, rfl⟩
/-- What holds behind the letters up to number 5. -/
def RM5 (m : M) (X : Nat) (w1 : World) (a : Act) (w : World) : Prop := (∃ u, a = FrM5 m X (m.allE 5) u) ∧ w = w1
theorem RM5.mk {m : M} {X : Nat} {w1 : World} (b : Bool) (a : Act) (hb : m.allE 5 = b) (h : a = FrM5 m X b (fun k => a.tmps.getD k undef)) : RM5 m X w1 a w1 := ⟨⟨_, by rw [hb]; exact h⟩, rfl⟩
/-- What holds behind the letters up to number 6. -/
def RM6 (m : M) (X : Nat) (w1 : World) (a : Act) (w : World) : Prop := (∃ u, a = FrM6 m X (m.allE 6) u) ∧ w = w1
theorem RM6.mk {m : M} {X : Nat} {w1 : World} (b : Bool) (a : Act) (hb : m.allE 6 = b) (h : a = FrM6 m X b (fun k => a.tmps.getD k undef)) : RM6 m X w1 a w1 := ⟨⟨_, by rw [hb]; exact h⟩, rfl⟩
/-- What holds behind the letters up to number 7. -/
def RM7 (m : M) (X : Nat) (w1 : World) (a : Act) (w : World) : Prop := (∃ u, a = FrM7 m X (m.allE 7) u) ∧ w = w1
theorem RM7.mk {m : M} {X : Nat} {w1 : World} (b : Bool) (a : Act) (hb : m.allE 7 = b) (h : a = FrM7 m X b (fun k => a.tmps.getD k undef)) : RM7 m X w1 a w1 := ⟨⟨_, by rw [hb]; exact h⟩, rfl⟩
/-- What holds behind the letters up to number 8. -/
def RM8 (m : M) (X : Nat) (w1 : World) (a : Act) (w : World) : Prop := (∃ u, a = FrM8 m X (m.allE 8) u) ∧ w = w1
theorem RM8.mk {m : M} {X : Nat} {w1 : World} (b : Bool) (a : Act) (hb : m.allE 8 = b) (h : a = FrM8 m X b (fun k => a.tmps.getD k undef)) : RM8 m X w1 a w1 := ⟨⟨_, by rw [hb]; exact h⟩, rfl⟩
/-- What holds behind the letters up to number 9. -/
def RM9 (m : M) (X : Nat) (w1 : World) (a : Act) (w : World) : Prop := (∃ u, a = FrM9 m X (m.allE 9) u) ∧ w = w1
theorem RM9.mk {m : M} {X : Nat} {w1 : World} (b : Bool) (a : Act) (hb : m.allE 9 = b) (h : a = FrM9 m X b (fun k => a.tmps.getD k undef)) : RM9 m X w1 a w1 := ⟨⟨_, by rw [hb]; exact h⟩, rfl⟩
theorem M.mayB_E (m : M) (hp : partsL m.id ≠ [45]) (hz : m.nm.size ≤ 255 ∧ m.ty.size ≤ 255 ∧ m.ex.size ≤ 255 ∧ m.ky.size ≤ 255 ∧ m.tx.size ≤ 255 ∧ 0 ≤ m.co ∧ m.co ≤ 65535 ∧ 0 ≤ m.cn ∧ m.cn ≤ 4294967295) (hmt : m.ar.mayTab 1 = true) : m.mayB = m.allE 10 := by
  obtain ⟨z1, z2, z3, z4, z5, z6, z7, z8, z9⟩ := hz
  rw [Bool.eq_iff_iff, M.mayB_iff]
  simp [hp, M.allE, lettersL, M.okAt, M.okE, M.rightB, M.txt, z1, z2, z3, z4, z5, z6, z7, z8, z9, hmt]

set_option maxHeartbeats 8000000 in
theorem mayM_in (m : M) (hz : m.nm.size ≤ 255 ∧ m.ty.size ≤ 255 ∧ m.ex.size ≤ 255 ∧ m.ky.size ≤ 255 ∧ m.tx.size ≤ 255 ∧ 0 ≤ m.co ∧ m.co ≤ 65535 ∧ 0 ≤ m.cn ∧ m.cn ≤ 4294967295) (hp : partsL m.id ≠ [45]) (hmt : m.ar.mayTab 1 = true) (hO : m.Ok) (S : Nat → Prop) (A : Option Addr) (n : Nat) (w : World) (hS : Sl w S A m.ar) :
    Calls Try.prog 68 #[m.val A n] w fun e w' => e = .returned (.bool m.mayB) ∧ Still w w' := by
  have HE := Kp.mk (m.mayB_E hp hz hmt)
  obtain ⟨z1, z2, z3, z4, z5, z6, z7, z8, z9⟩ := hz
  have HM := Kp.mk (MAt.new (c := n) m hS)
  have HO := Kp.mk hO
  have HMT := Kp.mk hmt
  have HZ := Kp.mk size_zero
  have hb : ((ps (partsL m.id)).toList == [45]) = false := by rw [ps_list]; simpa using hp
  clear hp hO hS hmt
  go_enter Try.func68, Try.ntmps68
  go_wp2_with fail
  refine (parts85 m.id _).mono ?_
  rintro e w1 ⟨rfl, rfl⟩
  go_wp2_with fail
  refine (mayTable70 m.ar A n S _ HO.out.arl HO.out.ar HM.out.sl).mono ?_
  rintro e w1 ⟨rfl, ht⟩
  rw [HMT.out]
  have HT := Kp.mk (((Still.refl w).alloc _).strans ht)
  have HM1 := Kp.mk (HM.out.still ht)
  clear ht HM
  have y0 := HM1.out.id
  have y1 := HM1.out.nm
  have y2 := HM1.out.ty
  have y3 := HM1.out.ex
  have y4 := HM1.out.ky
  have y5 := HM1.out.tx
  have y6 := HM1.out.co
  have y7 := HM1.out.cn
  have y8 := HM1.out.tg
  have y9 := HM1.out.fl
  have y10 := HM1.out.bk
  have y11 := HM1.out.ar
  go_upto_region 4 with (fail)
  refine wp_region_lit ?_
  clear z1 z2 z3 z4 z5 z6 z7 z8 z9 HM1 HO HMT hb
  generalize w.heap.size = X at *
  simp only [List.append_eq, List.cons_append, List.nil_append]
  refine wpList_cut_at 8 (RM0 m X w1) ?_ ?_
  · simp only [List.take_succ_cons, List.take_zero, List.drop_succ_cons, List.drop_zero]
    cases hc : (partsL m.id).contains (UInt8.ofNat ((110 : Int)).toNat) with
    | true =>
      have HC := Kp.mk (show m.okE 110 = true by
        have h : (partsL m.id).contains 110 = true := hc
        unfold M.okE; rw [h]; simp)
      go_wp2_with (go_at_call 86; (refine (has86i m.id _ _ (by decide) (by decide)).mono ?_); rintro e w2 ⟨rfl, rfl⟩; rw [hc])
      exact RM0.mk _ _ (by rw [M.allE_0, HC.out]) rfl
    | false =>
      have HC := Kp.mk (show m.okE 110 = m.emptyB 110 by
        have h : (partsL m.id).contains 110 = false := hc
        unfold M.okE; rw [h]; simp)
      go_wp2_with (go_at_call 86; (refine (has86i m.id _ _ (by decide) (by decide)).mono ?_); rintro e w2 ⟨rfl, rfl⟩; rw [hc])
      exact RM0.mk _ _ (by rw [M.allE_0, HC.out]; rw [Bool.eq_iff_iff]; simp [M.emptyB, M.txt, HZ.out]) rfl
  rintro a' w' ⟨⟨u, rfl⟩, hw'⟩
  obtain rfl : w1 = w' := hw'.symm
  simp only [List.take_succ_cons, List.take_zero, List.drop_succ_cons, List.drop_zero]
  refine wpList_cut_at 9 (RM1 m X w1) ?_ ?_
  · simp only [List.take_succ_cons, List.take_zero, List.drop_succ_cons, List.drop_zero]
    unfold FrM0
    cases hbv : m.allE 0 with
    | false =>
      have HB0 := Kp.mk hbv; clear hbv
      go_wp2_with fail
      exact RM1.mk false _ (by rw [M.allE_1, HB0.out]; rfl) rfl
    | true =>
      have HB0 := Kp.mk hbv; clear hbv
      cases hc : (partsL m.id).contains (UInt8.ofNat ((121 : Int)).toNat) with
      | true =>
        have HC := Kp.mk (show m.okE 121 = true by
          have h : (partsL m.id).contains 121 = true := hc
          unfold M.okE; rw [h]; simp)
        go_wp2_with (go_at_call 86; (refine (has86i m.id _ _ (by decide) (by decide)).mono ?_); rintro e w2 ⟨rfl, rfl⟩; rw [hc])
        exact RM1.mk _ _ (by rw [M.allE_1, HB0.out, HC.out]; rfl) rfl
      | false =>
        have HC := Kp.mk (show m.okE 121 = m.emptyB 121 by
          have h : (partsL m.id).contains 121 = false := hc
          unfold M.okE; rw [h]; simp)
        go_wp2_with (go_at_call 86; (refine (has86i m.id _ _ (by decide) (by decide)).mono ?_); rintro e w2 ⟨rfl, rfl⟩; rw [hc])
        exact RM1.mk _ _ (by rw [M.allE_1, HB0.out, HC.out]; rw [Bool.eq_iff_iff]; simp [M.emptyB, M.txt, HZ.out]) rfl
  rintro a' w' ⟨⟨u, rfl⟩, hw'⟩
  obtain rfl : w1 = w' := hw'.symm
  simp only [List.take_succ_cons, List.take_zero, List.drop_succ_cons, List.drop_zero]
  refine wpList_cut_at 9 (RM2 m X w1) ?_ ?_
  · simp only [List.take_succ_cons, List.take_zero, List.drop_succ_cons, List.drop_zero]
    unfold FrM1
    cases hbv : m.allE 1 with
    | false =>
      have HB0 := Kp.mk hbv; clear hbv
      go_wp2_with fail
      exact RM2.mk false _ (by rw [M.allE_2, HB0.out]; rfl) rfl
    | true =>
      have HB0 := Kp.mk hbv; clear hbv
      cases hc : (partsL m.id).contains (UInt8.ofNat ((101 : Int)).toNat) with
      | true =>
        have HC := Kp.mk (show m.okE 101 = true by
          have h : (partsL m.id).contains 101 = true := hc
          unfold M.okE; rw [h]; simp)
        go_wp2_with (go_at_call 86; (refine (has86i m.id _ _ (by decide) (by decide)).mono ?_); rintro e w2 ⟨rfl, rfl⟩; rw [hc])
        exact RM2.mk _ _ (by rw [M.allE_2, HB0.out, HC.out]; rfl) rfl
      | false =>
        have HC := Kp.mk (show m.okE 101 = m.emptyB 101 by
          have h : (partsL m.id).contains 101 = false := hc
          unfold M.okE; rw [h]; simp)
        go_wp2_with (go_at_call 86; (refine (has86i m.id _ _ (by decide) (by decide)).mono ?_); rintro e w2 ⟨rfl, rfl⟩; rw [hc])
        exact RM2.mk _ _ (by rw [M.allE_2, HB0.out, HC.out]; rw [Bool.eq_iff_iff]; simp [M.emptyB, M.txt, HZ.out]) rfl
  rintro a' w' ⟨⟨u, rfl⟩, hw'⟩
  obtain rfl : w1 = w' := hw'.symm
  simp only [List.take_succ_cons, List.take_zero, List.drop_succ_cons, List.drop_zero]
  refine wpList_cut_at 9 (RM3 m X w1) ?_ ?_
  · simp only [List.take_succ_cons, List.take_zero, List.drop_succ_cons, List.drop_zero]
    unfold FrM2
    cases hbv : m.allE 2 with
    | false =>
      have HB0 := Kp.mk hbv; clear hbv
      go_wp2_with fail
      exact RM3.mk false _ (by rw [M.allE_3, HB0.out]; rfl) rfl
    | true =>
      have HB0 := Kp.mk hbv; clear hbv
      cases hc : (partsL m.id).contains (UInt8.ofNat ((107 : Int)).toNat) with
      | true =>
        have HC := Kp.mk (show m.okE 107 = true by
          have h : (partsL m.id).contains 107 = true := hc
          unfold M.okE; rw [h]; simp)
        go_wp2_with (go_at_call 86; (refine (has86i m.id _ _ (by decide) (by decide)).mono ?_); rintro e w2 ⟨rfl, rfl⟩; rw [hc])
        exact RM3.mk _ _ (by rw [M.allE_3, HB0.out, HC.out]; rfl) rfl
      | false =>
        have HC := Kp.mk (show m.okE 107 = m.emptyB 107 by
          have h : (partsL m.id).contains 107 = false := hc
          unfold M.okE; rw [h]; simp)
        go_wp2_with (go_at_call 86; (refine (has86i m.id _ _ (by decide) (by decide)).mono ?_); rintro e w2 ⟨rfl, rfl⟩; rw [hc])
        exact RM3.mk _ _ (by rw [M.allE_3, HB0.out, HC.out]; rw [Bool.eq_iff_iff]; simp [M.emptyB, M.txt, HZ.out]) rfl
  rintro a' w' ⟨⟨u, rfl⟩, hw'⟩
  obtain rfl : w1 = w' := hw'.symm
  simp only [List.take_succ_cons, List.take_zero, List.drop_succ_cons, List.drop_zero]
  refine wpList_cut_at 9 (RM4 m X w1) ?_ ?_
  · simp only [List.take_succ_cons, List.take_zero, List.drop_succ_cons, List.drop_zero]
    unfold FrM3
    cases hbv : m.allE 3 with
    | false =>
      have HB0 := Kp.mk hbv; clear hbv
      go_wp2_with fail
      exact RM4.mk false _ (by rw [M.allE_4, HB0.out]; rfl) rfl
    | true =>
      have HB0 := Kp.mk hbv; clear hbv
      cases hc : (partsL m.id).contains (UInt8.ofNat ((120 : Int)).toNat) with
      | true =>
        have HC := Kp.mk (show m.okE 120 = true by
          have h : (partsL m.id).contains 120 = true := hc
          unfold M.okE; rw [h]; simp)
        go_wp2_with (go_at_call 86; (refine (has86i m.id _ _ (by decide) (by decide)).mono ?_); rintro e w2 ⟨rfl, rfl⟩; rw [hc])
        exact RM4.mk _ _ (by rw [M.allE_4, HB0.out, HC.out]; rfl) rfl
      | false =>
        have HC := Kp.mk (show m.okE 120 = m.emptyB 120 by
          have h : (partsL m.id).contains 120 = false := hc
          unfold M.okE; rw [h]; simp)
        go_wp2_with (go_at_call 86; (refine (has86i m.id _ _ (by decide) (by decide)).mono ?_); rintro e w2 ⟨rfl, rfl⟩; rw [hc])
        exact RM4.mk _ _ (by rw [M.allE_4, HB0.out, HC.out]; rw [Bool.eq_iff_iff]; simp [M.emptyB, M.txt, HZ.out]) rfl
  rintro a' w' ⟨⟨u, rfl⟩, hw'⟩
  obtain rfl : w1 = w' := hw'.symm
  simp only [List.take_succ_cons, List.take_zero, List.drop_succ_cons, List.drop_zero]
  refine wpList_cut_at 9 (RM5 m X w1) ?_ ?_
  · simp only [List.take_succ_cons, List.take_zero, List.drop_succ_cons, List.drop_zero]
    unfold FrM4
    cases hbv : m.allE 4 with
    | false =>
      have HB0 := Kp.mk hbv; clear hbv
      go_wp2_with fail
      exact RM5.mk false _ (by rw [M.allE_5, HB0.out]; rfl) rfl
    | true =>
      have HB0 := Kp.mk hbv; clear hbv
      cases hc : (partsL m.id).contains (UInt8.ofNat ((99 : Int)).toNat) with
      | true =>
        have HC := Kp.mk (show m.okE 99 = true by
          have h : (partsL m.id).contains 99 = true := hc
          unfold M.okE; rw [h]; simp)
        go_wp2_with (go_at_call 86; (refine (has86i m.id _ _ (by decide) (by decide)).mono ?_); rintro e w2 ⟨rfl, rfl⟩; rw [hc])
        exact RM5.mk _ _ (by rw [M.allE_5, HB0.out, HC.out]; rfl) rfl
      | false =>
        have HC := Kp.mk (show m.okE 99 = m.emptyB 99 by
          have h : (partsL m.id).contains 99 = false := hc
          unfold M.okE; rw [h]; simp)
        go_wp2_with (go_at_call 86; (refine (has86i m.id _ _ (by decide) (by decide)).mono ?_); rintro e w2 ⟨rfl, rfl⟩; rw [hc])
        exact RM5.mk _ _ (by rw [M.allE_5, HB0.out, HC.out]; rw [Bool.eq_iff_iff]; simp [M.emptyB, M.txt, HZ.out]) rfl
  rintro a' w' ⟨⟨u, rfl⟩, hw'⟩
  obtain rfl : w1 = w' := hw'.symm
  simp only [List.take_succ_cons, List.take_zero, List.drop_succ_cons, List.drop_zero]
  refine wpList_cut_at 9 (RM6 m X w1) ?_ ?_
  · simp only [List.take_succ_cons, List.take_zero, List.drop_succ_cons, List.drop_zero]
    unfold FrM5
    cases hbv : m.allE 5 with
    | false =>
      have HB0 := Kp.mk hbv; clear hbv
      go_wp2_with fail
      exact RM6.mk false _ (by rw [M.allE_6, HB0.out]; rfl) rfl
    | true =>
      have HB0 := Kp.mk hbv; clear hbv
      cases hc : (partsL m.id).contains (UInt8.ofNat ((117 : Int)).toNat) with
      | true =>
        have HC := Kp.mk (show m.okE 117 = true by
          have h : (partsL m.id).contains 117 = true := hc
          unfold M.okE; rw [h]; simp)
        go_wp2_with (go_at_call 86; (refine (has86i m.id _ _ (by decide) (by decide)).mono ?_); rintro e w2 ⟨rfl, rfl⟩; rw [hc])
        exact RM6.mk _ _ (by rw [M.allE_6, HB0.out, HC.out]; rfl) rfl
      | false =>
        have HC := Kp.mk (show m.okE 117 = m.emptyB 117 by
          have h : (partsL m.id).contains 117 = false := hc
          unfold M.okE; rw [h]; simp)
        go_wp2_with (go_at_call 86; (refine (has86i m.id _ _ (by decide) (by decide)).mono ?_); rintro e w2 ⟨rfl, rfl⟩; rw [hc])
        exact RM6.mk _ _ (by rw [M.allE_6, HB0.out, HC.out]; rw [Bool.eq_iff_iff]; simp [M.emptyB, M.txt, HZ.out]) rfl
  rintro a' w' ⟨⟨u, rfl⟩, hw'⟩
  obtain rfl : w1 = w' := hw'.symm
  simp only [List.take_succ_cons, List.take_zero, List.drop_succ_cons, List.drop_zero]
  refine wpList_cut_at 9 (RM7 m X w1) ?_ ?_
  · simp only [List.take_succ_cons, List.take_zero, List.drop_succ_cons, List.drop_zero]
    unfold FrM6
    cases hbv : m.allE 6 with
    | false =>
      have HB0 := Kp.mk hbv; clear hbv
      go_wp2_with fail
      exact RM7.mk false _ (by rw [M.allE_7, HB0.out]; rfl) rfl
    | true =>
      have HB0 := Kp.mk hbv; clear hbv
      cases hc : (partsL m.id).contains (UInt8.ofNat ((116 : Int)).toNat) with
      | true =>
        have HC := Kp.mk (show m.okE 116 = true by
          have h : (partsL m.id).contains 116 = true := hc
          unfold M.okE; rw [h]; simp)
        go_wp2_with (go_at_call 86; (refine (has86i m.id _ _ (by decide) (by decide)).mono ?_); rintro e w2 ⟨rfl, rfl⟩; rw [hc])
        exact RM7.mk _ _ (by rw [M.allE_7, HB0.out, HC.out]; rfl) rfl
      | false =>
        have HC := Kp.mk (show m.okE 116 = m.emptyB 116 by
          have h : (partsL m.id).contains 116 = false := hc
          unfold M.okE; rw [h]; simp)
        go_wp2_with (go_at_call 86; (refine (has86i m.id _ _ (by decide) (by decide)).mono ?_); rintro e w2 ⟨rfl, rfl⟩; rw [hc])
        exact RM7.mk _ _ (by rw [M.allE_7, HB0.out, HC.out]; rw [Bool.eq_iff_iff]; simp [M.emptyB, M.txt, HZ.out]) rfl
  rintro a' w' ⟨⟨u, rfl⟩, hw'⟩
  obtain rfl : w1 = w' := hw'.symm
  simp only [List.take_succ_cons, List.take_zero, List.drop_succ_cons, List.drop_zero]
  refine wpList_cut_at 9 (RM8 m X w1) ?_ ?_
  · simp only [List.take_succ_cons, List.take_zero, List.drop_succ_cons, List.drop_zero]
    unfold FrM7
    cases hbv : m.allE 7 with
    | false =>
      have HB0 := Kp.mk hbv; clear hbv
      go_wp2_with fail
      exact RM8.mk false _ (by rw [M.allE_8, HB0.out]; rfl) rfl
    | true =>
      have HB0 := Kp.mk hbv; clear hbv
      cases hc : (partsL m.id).contains (UInt8.ofNat ((102 : Int)).toNat) with
      | true =>
        have HC := Kp.mk (show m.okE 102 = true by
          have h : (partsL m.id).contains 102 = true := hc
          unfold M.okE; rw [h]; simp)
        go_wp2_with (go_at_call 86; (refine (has86i m.id _ _ (by decide) (by decide)).mono ?_); rintro e w2 ⟨rfl, rfl⟩; rw [hc])
        exact RM8.mk _ _ (by rw [M.allE_8, HB0.out, HC.out]; rfl) rfl
      | false =>
        have HC := Kp.mk (show m.okE 102 = m.emptyB 102 by
          have h : (partsL m.id).contains 102 = false := hc
          unfold M.okE; rw [h]; simp)
        go_wp2_with (go_at_call 86; (refine (has86i m.id _ _ (by decide) (by decide)).mono ?_); rintro e w2 ⟨rfl, rfl⟩; rw [hc])
        exact RM8.mk _ _ (by rw [M.allE_8, HB0.out, HC.out]; rw [Bool.eq_iff_iff]; simp [M.emptyB, M.txt, HZ.out]) rfl
  rintro a' w' ⟨⟨u, rfl⟩, hw'⟩
  obtain rfl : w1 = w' := hw'.symm
  simp only [List.take_succ_cons, List.take_zero, List.drop_succ_cons, List.drop_zero]
  refine wpList_cut_at 9 (RM9 m X w1) ?_ ?_
  · simp only [List.take_succ_cons, List.take_zero, List.drop_succ_cons, List.drop_zero]
    unfold FrM8
    cases hbv : m.allE 8 with
    | false =>
      have HB0 := Kp.mk hbv; clear hbv
      go_wp2_with fail
      exact RM9.mk false _ (by rw [M.allE_9, HB0.out]; rfl) rfl
    | true =>
      have HB0 := Kp.mk hbv; clear hbv
      cases hc : (partsL m.id).contains (UInt8.ofNat ((98 : Int)).toNat) with
      | true =>
        have HC := Kp.mk (show m.okE 98 = true by
          have h : (partsL m.id).contains 98 = true := hc
          unfold M.okE; rw [h]; simp)
        go_wp2_with (go_at_call 86; (refine (has86i m.id _ _ (by decide) (by decide)).mono ?_); rintro e w2 ⟨rfl, rfl⟩; rw [hc])
        exact RM9.mk _ _ (by rw [M.allE_9, HB0.out, HC.out]; rfl) rfl
      | false =>
        have HC := Kp.mk (show m.okE 98 = m.emptyB 98 by
          have h : (partsL m.id).contains 98 = false := hc
          unfold M.okE; rw [h]; simp)
        go_wp2_with (go_at_call 86; (refine (has86i m.id _ _ (by decide) (by decide)).mono ?_); rintro e w2 ⟨rfl, rfl⟩; rw [hc])
        exact RM9.mk _ _ (by rw [M.allE_9, HB0.out, HC.out]; rw [Bool.eq_iff_iff]; simp [M.emptyB, M.txt, HZ.out]) rfl
  rintro a' w' ⟨⟨u, rfl⟩, hw'⟩
  obtain rfl : w1 = w' := hw'.symm
  simp only [List.take_succ_cons, List.take_zero, List.drop_succ_cons, List.drop_zero]
  unfold FrM9
  cases hbv : m.allE 9 with
  | false =>
    have HB0 := Kp.mk hbv
    clear hbv
    go_wp2_with fail
    go_ret
    exact ⟨ret_bool (by rw [HE.out, M.allE_10, HB0.out]; rfl), HT.out⟩
  | true =>
    have HB0 := Kp.mk hbv; clear hbv
    cases hc : (partsL m.id).contains (UInt8.ofNat ((97 : Int)).toNat) with
    | true =>
      have HC := Kp.mk (show m.okE 97 = true by
        have h : (partsL m.id).contains 97 = true := hc
        unfold M.okE; rw [h]; simp)
      go_wp2_with (go_at_call 86; (refine (has86i m.id _ _ (by decide) (by decide)).mono ?_); rintro e w2 ⟨rfl, rfl⟩; rw [hc])
      go_ret
      exact ⟨ret_bool (by rw [HE.out, M.allE_10, HB0.out, HC.out]; rfl), HT.out⟩
    | false =>
      have HC := Kp.mk (show m.okE 97 = m.emptyB 97 by
        have h : (partsL m.id).contains 97 = false := hc
        unfold M.okE; rw [h]; simp)
      go_wp2_with (go_at_call 86; (refine (has86i m.id _ _ (by decide) (by decide)).mono ?_); rintro e w2 ⟨rfl, rfl⟩; rw [hc])
      go_ret
      exact ⟨ret_bool (by rw [HE.out, M.allE_10, HB0.out, HC.out, Bool.eq_iff_iff]; simp [M.emptyB]), HT.out⟩
end Go.Proofs.Ytaeainkfllfdfaa
/- E8: The reference's PutMethod at a call with content that may be: its bytes as a string. -/
namespace Go.Proofs.Ytaeainkfllfdfaa
open Go.RowKit
set_option linter.unusedVariables false
set_option linter.unusedSimpArgs false
set_option maxRecDepth 100000

theorem M.encP_len {m : M} (hO : m.Ok) {c : UInt8} (hc : c ≠ 97) : (m.encP c).length ≤ 140737488351233 := by
  have h1 := hO.nm; have h2 := hO.ty; have h3 := hO.ex; have h4 := hO.ky; have h5 := hO.tx
  have ht : (m.txt c).data.toList.length ≤ 140737488351232 := by
    have e : (m.txt c).data.toList.length = (m.txt c).size := Array.length_toList
    rw [e]; unfold M.txt; (repeat' split) <;> assumption
  unfold M.encP
  rw [if_neg hc]
  (repeat' split) <;> simp only [be_length, List.length_cons, List.length_nil] <;> omega
theorem M.encPs_len {m : M} (hO : m.Ok) : ∀ (l : List UInt8), 97 ∉ l → (m.encPs l).length ≤ l.length * 140737488351233
  | [], _ => Nat.zero_le _
  | c :: r, h => by
    have h1 := M.encP_len hO (c := c) (fun e => h (by rw [e]; exact List.mem_cons_self))
    have h2 := M.encPs_len hO r (fun e => h (List.mem_cons_of_mem _ e))
    simp only [M.encPs, List.length_append, List.length_cons, Nat.add_mul]
    omega
/-- What stands ahead of part number k. -/
def M.pre (m : M) (a b : Nat) (P : List UInt8) (k : Nat) : List UInt8 := be a 2 ++ be b 2 ++ m.encPs (P.take k)
theorem M.pre_len {m : M} (hO : m.Ok) (a b : Nat) (P : List UInt8) (k : Nat) (h : 97 ∉ P) (hl : P.length ≤ 5) : (m.pre a b P k).length ≤ 1000000000000000 := by
  have h1 := M.encPs_len hO (P.take k) (fun e => h (List.mem_of_mem_take e))
  have h2 : (P.take k).length ≤ 5 := by rw [List.length_take]; omega
  simp only [M.pre, List.length_append, be_length]
  have h3 : (P.take k).length * 140737488351233 ≤ 5 * 140737488351233 := Nat.mul_le_mul_right _ h2
  omega
theorem M.pre_succ (m : M) (a b : Nat) (P : List UInt8) (k : Nat) (hk : k < P.length) : m.pre a b P (k + 1) = m.pre a b P k ++ m.encP P[k] := by
  unfold M.pre
  rw [List.take_succ_eq_append_getElem hk, M.encPs_app]
  simp [M.encPs]
theorem txt_enc (s : ByteArray) : be s.size 1 ++ s.data.toList = UInt8.ofNat s.size :: s.data.toList := by simp [be]
/-- What PutMethod tells of a call that may be, without a table. -/
def RetPM (w : World) (l : List UInt8) (e : Ending) (w' : World) : Prop := e = .returned (.tuple #[.string (ps l), .int .i64 0]) ∧ Still w w'
theorem M.sized {m : M} (h : m.mayB = true) : (m.nm.size ≤ 255 ∧ m.ty.size ≤ 255 ∧ m.ex.size ≤ 255 ∧ m.ky.size ≤ 255 ∧ m.tx.size ≤ 255 ∧ 0 ≤ m.co ∧ m.co ≤ 65535 ∧ 0 ≤ m.cn ∧ m.cn ≤ 4294967295) ∧ partsL m.id ≠ [45] ∧ m.ar.mayTab 1 = true := by
  obtain ⟨hp, ha⟩ := (M.mayB_iff m).1 h
  have hr : ∀ c ∈ lettersL, m.rightB c = true := fun c hc => by
    have := ha c hc
    unfold M.okAt at this
    simp only [Bool.and_eq_true] at this
    exact this.2
  have r1 := hr 110 (by decide); have r2 := hr 121 (by decide); have r3 := hr 101 (by decide); have r4 := hr 107 (by decide); have r5 := hr 120 (by decide)
  have r6 := hr 99 (by decide); have r7 := hr 117 (by decide); have r8 := hr 97 (by decide)
  simp [M.rightB, M.txt] at r1 r2 r3 r4 r5 r6 r7 r8
  exact ⟨⟨r1, r2, r3, r4, r5, r6.1, r6.2, r7.1, r7.2⟩, hp, r8⟩

set_option maxHeartbeats 4000000 in
theorem putM_6040 (m : M) (hid : m.id = 6040) (hm : m.mayB = true) (hO : m.Ok) (S : Nat → Prop) (A : Option Addr) (n : Nat) (w : World) (hS : Sl w S A m.ar) :
    Calls Try.prog 71 #[m.val A n] w (RetPM w m.enc) := by
  have hparts : partsL m.id = [101, 107, 102] := by rw [hid]; rfl
  have HENC := Kp.mk (show m.enc = m.pre 60 40 [101, 107, 102] 3 by
    unfold M.enc M.pre
    rw [hparts, hid]; rfl)
  obtain ⟨g1, g2, g3⟩ := M.sized hm
  have HG := Kp.mk g1; have HG2 := Kp.mk g2; have HG3 := Kp.mk g3
  have HO := Kp.mk hO
  have HMB := Kp.mk hm
  have HM := Kp.mk (MAt.new (c := n) m hS)
  have HID := Kp.mk hid
  have HPL := Kp.mk (fun k => M.pre_len hO 60 40 [101, 107, 102] k (by decide) (by decide))
  have HPP := Kp.mk hparts
  have hwt := u64w_eq m.co
  have hwc := u64w_eq m.cn
  have HWT := Kp.mk (u64w_lt m.co); have HWC := Kp.mk (u64w_lt m.cn)
  clear hO hm g1 g2 g3 hid hparts hS
  go_enter Try.func71, Try.ntmps71
  go_wp2_with fail
  refine (mayM_in m HG.out HG2.out HG3.out HO.out S A n _ HM.out.sl).mono ?_
  rintro e w1 ⟨rfl, ht1⟩
  rw [HMB.out]
  have HT1 := Kp.mk (((Still.refl w).alloc _).strans ht1)
  have HM1 := Kp.mk (HM.out.still ht1)
  have HC0 := Kp.mk (fun W (h : Still w1 W) => show W.cell? ⟨w.heap.size, 0, none⟩ = some (.int .i64 6040) by
    have := (HM1.out.still h).id
    rw [HID.out] at this; exact this)
  have hadd0 := str_add (ps (be 60 2)) (ps (be 40 2)) (by simp only [ps_size, be_length]; decide)
  have hsz := HT1.out.size
  clear ht1 hsz HM
  generalize w.heap.size = X at *
  go_upto_region 3 with (fail)
  refine wp_region_held_drew (S := fun W => W.cell? ⟨X, 0, none⟩ = some (.int .i64 6040)) (by kernel_rfl) (HC0.out _ ((Still.refl w1).drew)) (fun hHeld0 => ?_)
  refine wpAnyH_take (i := 0) (v := .pointer (some ⟨X, 0, none⟩)) rfl (by kernel_rfl) (by kernel_rfl) (by kernel_rfl) (fun _ _ _ h => h) (Or.inl ⟨by rfl, ?_⟩) hHeld0 ?_
  · (intro w hSw; (try dsimp only at hSw); go_simp; all_goals (try rfl))
  simp only [Act.put, List.getElem_toArray, List.getElem_cons_zero, List.getElem_cons_succ, List.setIfInBounds_toArray, List.set_cons_zero, List.set_cons_succ]
  refine wpAnyH_take (i := 1) (v := .int .i64 6040) rfl (by kernel_rfl) (by kernel_rfl) (by kernel_rfl) (fun _ _ _ h => h) (Or.inl ⟨by rfl, ?_⟩) hHeld0 ?_
  · (intro w hSw; (try dsimp only at hSw); go_simp; all_goals (try rfl))
  simp only [Act.put, List.getElem_toArray, List.getElem_cons_zero, List.getElem_cons_succ, List.setIfInBounds_toArray, List.set_cons_zero, List.set_cons_succ]
  refine wpAnyH_take (i := 2) (v := .int .i64 60) rfl (by kernel_rfl) (by kernel_rfl) (by kernel_rfl) (fun _ _ _ h => h) (Or.inl ⟨by rfl, ?_⟩) hHeld0 ?_
  · (intro w hSw; (try dsimp only at hSw); go_simp; all_goals (try rfl))
  simp only [Act.put, List.getElem_toArray, List.getElem_cons_zero, List.getElem_cons_succ, List.setIfInBounds_toArray, List.set_cons_zero, List.set_cons_succ]
  refine wpAnyH_take (i := 3) (v := .int .u64 60) rfl (by kernel_rfl) (by kernel_rfl) (by kernel_rfl) (fun _ _ _ h => h) (Or.inl ⟨by rfl, ?_⟩) hHeld0 ?_
  · (intro w hSw; (try dsimp only at hSw); go_simp; all_goals (try rfl))
  simp only [Act.put, List.getElem_toArray, List.getElem_cons_zero, List.getElem_cons_succ, List.setIfInBounds_toArray, List.set_cons_zero, List.set_cons_succ]
  refine wpAnyH_take (i := 5) (v := .pointer (some ⟨X, 0, none⟩)) rfl (by kernel_rfl) (by kernel_rfl) (by kernel_rfl) (fun _ _ _ h => h) (Or.inl ⟨by rfl, ?_⟩) hHeld0 ?_
  · (intro w hSw; (try dsimp only at hSw); go_simp; all_goals (try rfl))
  simp only [Act.put, List.getElem_toArray, List.getElem_cons_zero, List.getElem_cons_succ, List.setIfInBounds_toArray, List.set_cons_zero, List.set_cons_succ]
  refine wpAnyH_take (i := 6) (v := .int .i64 6040) rfl (by kernel_rfl) (by kernel_rfl) (by kernel_rfl) (fun _ _ _ h => h) (Or.inl ⟨by rfl, ?_⟩) hHeld0 ?_
  · (intro w hSw; (try dsimp only at hSw); go_simp; all_goals (try rfl))
  simp only [Act.put, List.getElem_toArray, List.getElem_cons_zero, List.getElem_cons_succ, List.setIfInBounds_toArray, List.set_cons_zero, List.set_cons_succ]
  refine wpAnyH_take (i := 7) (v := .int .i64 40) rfl (by kernel_rfl) (by kernel_rfl) (by kernel_rfl) (fun _ _ _ h => h) (Or.inl ⟨by rfl, ?_⟩) hHeld0 ?_
  · (intro w hSw; (try dsimp only at hSw); go_simp; all_goals (try rfl))
  simp only [Act.put, List.getElem_toArray, List.getElem_cons_zero, List.getElem_cons_succ, List.setIfInBounds_toArray, List.set_cons_zero, List.set_cons_succ]
  refine wpAnyH_take (i := 8) (v := .int .u64 40) rfl (by kernel_rfl) (by kernel_rfl) (by kernel_rfl) (fun _ _ _ h => h) (Or.inl ⟨by rfl, ?_⟩) hHeld0 ?_
  · (intro w hSw; (try dsimp only at hSw); go_simp; all_goals (try rfl))
  simp only [Act.put, List.getElem_toArray, List.getElem_cons_zero, List.getElem_cons_succ, List.setIfInBounds_toArray, List.set_cons_zero, List.set_cons_succ]
  refine wpAnyH_ready (rs := [4]) (by kernel_rfl) (by simp) ?_
  refine AllReadyH.cons (o := ?o1) ?ho1 (fun K hK => ?_) AllReadyH.nil
  case ho1 => (first | (simp only [List.getElem?_toArray, List.getElem?_cons_succ, List.getElem?_cons_zero]; done) | (simp only [List.getElem?_toArray, List.getElem?_cons_succ, List.getElem?_cons_zero]; rfl))
  go_simp
  go_at_call 73
  refine (big73 60 2 2 _ rfl (by decide) (by decide) (by decide)).mono ?_
  rintro e w5 ⟨rfl, ht5⟩
  have HT5 := Kp.mk (((Still.refl w1).drew).strans ht5); clear ht5
  go_simp
  refine hK.out _ _ (HC0.out _ HT5.out) (fun hHeld1 => ?_)
  clear hK K
  try simp only [Act.put, List.getElem_toArray, List.getElem_cons_zero, List.getElem_cons_succ, List.setIfInBounds_toArray, List.set_cons_zero, List.set_cons_succ]
  refine wpAnyH_ready (rs := [9]) (by kernel_rfl) (by simp) ?_
  refine AllReadyH.cons (o := ?o2) ?ho2 (fun K hK => ?_) AllReadyH.nil
  case ho2 => (first | (simp only [List.getElem?_toArray, List.getElem?_cons_succ, List.getElem?_cons_zero]; done) | (simp only [List.getElem?_toArray, List.getElem?_cons_succ, List.getElem?_cons_zero]; rfl))
  go_simp
  go_at_call 73
  refine (big73 40 2 2 _ rfl (by decide) (by decide) (by decide)).mono ?_
  rintro e w6 ⟨rfl, ht6⟩
  have HT6 := Kp.mk (HT5.out.strans ht6); clear ht6
  go_simp
  refine hK.out _ _ (HC0.out _ HT6.out) (fun hHeld2 => ?_)
  clear hK K
  try simp only [Act.put, List.getElem_toArray, List.getElem_cons_zero, List.getElem_cons_succ, List.setIfInBounds_toArray, List.set_cons_zero, List.set_cons_succ]
  refine wpAnyH_ready (rs := [10]) (by kernel_rfl) (by simp) ?_
  refine AllReadyH.cons (o := ?o3) ?ho3 (fun K hK => ?_) AllReadyH.nil
  case ho3 => (first | (simp only [List.getElem?_toArray, List.getElem?_cons_succ, List.getElem?_cons_zero]; done) | (simp only [List.getElem?_toArray, List.getElem?_cons_succ, List.getElem?_cons_zero]; rfl))
  go_simp
  refine hK.out _ _ (HC0.out _ HT6.out) (fun hHeld3 => ?_)
  clear hK K
  try simp only [Act.put, List.getElem_toArray, List.getElem_cons_zero, List.getElem_cons_succ, List.setIfInBounds_toArray, List.set_cons_zero, List.set_cons_succ]
  refine wpAnyH_ready (rs := [11]) (by kernel_rfl) (by simp) ?_
  refine AllReadyH.cons (o := ?o4) ?ho4 (fun K hK => ?_) AllReadyH.nil
  case ho4 => (first | (simp only [List.getElem?_toArray, List.getElem?_cons_succ, List.getElem?_cons_zero]; done) | (simp only [List.getElem?_toArray, List.getElem?_cons_succ, List.getElem?_cons_zero]; rfl))
  go_simp
  refine hK.out _ _ (HC0.out _ HT6.out) (fun hHeld4 => ?_)
  clear hK K
  try simp only [Act.put, List.getElem_toArray, List.getElem_cons_zero, List.getElem_cons_succ, List.setIfInBounds_toArray, List.set_cons_zero, List.set_cons_succ]
  refine wpAnyH_done (by kernel_rfl) ?_ _
  go_wp2_with fail
  refine (parts85 6040 _).mono ?_
  rintro e w1 ⟨rfl, rfl⟩
  rw [show partsL 6040 = [101, 107, 102] from rfl]
  have hps := ps_size ([101, 107, 102] : List UInt8)
  simp only [List.length_cons, List.length_nil] at hps
  rw [ps_app, show be 60 2 ++ be 40 2 = m.pre 60 40 [101, 107, 102] 0 by simp [M.pre, M.encPs]]
  go_wp2_with fail
  go_loopw [4, 6] (fun s i wr => ∃ k : Nat, k ≤ 3 ∧ i = .int .i64 k ∧ s = .string (ps (m.pre 60 40 [101, 107, 102] k)) ∧ Kp (Still w1 wr)) (fun _ i _ => 3 - (intOf i).toNat)
  case atStart => exact ⟨0, by omega, rfl, rfl, ⟨HT6.out⟩⟩
  case round =>
    obtain ⟨k, hk, rfl, rfl, HTR⟩ := hrel
    match k, hk with
    | 0, hk =>
      have hix := fun W => (ps_index ([101, 107, 102] : List UInt8) 0 (by decide) W).trans (show _ = Result.ok (Value.int .u8 101) W from rfl)
      have hadd := str_add (ps (m.pre 60 40 [101, 107, 102] 0)) (ps (m.encP 101)) (by rw [ps_size, ps_size]; have := HPL.out 0; have := M.encP_len HO.out (c := 101) (by decide); omega)
      have y := (HM1.out.still HTR.out).ex
      have HE := Kp.mk (show be m.ex.size 1 ++ m.ex.data.toList = m.encP 101 from (txt_enc m.ex).trans rfl)
      go_wp2_with fail
      refine (text88 m.ex _ HO.out.ex).mono ?_
      rintro e w5 ⟨rfl, ht5⟩
      rw [HE.out]
      have HT5 := Kp.mk (HTR.out.strans ht5); clear ht5 y
      go_wp2_with fail
      go_roundw
      case rel => exact ⟨1, by omega, by go_num, by rw [ps_app, M.pre_succ _ _ _ _ 0 (by decide)]; rfl, HT5⟩
      case measure => go_light; simp only [intOf]; omega
    | 1, hk =>
      have hix := fun W => (ps_index ([101, 107, 102] : List UInt8) 1 (by decide) W).trans (show _ = Result.ok (Value.int .u8 107) W from rfl)
      have hadd := str_add (ps (m.pre 60 40 [101, 107, 102] 1)) (ps (m.encP 107)) (by rw [ps_size, ps_size]; have := HPL.out 1; have := M.encP_len HO.out (c := 107) (by decide); omega)
      have y := (HM1.out.still HTR.out).ky
      have HE := Kp.mk (show be m.ky.size 1 ++ m.ky.data.toList = m.encP 107 from (txt_enc m.ky).trans rfl)
      go_wp2_with fail
      refine (text88 m.ky _ HO.out.ky).mono ?_
      rintro e w5 ⟨rfl, ht5⟩
      rw [HE.out]
      have HT5 := Kp.mk (HTR.out.strans ht5); clear ht5 y
      go_wp2_with fail
      go_roundw
      case rel => exact ⟨2, by omega, by go_num, by rw [ps_app, M.pre_succ _ _ _ _ 1 (by decide)]; rfl, HT5⟩
      case measure => go_light; simp only [intOf]; omega
    | 2, hk =>
      have hix := fun W => (ps_index ([101, 107, 102] : List UInt8) 2 (by decide) W).trans (show _ = Result.ok (Value.int .u8 102) W from rfl)
      have hadd := str_add (ps (m.pre 60 40 [101, 107, 102] 2)) (ps (m.encP 102)) (by rw [ps_size, ps_size]; have := HPL.out 2; have := M.encP_len HO.out (c := 102) (by decide); omega)
      have y := (HM1.out.still HTR.out).fl
      have HE := Kp.mk (show [if m.fl = true then 1 else 0] = m.encP 102 from rfl)
      go_wp2_with fail
      refine (flag89 m.fl _).mono ?_
      rintro e w5 ⟨rfl, ht5⟩
      rw [HE.out]
      have HT5 := Kp.mk (HTR.out.strans ht5); clear ht5 y
      go_wp2_with fail
      go_roundw
      case rel => exact ⟨3, by omega, by go_num, by rw [ps_app, M.pre_succ _ _ _ _ 2 (by decide)]; rfl, HT5⟩
      case measure => go_light; simp only [intOf]; omega
    | 3, hk =>
      go_wp2_with fail
      go_ret2
      exact ⟨by rw [HENC.out]; rfl, HT1.out.strans HTR.out⟩
    | k + 4, hk => exact absurd hk (by omega)
set_option maxHeartbeats 4000000 in
theorem putM_6050 (m : M) (hid : m.id = 6050) (hm : m.mayB = true) (hO : m.Ok) (S : Nat → Prop) (A : Option Addr) (n : Nat) (w : World) (hS : Sl w S A m.ar) :
    Calls Try.prog 71 #[m.val A n] w (RetPM w m.enc) := by
  have hparts : partsL m.id = [99, 120, 101, 107] := by rw [hid]; rfl
  have HENC := Kp.mk (show m.enc = m.pre 60 50 [99, 120, 101, 107] 4 by
    unfold M.enc M.pre
    rw [hparts, hid]; rfl)
  obtain ⟨g1, g2, g3⟩ := M.sized hm
  have HG := Kp.mk g1; have HG2 := Kp.mk g2; have HG3 := Kp.mk g3
  have HO := Kp.mk hO
  have HMB := Kp.mk hm
  have HM := Kp.mk (MAt.new (c := n) m hS)
  have HID := Kp.mk hid
  have HPL := Kp.mk (fun k => M.pre_len hO 60 50 [99, 120, 101, 107] k (by decide) (by decide))
  have HPP := Kp.mk hparts
  have hwt := u64w_eq m.co
  have hwc := u64w_eq m.cn
  have HWT := Kp.mk (u64w_lt m.co); have HWC := Kp.mk (u64w_lt m.cn)
  clear hO hm g1 g2 g3 hid hparts hS
  go_enter Try.func71, Try.ntmps71
  go_wp2_with fail
  refine (mayM_in m HG.out HG2.out HG3.out HO.out S A n _ HM.out.sl).mono ?_
  rintro e w1 ⟨rfl, ht1⟩
  rw [HMB.out]
  have HT1 := Kp.mk (((Still.refl w).alloc _).strans ht1)
  have HM1 := Kp.mk (HM.out.still ht1)
  have HC0 := Kp.mk (fun W (h : Still w1 W) => show W.cell? ⟨w.heap.size, 0, none⟩ = some (.int .i64 6050) by
    have := (HM1.out.still h).id
    rw [HID.out] at this; exact this)
  have hadd0 := str_add (ps (be 60 2)) (ps (be 50 2)) (by simp only [ps_size, be_length]; decide)
  have hsz := HT1.out.size
  clear ht1 hsz HM
  generalize w.heap.size = X at *
  go_upto_region 3 with (fail)
  refine wp_region_held_drew (S := fun W => W.cell? ⟨X, 0, none⟩ = some (.int .i64 6050)) (by kernel_rfl) (HC0.out _ ((Still.refl w1).drew)) (fun hHeld0 => ?_)
  refine wpAnyH_take (i := 0) (v := .pointer (some ⟨X, 0, none⟩)) rfl (by kernel_rfl) (by kernel_rfl) (by kernel_rfl) (fun _ _ _ h => h) (Or.inl ⟨by rfl, ?_⟩) hHeld0 ?_
  · (intro w hSw; (try dsimp only at hSw); go_simp; all_goals (try rfl))
  simp only [Act.put, List.getElem_toArray, List.getElem_cons_zero, List.getElem_cons_succ, List.setIfInBounds_toArray, List.set_cons_zero, List.set_cons_succ]
  refine wpAnyH_take (i := 1) (v := .int .i64 6050) rfl (by kernel_rfl) (by kernel_rfl) (by kernel_rfl) (fun _ _ _ h => h) (Or.inl ⟨by rfl, ?_⟩) hHeld0 ?_
  · (intro w hSw; (try dsimp only at hSw); go_simp; all_goals (try rfl))
  simp only [Act.put, List.getElem_toArray, List.getElem_cons_zero, List.getElem_cons_succ, List.setIfInBounds_toArray, List.set_cons_zero, List.set_cons_succ]
  refine wpAnyH_take (i := 2) (v := .int .i64 60) rfl (by kernel_rfl) (by kernel_rfl) (by kernel_rfl) (fun _ _ _ h => h) (Or.inl ⟨by rfl, ?_⟩) hHeld0 ?_
  · (intro w hSw; (try dsimp only at hSw); go_simp; all_goals (try rfl))
  simp only [Act.put, List.getElem_toArray, List.getElem_cons_zero, List.getElem_cons_succ, List.setIfInBounds_toArray, List.set_cons_zero, List.set_cons_succ]
  refine wpAnyH_take (i := 3) (v := .int .u64 60) rfl (by kernel_rfl) (by kernel_rfl) (by kernel_rfl) (fun _ _ _ h => h) (Or.inl ⟨by rfl, ?_⟩) hHeld0 ?_
  · (intro w hSw; (try dsimp only at hSw); go_simp; all_goals (try rfl))
  simp only [Act.put, List.getElem_toArray, List.getElem_cons_zero, List.getElem_cons_succ, List.setIfInBounds_toArray, List.set_cons_zero, List.set_cons_succ]
  refine wpAnyH_take (i := 5) (v := .pointer (some ⟨X, 0, none⟩)) rfl (by kernel_rfl) (by kernel_rfl) (by kernel_rfl) (fun _ _ _ h => h) (Or.inl ⟨by rfl, ?_⟩) hHeld0 ?_
  · (intro w hSw; (try dsimp only at hSw); go_simp; all_goals (try rfl))
  simp only [Act.put, List.getElem_toArray, List.getElem_cons_zero, List.getElem_cons_succ, List.setIfInBounds_toArray, List.set_cons_zero, List.set_cons_succ]
  refine wpAnyH_take (i := 6) (v := .int .i64 6050) rfl (by kernel_rfl) (by kernel_rfl) (by kernel_rfl) (fun _ _ _ h => h) (Or.inl ⟨by rfl, ?_⟩) hHeld0 ?_
  · (intro w hSw; (try dsimp only at hSw); go_simp; all_goals (try rfl))
  simp only [Act.put, List.getElem_toArray, List.getElem_cons_zero, List.getElem_cons_succ, List.setIfInBounds_toArray, List.set_cons_zero, List.set_cons_succ]
  refine wpAnyH_take (i := 7) (v := .int .i64 50) rfl (by kernel_rfl) (by kernel_rfl) (by kernel_rfl) (fun _ _ _ h => h) (Or.inl ⟨by rfl, ?_⟩) hHeld0 ?_
  · (intro w hSw; (try dsimp only at hSw); go_simp; all_goals (try rfl))
  simp only [Act.put, List.getElem_toArray, List.getElem_cons_zero, List.getElem_cons_succ, List.setIfInBounds_toArray, List.set_cons_zero, List.set_cons_succ]
  refine wpAnyH_take (i := 8) (v := .int .u64 50) rfl (by kernel_rfl) (by kernel_rfl) (by kernel_rfl) (fun _ _ _ h => h) (Or.inl ⟨by rfl, ?_⟩) hHeld0 ?_
  · (intro w hSw; (try dsimp only at hSw); go_simp; all_goals (try rfl))
  simp only [Act.put, List.getElem_toArray, List.getElem_cons_zero, List.getElem_cons_succ, List.setIfInBounds_toArray, List.set_cons_zero, List.set_cons_succ]
  refine wpAnyH_ready (rs := [4]) (by kernel_rfl) (by simp) ?_
  refine AllReadyH.cons (o := ?o1) ?ho1 (fun K hK => ?_) AllReadyH.nil
  case ho1 => (first | (simp only [List.getElem?_toArray, List.getElem?_cons_succ, List.getElem?_cons_zero]; done) | (simp only [List.getElem?_toArray, List.getElem?_cons_succ, List.getElem?_cons_zero]; rfl))
  go_simp
  go_at_call 73
  refine (big73 60 2 2 _ rfl (by decide) (by decide) (by decide)).mono ?_
  rintro e w5 ⟨rfl, ht5⟩
  have HT5 := Kp.mk (((Still.refl w1).drew).strans ht5); clear ht5
  go_simp
  refine hK.out _ _ (HC0.out _ HT5.out) (fun hHeld1 => ?_)
  clear hK K
  try simp only [Act.put, List.getElem_toArray, List.getElem_cons_zero, List.getElem_cons_succ, List.setIfInBounds_toArray, List.set_cons_zero, List.set_cons_succ]
  refine wpAnyH_ready (rs := [9]) (by kernel_rfl) (by simp) ?_
  refine AllReadyH.cons (o := ?o2) ?ho2 (fun K hK => ?_) AllReadyH.nil
  case ho2 => (first | (simp only [List.getElem?_toArray, List.getElem?_cons_succ, List.getElem?_cons_zero]; done) | (simp only [List.getElem?_toArray, List.getElem?_cons_succ, List.getElem?_cons_zero]; rfl))
  go_simp
  go_at_call 73
  refine (big73 50 2 2 _ rfl (by decide) (by decide) (by decide)).mono ?_
  rintro e w6 ⟨rfl, ht6⟩
  have HT6 := Kp.mk (HT5.out.strans ht6); clear ht6
  go_simp
  refine hK.out _ _ (HC0.out _ HT6.out) (fun hHeld2 => ?_)
  clear hK K
  try simp only [Act.put, List.getElem_toArray, List.getElem_cons_zero, List.getElem_cons_succ, List.setIfInBounds_toArray, List.set_cons_zero, List.set_cons_succ]
  refine wpAnyH_ready (rs := [10]) (by kernel_rfl) (by simp) ?_
  refine AllReadyH.cons (o := ?o3) ?ho3 (fun K hK => ?_) AllReadyH.nil
  case ho3 => (first | (simp only [List.getElem?_toArray, List.getElem?_cons_succ, List.getElem?_cons_zero]; done) | (simp only [List.getElem?_toArray, List.getElem?_cons_succ, List.getElem?_cons_zero]; rfl))
  go_simp
  refine hK.out _ _ (HC0.out _ HT6.out) (fun hHeld3 => ?_)
  clear hK K
  try simp only [Act.put, List.getElem_toArray, List.getElem_cons_zero, List.getElem_cons_succ, List.setIfInBounds_toArray, List.set_cons_zero, List.set_cons_succ]
  refine wpAnyH_ready (rs := [11]) (by kernel_rfl) (by simp) ?_
  refine AllReadyH.cons (o := ?o4) ?ho4 (fun K hK => ?_) AllReadyH.nil
  case ho4 => (first | (simp only [List.getElem?_toArray, List.getElem?_cons_succ, List.getElem?_cons_zero]; done) | (simp only [List.getElem?_toArray, List.getElem?_cons_succ, List.getElem?_cons_zero]; rfl))
  go_simp
  refine hK.out _ _ (HC0.out _ HT6.out) (fun hHeld4 => ?_)
  clear hK K
  try simp only [Act.put, List.getElem_toArray, List.getElem_cons_zero, List.getElem_cons_succ, List.setIfInBounds_toArray, List.set_cons_zero, List.set_cons_succ]
  refine wpAnyH_done (by kernel_rfl) ?_ _
  go_wp2_with fail
  refine (parts85 6050 _).mono ?_
  rintro e w1 ⟨rfl, rfl⟩
  rw [show partsL 6050 = [99, 120, 101, 107] from rfl]
  have hps := ps_size ([99, 120, 101, 107] : List UInt8)
  simp only [List.length_cons, List.length_nil] at hps
  rw [ps_app, show be 60 2 ++ be 50 2 = m.pre 60 50 [99, 120, 101, 107] 0 by simp [M.pre, M.encPs]]
  go_wp2_with fail
  go_loopw [4, 6] (fun s i wr => ∃ k : Nat, k ≤ 4 ∧ i = .int .i64 k ∧ s = .string (ps (m.pre 60 50 [99, 120, 101, 107] k)) ∧ Kp (Still w1 wr)) (fun _ i _ => 4 - (intOf i).toNat)
  case atStart => exact ⟨0, by omega, rfl, rfl, ⟨HT6.out⟩⟩
  case round =>
    obtain ⟨k, hk, rfl, rfl, HTR⟩ := hrel
    match k, hk with
    | 0, hk =>
      have hix := fun W => (ps_index ([99, 120, 101, 107] : List UInt8) 0 (by decide) W).trans (show _ = Result.ok (Value.int .u8 99) W from rfl)
      have hadd := str_add (ps (m.pre 60 50 [99, 120, 101, 107] 0)) (ps (m.encP 99)) (by rw [ps_size, ps_size]; have := HPL.out 0; have := M.encP_len HO.out (c := 99) (by decide); omega)
      have y := (HM1.out.still HTR.out).co
      have HE := Kp.mk (show be ((u64w m.co : Int)).toNat 2 = m.encP 99 from rfl)
      go_wp2_with fail
      refine (big73 (u64w m.co : Int) 2 2 _ rfl (by decide) (by omega) HWT.out).mono ?_
      rintro e w5 ⟨rfl, ht5⟩
      rw [HE.out]
      have HT5 := Kp.mk (HTR.out.strans ht5); clear ht5 y
      go_wp2_with fail
      go_roundw
      case rel => exact ⟨1, by omega, by go_num, by rw [ps_app, M.pre_succ _ _ _ _ 0 (by decide)]; rfl, HT5⟩
      case measure => go_light; simp only [intOf]; omega
    | 1, hk =>
      have hix := fun W => (ps_index ([99, 120, 101, 107] : List UInt8) 1 (by decide) W).trans (show _ = Result.ok (Value.int .u8 120) W from rfl)
      have hadd := str_add (ps (m.pre 60 50 [99, 120, 101, 107] 1)) (ps (m.encP 120)) (by rw [ps_size, ps_size]; have := HPL.out 1; have := M.encP_len HO.out (c := 120) (by decide); omega)
      have y := (HM1.out.still HTR.out).tx
      have HE := Kp.mk (show be m.tx.size 1 ++ m.tx.data.toList = m.encP 120 from (txt_enc m.tx).trans rfl)
      go_wp2_with fail
      refine (text88 m.tx _ HO.out.tx).mono ?_
      rintro e w5 ⟨rfl, ht5⟩
      rw [HE.out]
      have HT5 := Kp.mk (HTR.out.strans ht5); clear ht5 y
      go_wp2_with fail
      go_roundw
      case rel => exact ⟨2, by omega, by go_num, by rw [ps_app, M.pre_succ _ _ _ _ 1 (by decide)]; rfl, HT5⟩
      case measure => go_light; simp only [intOf]; omega
    | 2, hk =>
      have hix := fun W => (ps_index ([99, 120, 101, 107] : List UInt8) 2 (by decide) W).trans (show _ = Result.ok (Value.int .u8 101) W from rfl)
      have hadd := str_add (ps (m.pre 60 50 [99, 120, 101, 107] 2)) (ps (m.encP 101)) (by rw [ps_size, ps_size]; have := HPL.out 2; have := M.encP_len HO.out (c := 101) (by decide); omega)
      have y := (HM1.out.still HTR.out).ex
      have HE := Kp.mk (show be m.ex.size 1 ++ m.ex.data.toList = m.encP 101 from (txt_enc m.ex).trans rfl)
      go_wp2_with fail
      refine (text88 m.ex _ HO.out.ex).mono ?_
      rintro e w5 ⟨rfl, ht5⟩
      rw [HE.out]
      have HT5 := Kp.mk (HTR.out.strans ht5); clear ht5 y
      go_wp2_with fail
      go_roundw
      case rel => exact ⟨3, by omega, by go_num, by rw [ps_app, M.pre_succ _ _ _ _ 2 (by decide)]; rfl, HT5⟩
      case measure => go_light; simp only [intOf]; omega
    | 3, hk =>
      have hix := fun W => (ps_index ([99, 120, 101, 107] : List UInt8) 3 (by decide) W).trans (show _ = Result.ok (Value.int .u8 107) W from rfl)
      have hadd := str_add (ps (m.pre 60 50 [99, 120, 101, 107] 3)) (ps (m.encP 107)) (by rw [ps_size, ps_size]; have := HPL.out 3; have := M.encP_len HO.out (c := 107) (by decide); omega)
      have y := (HM1.out.still HTR.out).ky
      have HE := Kp.mk (show be m.ky.size 1 ++ m.ky.data.toList = m.encP 107 from (txt_enc m.ky).trans rfl)
      go_wp2_with fail
      refine (text88 m.ky _ HO.out.ky).mono ?_
      rintro e w5 ⟨rfl, ht5⟩
      rw [HE.out]
      have HT5 := Kp.mk (HTR.out.strans ht5); clear ht5 y
      go_wp2_with fail
      go_roundw
      case rel => exact ⟨4, by omega, by go_num, by rw [ps_app, M.pre_succ _ _ _ _ 3 (by decide)]; rfl, HT5⟩
      case measure => go_light; simp only [intOf]; omega
    | 4, hk =>
      go_wp2_with fail
      go_ret2
      exact ⟨by rw [HENC.out]; rfl, HT1.out.strans HTR.out⟩
    | k + 5, hk => exact absurd hk (by omega)
end Go.Proofs.Ytaeainkfllfdfaa
/- E9: The reference's MayMethod at every call; bears. -/
namespace Go.Proofs.Ytaeainkfllfdfaa
open Go.RowKit
set_option linter.unusedVariables false
set_option linter.unusedSimpArgs false
set_option maxRecDepth 100000

set_option maxHeartbeats 1000000 in
theorem bears69 (id : Int) (w : World) : Calls Try.prog 69 #[.int .i64 id] w fun e w' => e = .returned (.bool (bearsB id)) ∧ Still w w' := by
  go_enter Try.func69, Try.ntmps69
  cases h1 : (id == 6040) <;> cases h2 : (id == 6050) <;> cases h3 : (id == 6060) <;> cases h4 : (id == 6071)
  all_goals
    go_wp2_with fail
    go_ret
    exact ⟨by simp [bearsB, h1, h2, h3, h4], by repeat' (first | exact Tch.refl _ _ | refine Tch.drew ?_)⟩

theorem Kp.iff_not {p : Prop} {b : Bool} (h : b = true → p) (hn : ¬ p) : b = false := by
  cases b with
  | false => rfl
  | true => exact absurd (h rfl) hn
set_option maxHeartbeats 4000000 in
theorem mayM68 (m : M) (hO : m.Ok) (S : Nat → Prop) (A : Option Addr) (n : Nat) (w : World) (hS : Sl w S A m.ar) :
    Calls Try.prog 68 #[m.val A n] w fun e w' => e = .returned (.bool m.mayB) ∧ Still w w' := by
  by_cases hp : partsL m.id = [45]
  · rw [Kp.iff_not (fun h => (M.sized h).2.1) (fun h => h hp)]
    have hb : ((ps (partsL m.id)).toList == [45]) = true := by rw [ps_list, hp]; rfl
    clear hS hO hp
    go_enter Try.func68, Try.ntmps68
    go_wp2_with fail
    refine (parts85 m.id _).mono ?_
    rintro e w1 ⟨rfl, rfl⟩
    go_wp2_with fail
    go_ret
    exact ⟨rfl, by repeat' (first | exact Tch.refl _ _ | refine Tch.alloc ?_ _ | refine Tch.drew ?_)⟩
  have hb : ((ps (partsL m.id)).toList == [45]) = false := by rw [ps_list]; simpa using hp
  by_cases z0 : 255 < m.nm.size
  · rw [Kp.iff_not (fun h => (M.sized h).1.1) (by omega)]
    clear hS hO hp
    go_enter Try.func68, Try.ntmps68
    go_wp2_with fail
    refine (parts85 m.id _).mono ?_
    rintro e w1 ⟨rfl, rfl⟩
    go_wp2_with fail
    go_ret
    exact ⟨rfl, by repeat' (first | exact Tch.refl _ _ | refine Tch.alloc ?_ _ | refine Tch.drew ?_)⟩
  replace z0 : m.nm.size ≤ 255 := by omega
  by_cases z1 : 255 < m.ty.size
  · rw [Kp.iff_not (fun h => (M.sized h).1.2.1) (by omega)]
    clear hS hO hp
    go_enter Try.func68, Try.ntmps68
    go_wp2_with fail
    refine (parts85 m.id _).mono ?_
    rintro e w1 ⟨rfl, rfl⟩
    go_wp2_with fail
    go_ret
    exact ⟨rfl, by repeat' (first | exact Tch.refl _ _ | refine Tch.alloc ?_ _ | refine Tch.drew ?_)⟩
  replace z1 : m.ty.size ≤ 255 := by omega
  by_cases z2 : 255 < m.ex.size
  · rw [Kp.iff_not (fun h => (M.sized h).1.2.2.1) (by omega)]
    clear hS hO hp
    go_enter Try.func68, Try.ntmps68
    go_wp2_with fail
    refine (parts85 m.id _).mono ?_
    rintro e w1 ⟨rfl, rfl⟩
    go_wp2_with fail
    go_ret
    exact ⟨rfl, by repeat' (first | exact Tch.refl _ _ | refine Tch.alloc ?_ _ | refine Tch.drew ?_)⟩
  replace z2 : m.ex.size ≤ 255 := by omega
  by_cases z3 : 255 < m.ky.size
  · rw [Kp.iff_not (fun h => (M.sized h).1.2.2.2.1) (by omega)]
    clear hS hO hp
    go_enter Try.func68, Try.ntmps68
    go_wp2_with fail
    refine (parts85 m.id _).mono ?_
    rintro e w1 ⟨rfl, rfl⟩
    go_wp2_with fail
    go_ret
    exact ⟨rfl, by repeat' (first | exact Tch.refl _ _ | refine Tch.alloc ?_ _ | refine Tch.drew ?_)⟩
  replace z3 : m.ky.size ≤ 255 := by omega
  by_cases z4 : 255 < m.tx.size
  · rw [Kp.iff_not (fun h => (M.sized h).1.2.2.2.2.1) (by omega)]
    clear hS hO hp
    go_enter Try.func68, Try.ntmps68
    go_wp2_with fail
    refine (parts85 m.id _).mono ?_
    rintro e w1 ⟨rfl, rfl⟩
    go_wp2_with fail
    go_ret
    exact ⟨rfl, by repeat' (first | exact Tch.refl _ _ | refine Tch.alloc ?_ _ | refine Tch.drew ?_)⟩
  replace z4 : m.tx.size ≤ 255 := by omega
  by_cases z5 : m.co < 0
  · rw [Kp.iff_not (fun h => (M.sized h).1.2.2.2.2.2.1) (by omega)]
    clear hS hO hp
    go_enter Try.func68, Try.ntmps68
    go_wp2_with fail
    refine (parts85 m.id _).mono ?_
    rintro e w1 ⟨rfl, rfl⟩
    go_wp2_with fail
    go_ret
    exact ⟨rfl, by repeat' (first | exact Tch.refl _ _ | refine Tch.alloc ?_ _ | refine Tch.drew ?_)⟩
  replace z5 : 0 ≤ m.co := by omega
  by_cases z6 : 65535 < m.co
  · rw [Kp.iff_not (fun h => (M.sized h).1.2.2.2.2.2.2.1) (by omega)]
    clear hS hO hp
    go_enter Try.func68, Try.ntmps68
    go_wp2_with fail
    refine (parts85 m.id _).mono ?_
    rintro e w1 ⟨rfl, rfl⟩
    go_wp2_with fail
    go_ret
    exact ⟨rfl, by repeat' (first | exact Tch.refl _ _ | refine Tch.alloc ?_ _ | refine Tch.drew ?_)⟩
  replace z6 : m.co ≤ 65535 := by omega
  by_cases z7 : m.cn < 0
  · rw [Kp.iff_not (fun h => (M.sized h).1.2.2.2.2.2.2.2.1) (by omega)]
    clear hS hO hp
    go_enter Try.func68, Try.ntmps68
    go_wp2_with fail
    refine (parts85 m.id _).mono ?_
    rintro e w1 ⟨rfl, rfl⟩
    go_wp2_with fail
    go_ret
    exact ⟨rfl, by repeat' (first | exact Tch.refl _ _ | refine Tch.alloc ?_ _ | refine Tch.drew ?_)⟩
  replace z7 : 0 ≤ m.cn := by omega
  by_cases z8 : 4294967295 < m.cn
  · rw [Kp.iff_not (fun h => (M.sized h).1.2.2.2.2.2.2.2.2) (by omega)]
    clear hS hO hp
    go_enter Try.func68, Try.ntmps68
    go_wp2_with fail
    refine (parts85 m.id _).mono ?_
    rintro e w1 ⟨rfl, rfl⟩
    go_wp2_with fail
    go_ret
    exact ⟨rfl, by repeat' (first | exact Tch.refl _ _ | refine Tch.alloc ?_ _ | refine Tch.drew ?_)⟩
  replace z8 : m.cn ≤ 4294967295 := by omega
  by_cases hmt : m.ar.mayTab 1 = true
  · exact mayM_in m ⟨z0, z1, z2, z3, z4, z5, z6, z7, z8⟩ hp hmt hO S A n w hS
  rw [Kp.iff_not (fun h => (M.sized h).2.2) hmt]
  have hmf := Kp.mk (show m.ar.mayTab 1 = false by simpa using hmt)
  have HM := Kp.mk (MAt.new (c := n) m hS)
  have HO := Kp.mk hO
  clear hS hO hp hmt
  go_enter Try.func68, Try.ntmps68
  go_wp2_with fail
  refine (parts85 m.id _).mono ?_
  rintro e w1 ⟨rfl, rfl⟩
  go_wp2_with fail
  refine (mayTable70 m.ar A n S _ HO.out.arl HO.out.ar HM.out.sl).mono ?_
  rintro e w1 ⟨rfl, ht⟩
  rw [hmf.out]
  have HT := Kp.mk (((Still.refl w).alloc _).strans ht)
  clear ht HM
  go_wp2_with fail
  go_ret
  exact ⟨rfl, HT.out⟩
end Go.Proofs.Ytaeainkfllfdfaa
/- E8b: The reference's PutMethod at a call with content that may be: its bytes as a string. -/
namespace Go.Proofs.Ytaeainkfllfdfaa
open Go.RowKit
set_option linter.unusedVariables false
set_option linter.unusedSimpArgs false
set_option maxRecDepth 100000

set_option maxHeartbeats 4000000 in
theorem putM_6060 (m : M) (hid : m.id = 6060) (hm : m.mayB = true) (hO : m.Ok) (S : Nat → Prop) (A : Option Addr) (n : Nat) (w : World) (hS : Sl w S A m.ar) :
    Calls Try.prog 71 #[m.val A n] w (RetPM w m.enc) := by
  have hparts : partsL m.id = [120, 116, 102, 101, 107] := by rw [hid]; rfl
  have HENC := Kp.mk (show m.enc = m.pre 60 60 [120, 116, 102, 101, 107] 5 by
    unfold M.enc M.pre
    rw [hparts, hid]; rfl)
  obtain ⟨g1, g2, g3⟩ := M.sized hm
  have HG := Kp.mk g1; have HG2 := Kp.mk g2; have HG3 := Kp.mk g3
  have HO := Kp.mk hO
  have HMB := Kp.mk hm
  have HM := Kp.mk (MAt.new (c := n) m hS)
  have HID := Kp.mk hid
  have HPL := Kp.mk (fun k => M.pre_len hO 60 60 [120, 116, 102, 101, 107] k (by decide) (by decide))
  have HPP := Kp.mk hparts
  have hwt := u64w_eq m.co
  have hwc := u64w_eq m.cn
  have HWT := Kp.mk (u64w_lt m.co); have HWC := Kp.mk (u64w_lt m.cn)
  clear hO hm g1 g2 g3 hid hparts hS
  go_enter Try.func71, Try.ntmps71
  go_wp2_with fail
  refine (mayM_in m HG.out HG2.out HG3.out HO.out S A n _ HM.out.sl).mono ?_
  rintro e w1 ⟨rfl, ht1⟩
  rw [HMB.out]
  have HT1 := Kp.mk (((Still.refl w).alloc _).strans ht1)
  have HM1 := Kp.mk (HM.out.still ht1)
  have HC0 := Kp.mk (fun W (h : Still w1 W) => show W.cell? ⟨w.heap.size, 0, none⟩ = some (.int .i64 6060) by
    have := (HM1.out.still h).id
    rw [HID.out] at this; exact this)
  have hadd0 := str_add (ps (be 60 2)) (ps (be 60 2)) (by simp only [ps_size, be_length]; decide)
  have hsz := HT1.out.size
  clear ht1 hsz HM
  generalize w.heap.size = X at *
  go_upto_region 3 with (fail)
  refine wp_region_held_drew (S := fun W => W.cell? ⟨X, 0, none⟩ = some (.int .i64 6060)) (by kernel_rfl) (HC0.out _ ((Still.refl w1).drew)) (fun hHeld0 => ?_)
  refine wpAnyH_take (i := 0) (v := .pointer (some ⟨X, 0, none⟩)) rfl (by kernel_rfl) (by kernel_rfl) (by kernel_rfl) (fun _ _ _ h => h) (Or.inl ⟨by rfl, ?_⟩) hHeld0 ?_
  · (intro w hSw; (try dsimp only at hSw); go_simp; all_goals (try rfl))
  simp only [Act.put, List.getElem_toArray, List.getElem_cons_zero, List.getElem_cons_succ, List.setIfInBounds_toArray, List.set_cons_zero, List.set_cons_succ]
  refine wpAnyH_take (i := 1) (v := .int .i64 6060) rfl (by kernel_rfl) (by kernel_rfl) (by kernel_rfl) (fun _ _ _ h => h) (Or.inl ⟨by rfl, ?_⟩) hHeld0 ?_
  · (intro w hSw; (try dsimp only at hSw); go_simp; all_goals (try rfl))
  simp only [Act.put, List.getElem_toArray, List.getElem_cons_zero, List.getElem_cons_succ, List.setIfInBounds_toArray, List.set_cons_zero, List.set_cons_succ]
  refine wpAnyH_take (i := 2) (v := .int .i64 60) rfl (by kernel_rfl) (by kernel_rfl) (by kernel_rfl) (fun _ _ _ h => h) (Or.inl ⟨by rfl, ?_⟩) hHeld0 ?_
  · (intro w hSw; (try dsimp only at hSw); go_simp; all_goals (try rfl))
  simp only [Act.put, List.getElem_toArray, List.getElem_cons_zero, List.getElem_cons_succ, List.setIfInBounds_toArray, List.set_cons_zero, List.set_cons_succ]
  refine wpAnyH_take (i := 3) (v := .int .u64 60) rfl (by kernel_rfl) (by kernel_rfl) (by kernel_rfl) (fun _ _ _ h => h) (Or.inl ⟨by rfl, ?_⟩) hHeld0 ?_
  · (intro w hSw; (try dsimp only at hSw); go_simp; all_goals (try rfl))
  simp only [Act.put, List.getElem_toArray, List.getElem_cons_zero, List.getElem_cons_succ, List.setIfInBounds_toArray, List.set_cons_zero, List.set_cons_succ]
  refine wpAnyH_take (i := 5) (v := .pointer (some ⟨X, 0, none⟩)) rfl (by kernel_rfl) (by kernel_rfl) (by kernel_rfl) (fun _ _ _ h => h) (Or.inl ⟨by rfl, ?_⟩) hHeld0 ?_
  · (intro w hSw; (try dsimp only at hSw); go_simp; all_goals (try rfl))
  simp only [Act.put, List.getElem_toArray, List.getElem_cons_zero, List.getElem_cons_succ, List.setIfInBounds_toArray, List.set_cons_zero, List.set_cons_succ]
  refine wpAnyH_take (i := 6) (v := .int .i64 6060) rfl (by kernel_rfl) (by kernel_rfl) (by kernel_rfl) (fun _ _ _ h => h) (Or.inl ⟨by rfl, ?_⟩) hHeld0 ?_
  · (intro w hSw; (try dsimp only at hSw); go_simp; all_goals (try rfl))
  simp only [Act.put, List.getElem_toArray, List.getElem_cons_zero, List.getElem_cons_succ, List.setIfInBounds_toArray, List.set_cons_zero, List.set_cons_succ]
  refine wpAnyH_take (i := 7) (v := .int .i64 60) rfl (by kernel_rfl) (by kernel_rfl) (by kernel_rfl) (fun _ _ _ h => h) (Or.inl ⟨by rfl, ?_⟩) hHeld0 ?_
  · (intro w hSw; (try dsimp only at hSw); go_simp; all_goals (try rfl))
  simp only [Act.put, List.getElem_toArray, List.getElem_cons_zero, List.getElem_cons_succ, List.setIfInBounds_toArray, List.set_cons_zero, List.set_cons_succ]
  refine wpAnyH_take (i := 8) (v := .int .u64 60) rfl (by kernel_rfl) (by kernel_rfl) (by kernel_rfl) (fun _ _ _ h => h) (Or.inl ⟨by rfl, ?_⟩) hHeld0 ?_
  · (intro w hSw; (try dsimp only at hSw); go_simp; all_goals (try rfl))
  simp only [Act.put, List.getElem_toArray, List.getElem_cons_zero, List.getElem_cons_succ, List.setIfInBounds_toArray, List.set_cons_zero, List.set_cons_succ]
  refine wpAnyH_ready (rs := [4]) (by kernel_rfl) (by simp) ?_
  refine AllReadyH.cons (o := ?o1) ?ho1 (fun K hK => ?_) AllReadyH.nil
  case ho1 => (first | (simp only [List.getElem?_toArray, List.getElem?_cons_succ, List.getElem?_cons_zero]; done) | (simp only [List.getElem?_toArray, List.getElem?_cons_succ, List.getElem?_cons_zero]; rfl))
  go_simp
  go_at_call 73
  refine (big73 60 2 2 _ rfl (by decide) (by decide) (by decide)).mono ?_
  rintro e w5 ⟨rfl, ht5⟩
  have HT5 := Kp.mk (((Still.refl w1).drew).strans ht5); clear ht5
  go_simp
  refine hK.out _ _ (HC0.out _ HT5.out) (fun hHeld1 => ?_)
  clear hK K
  try simp only [Act.put, List.getElem_toArray, List.getElem_cons_zero, List.getElem_cons_succ, List.setIfInBounds_toArray, List.set_cons_zero, List.set_cons_succ]
  refine wpAnyH_ready (rs := [9]) (by kernel_rfl) (by simp) ?_
  refine AllReadyH.cons (o := ?o2) ?ho2 (fun K hK => ?_) AllReadyH.nil
  case ho2 => (first | (simp only [List.getElem?_toArray, List.getElem?_cons_succ, List.getElem?_cons_zero]; done) | (simp only [List.getElem?_toArray, List.getElem?_cons_succ, List.getElem?_cons_zero]; rfl))
  go_simp
  go_at_call 73
  refine (big73 60 2 2 _ rfl (by decide) (by decide) (by decide)).mono ?_
  rintro e w6 ⟨rfl, ht6⟩
  have HT6 := Kp.mk (HT5.out.strans ht6); clear ht6
  go_simp
  refine hK.out _ _ (HC0.out _ HT6.out) (fun hHeld2 => ?_)
  clear hK K
  try simp only [Act.put, List.getElem_toArray, List.getElem_cons_zero, List.getElem_cons_succ, List.setIfInBounds_toArray, List.set_cons_zero, List.set_cons_succ]
  refine wpAnyH_ready (rs := [10]) (by kernel_rfl) (by simp) ?_
  refine AllReadyH.cons (o := ?o3) ?ho3 (fun K hK => ?_) AllReadyH.nil
  case ho3 => (first | (simp only [List.getElem?_toArray, List.getElem?_cons_succ, List.getElem?_cons_zero]; done) | (simp only [List.getElem?_toArray, List.getElem?_cons_succ, List.getElem?_cons_zero]; rfl))
  go_simp
  refine hK.out _ _ (HC0.out _ HT6.out) (fun hHeld3 => ?_)
  clear hK K
  try simp only [Act.put, List.getElem_toArray, List.getElem_cons_zero, List.getElem_cons_succ, List.setIfInBounds_toArray, List.set_cons_zero, List.set_cons_succ]
  refine wpAnyH_ready (rs := [11]) (by kernel_rfl) (by simp) ?_
  refine AllReadyH.cons (o := ?o4) ?ho4 (fun K hK => ?_) AllReadyH.nil
  case ho4 => (first | (simp only [List.getElem?_toArray, List.getElem?_cons_succ, List.getElem?_cons_zero]; done) | (simp only [List.getElem?_toArray, List.getElem?_cons_succ, List.getElem?_cons_zero]; rfl))
  go_simp
  refine hK.out _ _ (HC0.out _ HT6.out) (fun hHeld4 => ?_)
  clear hK K
  try simp only [Act.put, List.getElem_toArray, List.getElem_cons_zero, List.getElem_cons_succ, List.setIfInBounds_toArray, List.set_cons_zero, List.set_cons_succ]
  refine wpAnyH_done (by kernel_rfl) ?_ _
  go_wp2_with fail
  refine (parts85 6060 _).mono ?_
  rintro e w1 ⟨rfl, rfl⟩
  rw [show partsL 6060 = [120, 116, 102, 101, 107] from rfl]
  have hps := ps_size ([120, 116, 102, 101, 107] : List UInt8)
  simp only [List.length_cons, List.length_nil] at hps
  rw [ps_app, show be 60 2 ++ be 60 2 = m.pre 60 60 [120, 116, 102, 101, 107] 0 by simp [M.pre, M.encPs]]
  go_wp2_with fail
  go_loopw [4, 6] (fun s i wr => ∃ k : Nat, k ≤ 5 ∧ i = .int .i64 k ∧ s = .string (ps (m.pre 60 60 [120, 116, 102, 101, 107] k)) ∧ Kp (Still w1 wr)) (fun _ i _ => 5 - (intOf i).toNat)
  case atStart => exact ⟨0, by omega, rfl, rfl, ⟨HT6.out⟩⟩
  case round =>
    obtain ⟨k, hk, rfl, rfl, HTR⟩ := hrel
    match k, hk with
    | 0, hk =>
      have hix := fun W => (ps_index ([120, 116, 102, 101, 107] : List UInt8) 0 (by decide) W).trans (show _ = Result.ok (Value.int .u8 120) W from rfl)
      have hadd := str_add (ps (m.pre 60 60 [120, 116, 102, 101, 107] 0)) (ps (m.encP 120)) (by rw [ps_size, ps_size]; have := HPL.out 0; have := M.encP_len HO.out (c := 120) (by decide); omega)
      have y := (HM1.out.still HTR.out).tx
      have HE := Kp.mk (show be m.tx.size 1 ++ m.tx.data.toList = m.encP 120 from (txt_enc m.tx).trans rfl)
      go_wp2_with fail
      refine (text88 m.tx _ HO.out.tx).mono ?_
      rintro e w5 ⟨rfl, ht5⟩
      rw [HE.out]
      have HT5 := Kp.mk (HTR.out.strans ht5); clear ht5 y
      go_wp2_with fail
      go_roundw
      case rel => exact ⟨1, by omega, by go_num, by rw [ps_app, M.pre_succ _ _ _ _ 0 (by decide)]; rfl, HT5⟩
      case measure => go_light; simp only [intOf]; omega
    | 1, hk =>
      have hix := fun W => (ps_index ([120, 116, 102, 101, 107] : List UInt8) 1 (by decide) W).trans (show _ = Result.ok (Value.int .u8 116) W from rfl)
      have hadd := str_add (ps (m.pre 60 60 [120, 116, 102, 101, 107] 1)) (ps (m.encP 116)) (by rw [ps_size, ps_size]; have := HPL.out 1; have := M.encP_len HO.out (c := 116) (by decide); omega)
      have y := (HM1.out.still HTR.out).tg
      have HE := Kp.mk (show be m.tg.toNat 8 = m.encP 116 from rfl)
      go_wp2_with fail
      refine (big73 m.tg 8 8 _ rfl (by decide) HO.out.tg1 HO.out.tg2).mono ?_
      rintro e w5 ⟨rfl, ht5⟩
      rw [HE.out]
      have HT5 := Kp.mk (HTR.out.strans ht5); clear ht5 y
      go_wp2_with fail
      go_roundw
      case rel => exact ⟨2, by omega, by go_num, by rw [ps_app, M.pre_succ _ _ _ _ 1 (by decide)]; rfl, HT5⟩
      case measure => go_light; simp only [intOf]; omega
    | 2, hk =>
      have hix := fun W => (ps_index ([120, 116, 102, 101, 107] : List UInt8) 2 (by decide) W).trans (show _ = Result.ok (Value.int .u8 102) W from rfl)
      have hadd := str_add (ps (m.pre 60 60 [120, 116, 102, 101, 107] 2)) (ps (m.encP 102)) (by rw [ps_size, ps_size]; have := HPL.out 2; have := M.encP_len HO.out (c := 102) (by decide); omega)
      have y := (HM1.out.still HTR.out).fl
      have HE := Kp.mk (show [if m.fl = true then 1 else 0] = m.encP 102 from rfl)
      go_wp2_with fail
      refine (flag89 m.fl _).mono ?_
      rintro e w5 ⟨rfl, ht5⟩
      rw [HE.out]
      have HT5 := Kp.mk (HTR.out.strans ht5); clear ht5 y
      go_wp2_with fail
      go_roundw
      case rel => exact ⟨3, by omega, by go_num, by rw [ps_app, M.pre_succ _ _ _ _ 2 (by decide)]; rfl, HT5⟩
      case measure => go_light; simp only [intOf]; omega
    | 3, hk =>
      have hix := fun W => (ps_index ([120, 116, 102, 101, 107] : List UInt8) 3 (by decide) W).trans (show _ = Result.ok (Value.int .u8 101) W from rfl)
      have hadd := str_add (ps (m.pre 60 60 [120, 116, 102, 101, 107] 3)) (ps (m.encP 101)) (by rw [ps_size, ps_size]; have := HPL.out 3; have := M.encP_len HO.out (c := 101) (by decide); omega)
      have y := (HM1.out.still HTR.out).ex
      have HE := Kp.mk (show be m.ex.size 1 ++ m.ex.data.toList = m.encP 101 from (txt_enc m.ex).trans rfl)
      go_wp2_with fail
      refine (text88 m.ex _ HO.out.ex).mono ?_
      rintro e w5 ⟨rfl, ht5⟩
      rw [HE.out]
      have HT5 := Kp.mk (HTR.out.strans ht5); clear ht5 y
      go_wp2_with fail
      go_roundw
      case rel => exact ⟨4, by omega, by go_num, by rw [ps_app, M.pre_succ _ _ _ _ 3 (by decide)]; rfl, HT5⟩
      case measure => go_light; simp only [intOf]; omega
    | 4, hk =>
      have hix := fun W => (ps_index ([120, 116, 102, 101, 107] : List UInt8) 4 (by decide) W).trans (show _ = Result.ok (Value.int .u8 107) W from rfl)
      have hadd := str_add (ps (m.pre 60 60 [120, 116, 102, 101, 107] 4)) (ps (m.encP 107)) (by rw [ps_size, ps_size]; have := HPL.out 4; have := M.encP_len HO.out (c := 107) (by decide); omega)
      have y := (HM1.out.still HTR.out).ky
      have HE := Kp.mk (show be m.ky.size 1 ++ m.ky.data.toList = m.encP 107 from (txt_enc m.ky).trans rfl)
      go_wp2_with fail
      refine (text88 m.ky _ HO.out.ky).mono ?_
      rintro e w5 ⟨rfl, ht5⟩
      rw [HE.out]
      have HT5 := Kp.mk (HTR.out.strans ht5); clear ht5 y
      go_wp2_with fail
      go_roundw
      case rel => exact ⟨5, by omega, by go_num, by rw [ps_app, M.pre_succ _ _ _ _ 4 (by decide)]; rfl, HT5⟩
      case measure => go_light; simp only [intOf]; omega
    | 5, hk =>
      go_wp2_with fail
      go_ret2
      exact ⟨by rw [HENC.out]; rfl, HT1.out.strans HTR.out⟩
    | k + 6, hk => exact absurd hk (by omega)
set_option maxHeartbeats 4000000 in
theorem putM_6071 (m : M) (hid : m.id = 6071) (hm : m.mayB = true) (hO : m.Ok) (S : Nat → Prop) (A : Option Addr) (n : Nat) (w : World) (hS : Sl w S A m.ar) :
    Calls Try.prog 71 #[m.val A n] w (RetPM w m.enc) := by
  have hparts : partsL m.id = [116, 102, 101, 107, 117] := by rw [hid]; rfl
  have HENC := Kp.mk (show m.enc = m.pre 60 71 [116, 102, 101, 107, 117] 5 by
    unfold M.enc M.pre
    rw [hparts, hid]; rfl)
  obtain ⟨g1, g2, g3⟩ := M.sized hm
  have HG := Kp.mk g1; have HG2 := Kp.mk g2; have HG3 := Kp.mk g3
  have HO := Kp.mk hO
  have HMB := Kp.mk hm
  have HM := Kp.mk (MAt.new (c := n) m hS)
  have HID := Kp.mk hid
  have HPL := Kp.mk (fun k => M.pre_len hO 60 71 [116, 102, 101, 107, 117] k (by decide) (by decide))
  have HPP := Kp.mk hparts
  have hwt := u64w_eq m.co
  have hwc := u64w_eq m.cn
  have HWT := Kp.mk (u64w_lt m.co); have HWC := Kp.mk (u64w_lt m.cn)
  clear hO hm g1 g2 g3 hid hparts hS
  go_enter Try.func71, Try.ntmps71
  go_wp2_with fail
  refine (mayM_in m HG.out HG2.out HG3.out HO.out S A n _ HM.out.sl).mono ?_
  rintro e w1 ⟨rfl, ht1⟩
  rw [HMB.out]
  have HT1 := Kp.mk (((Still.refl w).alloc _).strans ht1)
  have HM1 := Kp.mk (HM.out.still ht1)
  have HC0 := Kp.mk (fun W (h : Still w1 W) => show W.cell? ⟨w.heap.size, 0, none⟩ = some (.int .i64 6071) by
    have := (HM1.out.still h).id
    rw [HID.out] at this; exact this)
  have hadd0 := str_add (ps (be 60 2)) (ps (be 71 2)) (by simp only [ps_size, be_length]; decide)
  have hsz := HT1.out.size
  clear ht1 hsz HM
  generalize w.heap.size = X at *
  go_upto_region 3 with (fail)
  refine wp_region_held_drew (S := fun W => W.cell? ⟨X, 0, none⟩ = some (.int .i64 6071)) (by kernel_rfl) (HC0.out _ ((Still.refl w1).drew)) (fun hHeld0 => ?_)
  refine wpAnyH_take (i := 0) (v := .pointer (some ⟨X, 0, none⟩)) rfl (by kernel_rfl) (by kernel_rfl) (by kernel_rfl) (fun _ _ _ h => h) (Or.inl ⟨by rfl, ?_⟩) hHeld0 ?_
  · (intro w hSw; (try dsimp only at hSw); go_simp; all_goals (try rfl))
  simp only [Act.put, List.getElem_toArray, List.getElem_cons_zero, List.getElem_cons_succ, List.setIfInBounds_toArray, List.set_cons_zero, List.set_cons_succ]
  refine wpAnyH_take (i := 1) (v := .int .i64 6071) rfl (by kernel_rfl) (by kernel_rfl) (by kernel_rfl) (fun _ _ _ h => h) (Or.inl ⟨by rfl, ?_⟩) hHeld0 ?_
  · (intro w hSw; (try dsimp only at hSw); go_simp; all_goals (try rfl))
  simp only [Act.put, List.getElem_toArray, List.getElem_cons_zero, List.getElem_cons_succ, List.setIfInBounds_toArray, List.set_cons_zero, List.set_cons_succ]
  refine wpAnyH_take (i := 2) (v := .int .i64 60) rfl (by kernel_rfl) (by kernel_rfl) (by kernel_rfl) (fun _ _ _ h => h) (Or.inl ⟨by rfl, ?_⟩) hHeld0 ?_
  · (intro w hSw; (try dsimp only at hSw); go_simp; all_goals (try rfl))
  simp only [Act.put, List.getElem_toArray, List.getElem_cons_zero, List.getElem_cons_succ, List.setIfInBounds_toArray, List.set_cons_zero, List.set_cons_succ]
  refine wpAnyH_take (i := 3) (v := .int .u64 60) rfl (by kernel_rfl) (by kernel_rfl) (by kernel_rfl) (fun _ _ _ h => h) (Or.inl ⟨by rfl, ?_⟩) hHeld0 ?_
  · (intro w hSw; (try dsimp only at hSw); go_simp; all_goals (try rfl))
  simp only [Act.put, List.getElem_toArray, List.getElem_cons_zero, List.getElem_cons_succ, List.setIfInBounds_toArray, List.set_cons_zero, List.set_cons_succ]
  refine wpAnyH_take (i := 5) (v := .pointer (some ⟨X, 0, none⟩)) rfl (by kernel_rfl) (by kernel_rfl) (by kernel_rfl) (fun _ _ _ h => h) (Or.inl ⟨by rfl, ?_⟩) hHeld0 ?_
  · (intro w hSw; (try dsimp only at hSw); go_simp; all_goals (try rfl))
  simp only [Act.put, List.getElem_toArray, List.getElem_cons_zero, List.getElem_cons_succ, List.setIfInBounds_toArray, List.set_cons_zero, List.set_cons_succ]
  refine wpAnyH_take (i := 6) (v := .int .i64 6071) rfl (by kernel_rfl) (by kernel_rfl) (by kernel_rfl) (fun _ _ _ h => h) (Or.inl ⟨by rfl, ?_⟩) hHeld0 ?_
  · (intro w hSw; (try dsimp only at hSw); go_simp; all_goals (try rfl))
  simp only [Act.put, List.getElem_toArray, List.getElem_cons_zero, List.getElem_cons_succ, List.setIfInBounds_toArray, List.set_cons_zero, List.set_cons_succ]
  refine wpAnyH_take (i := 7) (v := .int .i64 71) rfl (by kernel_rfl) (by kernel_rfl) (by kernel_rfl) (fun _ _ _ h => h) (Or.inl ⟨by rfl, ?_⟩) hHeld0 ?_
  · (intro w hSw; (try dsimp only at hSw); go_simp; all_goals (try rfl))
  simp only [Act.put, List.getElem_toArray, List.getElem_cons_zero, List.getElem_cons_succ, List.setIfInBounds_toArray, List.set_cons_zero, List.set_cons_succ]
  refine wpAnyH_take (i := 8) (v := .int .u64 71) rfl (by kernel_rfl) (by kernel_rfl) (by kernel_rfl) (fun _ _ _ h => h) (Or.inl ⟨by rfl, ?_⟩) hHeld0 ?_
  · (intro w hSw; (try dsimp only at hSw); go_simp; all_goals (try rfl))
  simp only [Act.put, List.getElem_toArray, List.getElem_cons_zero, List.getElem_cons_succ, List.setIfInBounds_toArray, List.set_cons_zero, List.set_cons_succ]
  refine wpAnyH_ready (rs := [4]) (by kernel_rfl) (by simp) ?_
  refine AllReadyH.cons (o := ?o1) ?ho1 (fun K hK => ?_) AllReadyH.nil
  case ho1 => (first | (simp only [List.getElem?_toArray, List.getElem?_cons_succ, List.getElem?_cons_zero]; done) | (simp only [List.getElem?_toArray, List.getElem?_cons_succ, List.getElem?_cons_zero]; rfl))
  go_simp
  go_at_call 73
  refine (big73 60 2 2 _ rfl (by decide) (by decide) (by decide)).mono ?_
  rintro e w5 ⟨rfl, ht5⟩
  have HT5 := Kp.mk (((Still.refl w1).drew).strans ht5); clear ht5
  go_simp
  refine hK.out _ _ (HC0.out _ HT5.out) (fun hHeld1 => ?_)
  clear hK K
  try simp only [Act.put, List.getElem_toArray, List.getElem_cons_zero, List.getElem_cons_succ, List.setIfInBounds_toArray, List.set_cons_zero, List.set_cons_succ]
  refine wpAnyH_ready (rs := [9]) (by kernel_rfl) (by simp) ?_
  refine AllReadyH.cons (o := ?o2) ?ho2 (fun K hK => ?_) AllReadyH.nil
  case ho2 => (first | (simp only [List.getElem?_toArray, List.getElem?_cons_succ, List.getElem?_cons_zero]; done) | (simp only [List.getElem?_toArray, List.getElem?_cons_succ, List.getElem?_cons_zero]; rfl))
  go_simp
  go_at_call 73
  refine (big73 71 2 2 _ rfl (by decide) (by decide) (by decide)).mono ?_
  rintro e w6 ⟨rfl, ht6⟩
  have HT6 := Kp.mk (HT5.out.strans ht6); clear ht6
  go_simp
  refine hK.out _ _ (HC0.out _ HT6.out) (fun hHeld2 => ?_)
  clear hK K
  try simp only [Act.put, List.getElem_toArray, List.getElem_cons_zero, List.getElem_cons_succ, List.setIfInBounds_toArray, List.set_cons_zero, List.set_cons_succ]
  refine wpAnyH_ready (rs := [10]) (by kernel_rfl) (by simp) ?_
  refine AllReadyH.cons (o := ?o3) ?ho3 (fun K hK => ?_) AllReadyH.nil
  case ho3 => (first | (simp only [List.getElem?_toArray, List.getElem?_cons_succ, List.getElem?_cons_zero]; done) | (simp only [List.getElem?_toArray, List.getElem?_cons_succ, List.getElem?_cons_zero]; rfl))
  go_simp
  refine hK.out _ _ (HC0.out _ HT6.out) (fun hHeld3 => ?_)
  clear hK K
  try simp only [Act.put, List.getElem_toArray, List.getElem_cons_zero, List.getElem_cons_succ, List.setIfInBounds_toArray, List.set_cons_zero, List.set_cons_succ]
  refine wpAnyH_ready (rs := [11]) (by kernel_rfl) (by simp) ?_
  refine AllReadyH.cons (o := ?o4) ?ho4 (fun K hK => ?_) AllReadyH.nil
  case ho4 => (first | (simp only [List.getElem?_toArray, List.getElem?_cons_succ, List.getElem?_cons_zero]; done) | (simp only [List.getElem?_toArray, List.getElem?_cons_succ, List.getElem?_cons_zero]; rfl))
  go_simp
  refine hK.out _ _ (HC0.out _ HT6.out) (fun hHeld4 => ?_)
  clear hK K
  try simp only [Act.put, List.getElem_toArray, List.getElem_cons_zero, List.getElem_cons_succ, List.setIfInBounds_toArray, List.set_cons_zero, List.set_cons_succ]
  refine wpAnyH_done (by kernel_rfl) ?_ _
  go_wp2_with fail
  refine (parts85 6071 _).mono ?_
  rintro e w1 ⟨rfl, rfl⟩
  rw [show partsL 6071 = [116, 102, 101, 107, 117] from rfl]
  have hps := ps_size ([116, 102, 101, 107, 117] : List UInt8)
  simp only [List.length_cons, List.length_nil] at hps
  rw [ps_app, show be 60 2 ++ be 71 2 = m.pre 60 71 [116, 102, 101, 107, 117] 0 by simp [M.pre, M.encPs]]
  go_wp2_with fail
  go_loopw [4, 6] (fun s i wr => ∃ k : Nat, k ≤ 5 ∧ i = .int .i64 k ∧ s = .string (ps (m.pre 60 71 [116, 102, 101, 107, 117] k)) ∧ Kp (Still w1 wr)) (fun _ i _ => 5 - (intOf i).toNat)
  case atStart => exact ⟨0, by omega, rfl, rfl, ⟨HT6.out⟩⟩
  case round =>
    obtain ⟨k, hk, rfl, rfl, HTR⟩ := hrel
    match k, hk with
    | 0, hk =>
      have hix := fun W => (ps_index ([116, 102, 101, 107, 117] : List UInt8) 0 (by decide) W).trans (show _ = Result.ok (Value.int .u8 116) W from rfl)
      have hadd := str_add (ps (m.pre 60 71 [116, 102, 101, 107, 117] 0)) (ps (m.encP 116)) (by rw [ps_size, ps_size]; have := HPL.out 0; have := M.encP_len HO.out (c := 116) (by decide); omega)
      have y := (HM1.out.still HTR.out).tg
      have HE := Kp.mk (show be m.tg.toNat 8 = m.encP 116 from rfl)
      go_wp2_with fail
      refine (big73 m.tg 8 8 _ rfl (by decide) HO.out.tg1 HO.out.tg2).mono ?_
      rintro e w5 ⟨rfl, ht5⟩
      rw [HE.out]
      have HT5 := Kp.mk (HTR.out.strans ht5); clear ht5 y
      go_wp2_with fail
      go_roundw
      case rel => exact ⟨1, by omega, by go_num, by rw [ps_app, M.pre_succ _ _ _ _ 0 (by decide)]; rfl, HT5⟩
      case measure => go_light; simp only [intOf]; omega
    | 1, hk =>
      have hix := fun W => (ps_index ([116, 102, 101, 107, 117] : List UInt8) 1 (by decide) W).trans (show _ = Result.ok (Value.int .u8 102) W from rfl)
      have hadd := str_add (ps (m.pre 60 71 [116, 102, 101, 107, 117] 1)) (ps (m.encP 102)) (by rw [ps_size, ps_size]; have := HPL.out 1; have := M.encP_len HO.out (c := 102) (by decide); omega)
      have y := (HM1.out.still HTR.out).fl
      have HE := Kp.mk (show [if m.fl = true then 1 else 0] = m.encP 102 from rfl)
      go_wp2_with fail
      refine (flag89 m.fl _).mono ?_
      rintro e w5 ⟨rfl, ht5⟩
      rw [HE.out]
      have HT5 := Kp.mk (HTR.out.strans ht5); clear ht5 y
      go_wp2_with fail
      go_roundw
      case rel => exact ⟨2, by omega, by go_num, by rw [ps_app, M.pre_succ _ _ _ _ 1 (by decide)]; rfl, HT5⟩
      case measure => go_light; simp only [intOf]; omega
    | 2, hk =>
      have hix := fun W => (ps_index ([116, 102, 101, 107, 117] : List UInt8) 2 (by decide) W).trans (show _ = Result.ok (Value.int .u8 101) W from rfl)
      have hadd := str_add (ps (m.pre 60 71 [116, 102, 101, 107, 117] 2)) (ps (m.encP 101)) (by rw [ps_size, ps_size]; have := HPL.out 2; have := M.encP_len HO.out (c := 101) (by decide); omega)
      have y := (HM1.out.still HTR.out).ex
      have HE := Kp.mk (show be m.ex.size 1 ++ m.ex.data.toList = m.encP 101 from (txt_enc m.ex).trans rfl)
      go_wp2_with fail
      refine (text88 m.ex _ HO.out.ex).mono ?_
      rintro e w5 ⟨rfl, ht5⟩
      rw [HE.out]
      have HT5 := Kp.mk (HTR.out.strans ht5); clear ht5 y
      go_wp2_with fail
      go_roundw
      case rel => exact ⟨3, by omega, by go_num, by rw [ps_app, M.pre_succ _ _ _ _ 2 (by decide)]; rfl, HT5⟩
      case measure => go_light; simp only [intOf]; omega
    | 3, hk =>
      have hix := fun W => (ps_index ([116, 102, 101, 107, 117] : List UInt8) 3 (by decide) W).trans (show _ = Result.ok (Value.int .u8 107) W from rfl)
      have hadd := str_add (ps (m.pre 60 71 [116, 102, 101, 107, 117] 3)) (ps (m.encP 107)) (by rw [ps_size, ps_size]; have := HPL.out 3; have := M.encP_len HO.out (c := 107) (by decide); omega)
      have y := (HM1.out.still HTR.out).ky
      have HE := Kp.mk (show be m.ky.size 1 ++ m.ky.data.toList = m.encP 107 from (txt_enc m.ky).trans rfl)
      go_wp2_with fail
      refine (text88 m.ky _ HO.out.ky).mono ?_
      rintro e w5 ⟨rfl, ht5⟩
      rw [HE.out]
      have HT5 := Kp.mk (HTR.out.strans ht5); clear ht5 y
      go_wp2_with fail
      go_roundw
      case rel => exact ⟨4, by omega, by go_num, by rw [ps_app, M.pre_succ _ _ _ _ 3 (by decide)]; rfl, HT5⟩
      case measure => go_light; simp only [intOf]; omega
    | 4, hk =>
      have hix := fun W => (ps_index ([116, 102, 101, 107, 117] : List UInt8) 4 (by decide) W).trans (show _ = Result.ok (Value.int .u8 117) W from rfl)
      have hadd := str_add (ps (m.pre 60 71 [116, 102, 101, 107, 117] 4)) (ps (m.encP 117)) (by rw [ps_size, ps_size]; have := HPL.out 4; have := M.encP_len HO.out (c := 117) (by decide); omega)
      have y := (HM1.out.still HTR.out).cn
      have HE := Kp.mk (show be ((u64w m.cn : Int)).toNat 4 = m.encP 117 from rfl)
      go_wp2_with fail
      refine (big73 (u64w m.cn : Int) 4 4 _ rfl (by decide) (by omega) HWC.out).mono ?_
      rintro e w5 ⟨rfl, ht5⟩
      rw [HE.out]
      have HT5 := Kp.mk (HTR.out.strans ht5); clear ht5 y
      go_wp2_with fail
      go_roundw
      case rel => exact ⟨5, by omega, by go_num, by rw [ps_app, M.pre_succ _ _ _ _ 4 (by decide)]; rfl, HT5⟩
      case measure => go_light; simp only [intOf]; omega
    | 5, hk =>
      go_wp2_with fail
      go_ret2
      exact ⟨by rw [HENC.out]; rfl, HT1.out.strans HTR.out⟩
    | k + 6, hk => exact absurd hk (by omega)
end Go.Proofs.Ytaeainkfllfdfaa
