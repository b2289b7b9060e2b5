/- Contracts of the functions that the statement reaches, each walked once, and the plain laws over them, for every input that their premises name (B19, D12, E1, E2, D13). -/
import Derived.Test.YtaeainkfllfdfaaQ13
import Derived.ChangeSlices
import Derived.Deep.QuietTactic
import Derived.BigQuiet
import Derived.RegionTactic
import Derived.BigRegion
import Derived.Outline
import Derived.Deep.RegionHeld3
/- B19: A slice of bytes as an argument of a row: opened as data, and read once more behind a call that turns nothing. -/
namespace Go.Proofs.Ytaeainkfllfdfaa
open Go.RowKit Go.ChangeShapes Go.WideShapes Go.ChangeAt
set_option linter.unusedVariables false
set_option linter.unusedSimpArgs false
set_option maxRecDepth 100000

theorem rec25 : Try.prog.readableRec 25 = true := by kernel_rfl
theorem row25 : 25 < Try.prog.types.size := of_decide_eq_true (by kernel_rfl)
theorem cells5 : Try.prog.cellsOf 5 = 1 := by kernel_rfl
theorem bytes5 : Try.prog.bytesOf 5 = 1 := by kernel_rfl

theorem open_byt {H : Type} {enc : TypeId × Value → H} {W : World} {base : Nat} {held : Bool} {v : Value} {d : DataW H} {p : List MemPlace} (hv : Value.okWide Try.prog W .any base 25 v)
    (h : DataW.Trod enc Try.prog W 0 (fun _ => true) held 25 v d p) (hw : ∀ m ∈ d.weights Try.prog 25, m ≤ reachBytes) :
    ∃ (A : Option Addr) (c : Nat) (bs : List UInt8), v = .slice A bs.length c ∧ Bs W (fun b => b < W.heap.size) A bs ∧ bs.length ≤ 140737488351232 ∧ bs.length ≤ c ∧ c ≤ maxLen := by
  obtain ⟨a0, n, cap, rfl⟩ := okWide_slice Try.underlying25 hv
  obtain ⟨f, hf⟩ := h
  rcases open_ints Try.underlying25 Try.underlying5 cells5 hf with ⟨hcs, hx⟩ | ⟨a, len', cap', zs, hcs, _, hl, hm, hz, hx, hcell, hwz⟩
  · simp [Value.cells] at hcs
    obtain ⟨rfl, rfl, rfl⟩ := hcs
    exact ⟨none, 0, [], rfl, Bs.nil _ _ _, Nat.zero_le _, Nat.zero_le _, Nat.zero_le _⟩
  · simp [Value.cells] at hcs
    obtain ⟨rfl, rfl, rfl⟩ := hcs
    simp only [Prod.mk.injEq] at hx
    obtain ⟨rfl, rfl⟩ := hx
    simp only [if_true] at hz
    have hwt : (n : Nat) ≤ reachBytes := by
      have h1 : ((lits .u8 (zs.take n) : List (DataW H)).length + (lits .u8 (zs.drop n) : List (DataW H)).length) * 1 ≤ reachBytes := hw _ (by simp [DataW.weights, Try.underlying25, bytes5])
      simp only [lits, List.length_map, List.length_take, List.length_drop] at h1
      omega
    have hlen : ((zs.take n).map fun n => UInt8.ofNat n.toNat).length = n := by simp; omega
    refine ⟨some a, cap, (zs.take n).map fun n => UInt8.ofNat n.toNat, by rw [hlen], ?_, by rw [hlen]; simp only [reachBytes] at hwt; omega, by rw [hlen]; exact hl, hm⟩
    by_cases hn : n = 0
    · subst hn; exact .inl rfl
    · obtain ⟨ab, ao, spot⟩ := a
      have hc0 := hcell 0 (by omega)
      have hspot : spot = none := by simpa [Addr.add] using World.cell?_spot hc0
      subst hspot
      refine .inr ⟨ab, ao, rfl, World.block_lt_of_cell? W _ hc0, fun j hj => ?_⟩
      rw [hlen] at hj
      have hcj := hcell j (by omega)
      rw [Addr.add_lit] at hcj
      rw [hcj]
      have e : zs.getD j 0 = zs[j]'(by omega) := by simp [List.getD, List.getElem?_eq_getElem (show j < zs.length by omega)]
      have hb := hwz (zs.getD j 0) (by rw [e]; exact List.getElem_mem _)
      rw [e] at hb ⊢
      simp [Lit.wf, IntKind.min, IntKind.max, IntKind.signed, IntKind.bits] at hb
      simp only [List.getElem_map, List.getElem_take]
      rw [UInt8.toNat_ofNat']
      exact congrArg some (congrArg (Value.int .u8) (by omega))
theorem byt_still {H : Type} {enc : TypeId × Value → H} {W W' : World} {v : Value} {d : DataW H} {p : List MemPlace} (h : DataW.Trod enc Try.prog W 0 (fun _ => true) true 25 v d p) (hb : Still W W') :
    DataW.Trod enc Try.prog W' 0 (fun b => decide (b < W.heap.size)) true 25 v d p :=
  Below.trod laidOut rec25 row25 h hb.below (fun x hx => by obtain ⟨f, hf⟩ := h; exact DataW.trod_lt f 25 _ _ hf x hx)
end Go.Proofs.Ytaeainkfllfdfaa
/- D12: Plain laws of a message's frames: what was cut is put together again; with one frame left out it is never whole. -/
namespace Go.Proofs.Ytaeainkfllfdfaa
open Go.RowKit
set_option linter.unusedVariables false
set_option linter.unusedSimpArgs false
set_option maxRecDepth 100000

/-- A message that was cut: its call and its properties are good, its body is short. -/
structure Msg (m : M) (p : L) (body : List UInt8) (N : Nat) : Prop where
  good : m.Good
  bears : bearsB m.id = true
  ok : p.Ok
  may : p.mayTab 1 = true
  enc : p.enc.length ≤ 3000
  n : body.length ≤ 600
  N1 : 8 ≤ N
  N2 : N ≤ 107
theorem cut_parts {ch : Int} {m : M} {p : L} {n : Nat} {most : Int} (h : cutE ch m p n most = 0) : m.putE = 0 ∧ p.putE = 0 ∧ bearsB m.id = true := by
  unfold cutE at h
  split at h
  · rename_i hm
    split at h
    · rename_i h1
      split at h
      · rename_i h2
        refine ⟨h1, h2, ?_⟩
        unfold cutMay at hm
        simp only [Bool.and_eq_true] at hm
        exact hm.1.1.1.1.1.2
      · rename_i h2; exact absurd h h2
    · rename_i h1; exact absurd h h1
  · exact absurd h (by decide)
theorem put_parts {p : L} (h : p.putE = 0) : p.mayTab 1 = true ∧ p.enc.length ≤ 3000 ∧ p.putB = p.enc := by
  unfold L.putE at h
  split at h
  · rename_i hm
    split at h
    · exact absurd h (by decide)
    · rename_i hl
      exact ⟨hm, by omega, by unfold L.putB; rw [if_pos hm, if_neg hl]⟩
  · exact absurd h (by decide)
theorem Msg.of {ch : Int} {m : M} {p : L} {body : List UInt8} {N : Nat} (hm : m.Ok) (hp : p.Ok) (hn : body.length ≤ 600) (h1 : 8 ≤ N) (h2 : N ≤ 107) (h : cutE ch m p body.length N = 0) : Msg m p body N := by
  obtain ⟨a, b, c⟩ := cut_parts h
  obtain ⟨d, e, _⟩ := put_parts b
  exact ⟨M.good hm a, c, hp, d, e, hn, h1, h2⟩
section
variable {m : M} {p : L} {body : List UInt8} {N : Nat}
/-- The frames. -/
def frs (m : M) (p : L) (body : List UInt8) (N : Nat) : List Fr := ⟨1, 9, m.enc⟩ :: ⟨2, 9, be body.length 8 ++ p.enc⟩ :: bodyF 9 body N (nCh body.length N)
theorem Msg.cut (h : Msg m p body N) (he : cutE 9 m p body.length N = 0) : cutF 9 m p body N = frs m p body N := by
  obtain ⟨_, b, _⟩ := cut_parts he
  obtain ⟨_, _, f⟩ := put_parts b
  unfold cutF frs
  rw [if_pos he, h.good.putB, f]
theorem frs_len (m : M) (p : L) (body : List UInt8) (N : Nat) : (frs m p body N).length = 2 + nCh body.length N := by
  unfold frs; simp [bodyF]; omega
theorem nCh_nat (n N : Nat) : nCh n (N : Int) = (n + N - 1) / N := by simp [nCh]
/-- How a body's parts lie. -/
theorem ch_bound {n N t : Nat} (hN : 0 < N) (ht : t < (n + N - 1) / N) : t * N < n := by
  have h1 := Nat.div_add_mod (n + N - 1) N
  have h2 := Nat.mod_lt (n + N - 1) hN
  have h3 : (t + 1) * N ≤ (n + N - 1) / N * N := Nat.mul_le_mul_right _ ht
  rw [Nat.mul_comm] at h1
  rw [Nat.succ_mul] at h3
  omega
theorem ch_cover {n N : Nat} (hN : 0 < N) : n ≤ (n + N - 1) / N * N := by
  have h1 := Nat.div_add_mod (n + N - 1) N
  have h2 := Nat.mod_lt (n + N - 1) hN
  rw [Nat.mul_comm] at h1
  omega
theorem frs_body (i : Nat) (h : i + 2 < (frs m p body N).length) : (frs m p body N)[i + 2] = ⟨3, 9, (body.drop (i * N)).take N⟩ := by
  simp [frs, bodyF]
theorem frs_kind (i : Nat) (h : i < (frs m p body N).length) : (frs m p body N)[i].ch = 9 ∧ (frs m p body N)[i].k = (if i = 0 then 1 else if i = 1 then 2 else 3) := by
  match i, h with
  | 0, _ => exact ⟨rfl, rfl⟩
  | 1, _ => exact ⟨rfl, rfl⟩
  | i + 2, h => rw [frs_body i h]; exact ⟨rfl, rfl⟩
theorem frs_d (hM : Msg m p body N) (i : Nat) (h : i < (frs m p body N).length) : (frs m p body N)[i].d.length ≤ 20000 := by
  have h1 := enc_max hM.good
  have h2 := hM.enc
  have h3 := hM.N2
  match i, h with
  | 0, _ => show m.enc.length ≤ _; omega
  | 1, _ => show (be body.length 8 ++ p.enc).length ≤ _; rw [List.length_append, be_length]; omega
  | i + 2, h => rw [frs_body i h]; simp only [List.length_take]; omega

/-- What a Join holds after i frames, not all. -/
def jst (m : M) (p : L) (body : List UInt8) (N : Nat) (i : Nat) : J :=
  if i = 0 then J.new 9 else if i = 1 then ⟨9, 2, 0, false, m, .nil, []⟩ else ⟨9, 3, ((body.length - (i - 2) * N : Nat) : Int), false, m, p, body.take ((i - 2) * N)⟩
def jfin (m : M) (p : L) (body : List UInt8) : J := ⟨9, 1, 0, true, m, p, body⟩
theorem take_chunk (body : List UInt8) (x N : Nat) : body.take x ++ (body.drop x).take N = body.take (x + N) := by rw [List.take_add]
/-- One frame more. -/
theorem jst_step (hM : Msg m p body N) (i : Nat) (h : i < (frs m p body N).length) : (jst m p body N i).add (frs m p body N)[i] = (decide (i + 1 = (frs m p body N).length), 0, if i + 1 = (frs m p body N).length then jfin m p body else jst m p body N (i + 1)) := by
  have hlen := frs_len m p body N
  rw [nCh_nat] at hlen
  have hN : 0 < N := by have := hM.N1; omega
  match i, h with
  | 0, h =>
    have e : (frs m p body N)[0] = ⟨1, 9, m.enc⟩ := rfl
    obtain ⟨g1, g2⟩ := hM.good.get
    have hE : methE m.enc = 0 := by unfold methE; rw [g1, g2, hM.bears]; rfl
    have hJ : (J.new 9).meth m.enc = ⟨9, 2, 0, false, m, .nil, []⟩ := by unfold J.meth J.met; rw [g2]; rfl
    have hs : (J.new 9).step ⟨1, 9, m.enc⟩ = (0, ⟨9, 2, 0, false, m, .nil, []⟩) := by unfold J.step; rw [if_pos rfl, hE, hJ]
    have hl : ¬ (0 + 1 = (frs m p body N).length) := by rw [hlen]; generalize (body.length + N - 1) / N = C; omega
    rw [e, show jst m p body N 0 = J.new 9 from rfl]
    unfold J.add
    rw [hs]
    show (if (1 : Int) = 8 then _ else if (9 : Int) ≠ 9 then _ else if (1 : Int) ≠ 1 then _ else if (0 : Int) ≠ 0 then _ else if (2 : Int) ≠ 3 ∨ (0 : Int) < 0 then _ else _) = _
    rw [if_neg (by decide), if_neg (by decide), if_neg (by decide), if_neg (by decide), if_pos (.inl (by decide)), if_neg hl]
    simp only [hl, decide_false]
    rfl
  | 1, h =>
    have e : (frs m p body N)[1] = ⟨2, 9, be body.length 8 ++ p.enc⟩ := rfl
    obtain ⟨g1, g2⟩ := get_put hM.ok hM.may hM.enc
    have hn := hM.n
    have hd : (be body.length 8 ++ p.enc).drop 8 = p.enc := by rw [List.drop_left' (be_length _ _)]
    have ht : (be body.length 8 ++ p.enc).take 8 = be body.length 8 := by rw [List.take_left' (be_length _ _)]
    have hv : val ((be body.length 8 ++ p.enc).take 8) = body.length := by rw [ht, val_be]; exact Nat.mod_eq_of_lt (by omega)
    have hE : headE (be body.length 8 ++ p.enc) = 0 := by
      unfold headE
      rw [if_neg (by rw [List.length_append, be_length]; omega), hd, g2, if_pos rfl, hv, if_neg (by omega)]
    have hJ : (jst m p body N 1).head (be body.length 8 ++ p.enc) = ⟨9, 3, (body.length : Int), false, m, p, []⟩ := by
      unfold J.head; rw [if_pos hE, hd, g1, hv]; rfl
    have hs : (jst m p body N 1).step ⟨2, 9, be body.length 8 ++ p.enc⟩ = (0, ⟨9, 3, (body.length : Int), false, m, p, []⟩) := by
      unfold J.step; rw [if_neg (show ¬ (2 : Int) = 1 by decide), if_pos rfl, hE, hJ]
    rw [e]
    unfold J.add
    rw [hs]
    show (if (2 : Int) = 8 then _ else if (9 : Int) ≠ 9 then _ else if (2 : Int) ≠ 2 then _ else if (0 : Int) ≠ 0 then _ else if (3 : Int) ≠ 3 ∨ 0 < (body.length : Int) then _ else _) = _
    rw [if_neg (by decide), if_neg (by decide), if_neg (by decide), if_neg (by decide)]
    by_cases hz : body.length = 0
    · have hb : body = [] := List.eq_nil_of_length_eq_zero hz
      have hl : 1 + 1 = (frs m p body N).length := by rw [hlen, hz]; simp; exact Or.inr (by omega)
      rw [if_neg (by rw [hz]; decide), if_pos hl]
      subst hb
      simp [jfin, hl]
    · have hc : 0 < (body.length + N - 1) / N := Nat.div_pos (by omega) hN
      have hl : ¬ (1 + 1 = (frs m p body N).length) := by rw [hlen]; omega
      rw [if_pos (.inr (by omega)), if_neg hl]
      simp [jst, hl]
  | i + 2, h =>
    have hi : i < (body.length + N - 1) / N := by omega
    have hlt := ch_bound hN hi
    have hcov := ch_cover (n := body.length) hN
    rw [frs_body i h]
    have hsub : (i + 2 - 2) = i := rfl
    have hj : jst m p body N (i + 2) = ⟨9, 3, ((body.length - i * N : Nat) : Int), false, m, p, body.take (i * N)⟩ := rfl
    have hdl : ((body.drop (i * N)).take N).length = min N (body.length - i * N) := by simp
    have hE : (jst m p body N (i + 2)).partE ((body.drop (i * N)).take N) = 0 := by
      rw [hj]; unfold J.partE
      rw [if_neg (by rw [hdl]; omega), if_neg (by rw [hdl]; simp only; omega)]
    have hJ : (jst m p body N (i + 2)).part ((body.drop (i * N)).take N) = ⟨9, 3, ((body.length - (i + 1) * N : Nat) : Int), false, m, p, body.take ((i + 1) * N)⟩ := by
      unfold J.part; rw [if_pos hE, hj]
      simp only [take_chunk, hdl, Nat.succ_mul, J.mk.injEq, true_and, and_true]
      omega
    have hs : (jst m p body N (i + 2)).step ⟨3, 9, (body.drop (i * N)).take N⟩ = (0, ⟨9, 3, ((body.length - (i + 1) * N : Nat) : Int), false, m, p, body.take ((i + 1) * N)⟩) := by
      unfold J.step; rw [if_neg (show ¬ (3 : Int) = 1 by decide), if_neg (show ¬ (3 : Int) = 2 by decide), hE, hJ]
    unfold J.add
    rw [hs]
    show (if (3 : Int) = 8 then _ else if (9 : Int) ≠ 9 then _ else if (3 : Int) ≠ 3 then _ else if (0 : Int) ≠ 0 then _ else if (3 : Int) ≠ 3 ∨ 0 < ((body.length - (i + 1) * N : Nat) : Int) then _ else _) = _
    rw [if_neg (by decide), if_neg (by decide), if_neg (by decide), if_neg (by decide)]
    have hx : (i + 1) * N = i * N + N := Nat.succ_mul i N
    by_cases hz : i + 1 = (body.length + N - 1) / N
    · have hl : i + 2 + 1 = (frs m p body N).length := by rw [hlen]; omega
      have h0 : body.length - (i + 1) * N = 0 := by rw [hz]; omega
      have h9 : body.take ((i + 1) * N) = body := List.take_of_length_le (by rw [hz]; exact hcov)
      rw [h0, h9, if_neg (by decide), if_pos hl]
      simp [jfin, hl]
    · have hi2 : i + 1 < (body.length + N - 1) / N := by omega
      have hlt2 := ch_bound hN hi2
      have hl : ¬ (i + 2 + 1 = (frs m p body N).length) := by rw [hlen]; omega
      rw [if_pos (.inr (by omega)), if_neg hl]
      simp only [hl, decide_false]
      rfl
theorem jst_ok (hM : Msg m p body N) (i : Nat) : 0 ≤ (jst m p body N i).left ∧ (jst m p body N i).left ≤ 65536 ∧ (jst m p body N i).body.length ≤ 1000000000 := by
  have := hM.n
  unfold jst
  split
  · exact ⟨by decide, by decide, by decide⟩
  · split
    · exact ⟨by simp, by simp, by simp⟩
    · refine ⟨by simp only; omega, by simp only; omega, ?_⟩
      simp only [List.length_take]; omega

/-- What is known of a Join that was handed the frames ahead of number i, but for number o. -/
structure KI (m : M) (p : L) (body : List UInt8) (N o i : Nat) (j : J) : Prop where
  ch : j.ch = 9
  lo : 0 ≤ j.left
  hi : j.left ≤ 65536
  bl : j.body.length ≤ 600
  ahead : i ≤ o → j = jst m p body N i
  behind : o < i → j.next = 1 ∨ (j.next = 2 ∧ o = 1) ∨ (2 ≤ o ∧ j.next = 3 ∧ (j.body.length : Int) + j.left = body.length ∧ j.left = ((body.length - (i - 2) * N + min N (body.length - (o - 2) * N) : Nat) : Int))
theorem jst_ch (m : M) (p : L) (body : List UInt8) (N i : Nat) : (jst m p body N i).ch = 9 := by unfold jst; split <;> (try split) <;> rfl
theorem jst_bl (hM : Msg m p body N) (i : Nat) : (jst m p body N i).body.length ≤ 600 := by
  have := hM.n
  unfold jst
  split
  · exact (by decide : (J.new 9).body.length ≤ 600)
  · split
    · exact Nat.zero_le _
    · simp only [List.length_take]; omega
theorem KI.first (hM : Msg m p body N) (o : Nat) : KI m p body N o 0 (J.new 9) :=
  ⟨rfl, by decide, by decide, by decide, fun _ => rfl, fun h => by omega⟩
theorem KI.skip (hM : Msg m p body N) {o : Nat} {j : J} (h : KI m p body N o o j) (ho : o < (frs m p body N).length) : KI m p body N o (o + 1) j := by
  refine ⟨h.ch, h.lo, h.hi, h.bl, fun h => by omega, fun _ => ?_⟩
  have hj := h.ahead (Nat.le_refl _)
  have hlen := frs_len m p body N
  rw [nCh_nat] at hlen
  have hN : 0 < N := by have := hM.N1; omega
  match o, ho, hj with
  | 0, _, hj => subst hj; exact .inl rfl
  | 1, _, hj => subst hj; exact .inr (.inl ⟨rfl, rfl⟩)
  | o + 2, ho, hj =>
    have hi : o < (body.length + N - 1) / N := by rw [hlen] at ho; generalize (body.length + N - 1) / N = C at *; omega
    have hlt := ch_bound hN hi
    subst hj
    have e1 : o + 2 + 1 - 2 = o + 1 := by omega
    have e2 : (o + 1) * N = o * N + N := Nat.succ_mul o N
    have hjs : jst m p body N (o + 2) = ⟨9, 3, ((body.length - o * N : Nat) : Int), false, m, p, body.take (o * N)⟩ := rfl
    rw [hjs, e1, Nat.add_sub_cancel]
    refine .inr (.inr ⟨by omega, rfl, ?_, ?_⟩)
    · simp only [List.length_take]; omega
    · simp only; rw [e2]; omega
theorem add_wrong {j : J} {f : Fr} (h8 : f.k ≠ 8) (hc : f.ch = j.ch) (hk : f.k ≠ j.next) : j.add f = (false, 501, J.new j.ch) := by
  unfold J.add
  rw [if_neg h8, if_neg (by simp [hc]), if_pos hk]
theorem KI.step (hM : Msg m p body N) {o i : Nat} {j : J} (h : KI m p body N o i j) (ho : o < (frs m p body N).length) (hi : i < (frs m p body N).length) (hne : i ≠ o) : (j.add (frs m p body N)[i]).1 = false ∧ KI m p body N o (i + 1) (j.add (frs m p body N)[i]).2.2 := by
  have hlen := frs_len m p body N
  rw [nCh_nat] at hlen
  have hN : 0 < N := by have := hM.N1; omega
  obtain ⟨kc, kk⟩ := frs_kind i hi
  have h8 : (frs m p body N)[i].k ≠ 8 := by rw [kk]; split <;> (try split) <;> decide
  by_cases hio : i < o
  · have hj := h.ahead (by omega)
    subst hj
    have hl : ¬ (i + 1 = (frs m p body N).length) := by omega
    rw [jst_step hM i hi]
    simp only [hl, decide_false, if_false]
    exact ⟨trivial, jst_ch m p body N _, (jst_ok hM _).1, (jst_ok hM _).2.1, jst_bl hM _, fun _ => rfl, fun h => by omega⟩
  · have hoi : o < i := by omega
    have hnew : j.add (frs m p body N)[i] = (false, 501, J.new j.ch) → (j.add (frs m p body N)[i]).1 = false ∧ KI m p body N o (i + 1) (j.add (frs m p body N)[i]).2.2 := fun e => by
      rw [e]
      exact ⟨rfl, h.ch, Int.le_refl 0, (show (0 : Int) ≤ 65536 by decide), Nat.zero_le _, fun h => by omega, fun _ => .inl rfl⟩
    rcases h.behind hoi with hn | ⟨hn, h1⟩ | ⟨h2, hn, hbl, hleft⟩
    · exact hnew (add_wrong h8 (by rw [kc, h.ch]) (by rw [kk, hn, if_neg (by omega)]; split <;> decide))
    · exact hnew (add_wrong h8 (by rw [kc, h.ch]) (by rw [kk, hn, if_neg (by omega), if_neg (by omega)]; decide))
    · obtain ⟨q, rfl⟩ : ∃ q, i = q + 2 := ⟨i - 2, by omega⟩
      obtain ⟨r, rfl⟩ : ∃ r, o = r + 2 := ⟨o - 2, by omega⟩
      have hq : q < (body.length + N - 1) / N := by rw [hlen] at hi; generalize (body.length + N - 1) / N = C at *; omega
      have hr : r < (body.length + N - 1) / N := by rw [hlen] at ho; generalize (body.length + N - 1) / N = C at *; omega
      have hlq := ch_bound hN hq
      have hlr := ch_bound hN hr
      have hx : (q + 1) * N = q * N + N := Nat.succ_mul q N
      rw [Nat.add_sub_cancel, Nat.add_sub_cancel] at hleft
      have e1 : q + 2 + 1 - 2 = q + 1 := by omega
      rw [frs_body q hi]
      have hdl : ((body.drop (q * N)).take N).length = min N (body.length - q * N) := by simp
      have hE : j.partE ((body.drop (q * N)).take N) = 0 := by
        unfold J.partE
        rw [if_neg (by rw [hdl]; omega), if_neg (by rw [hdl, hleft]; omega)]
      have hJ : j.part ((body.drop (q * N)).take N) = { j with body := j.body ++ (body.drop (q * N)).take N, left := j.left - ((body.drop (q * N)).take N).length } := by
        unfold J.part; rw [if_pos hE]
      have hs : j.step ⟨3, 9, (body.drop (q * N)).take N⟩ = (0, { j with body := j.body ++ (body.drop (q * N)).take N, left := j.left - ((body.drop (q * N)).take N).length }) := by
        unfold J.step; rw [if_neg (show ¬ (3 : Int) = 1 by decide), if_neg (show ¬ (3 : Int) = 2 by decide), hE, hJ]
      have hadd : j.add ⟨3, 9, (body.drop (q * N)).take N⟩ = (false, 0, { j with body := j.body ++ (body.drop (q * N)).take N, left := j.left - ((body.drop (q * N)).take N).length }) := by
        unfold J.add
        rw [hs]
        rw [if_neg (show ¬ (3 : Int) = 8 by decide), if_neg (by rw [h.ch]; simp), if_neg (by rw [hn]; simp), if_neg (by simp), if_pos (.inr (by simp only [hdl, hleft]; omega))]
      rw [hadd]
      refine ⟨rfl, h.ch, ?_, ?_, ?_, fun h => by omega, fun _ => .inr (.inr ⟨by omega, hn, ?_, ?_⟩)⟩
      · simp only [hdl, hleft]; omega
      · have := h.hi; simp only [hdl]; omega
      · have := hM.n; simp only [List.length_append, hdl]; omega
      · simp only [List.length_append, hdl]; omega
      · simp only [hdl, hleft, e1, Nat.add_sub_cancel, hx]; omega
end
end Go.Proofs.Ytaeainkfllfdfaa
/- E1: The reference's SameTable at two tables that are one: it answers true, and turns nothing. -/
namespace Go.Proofs.Ytaeainkfllfdfaa
open Go.RowKit
set_option linter.unusedVariables false
set_option linter.unusedSimpArgs false
set_option maxRecDepth 100000

def SameT (l : L) : Prop := ∀ (A B : Option Addr) (ca cb : Nat) (S : Nat → Prop) (w : World), l.len ≤ 140737488351232 → l.Ok → Sl w S A l → Sl w S B l →
  Calls Try.prog 30 #[.slice A l.len ca, .slice B l.len cb] w fun e w' => e = .returned (.bool true) ∧ Still w w'
theorem SameT.use {l : L} (h : SameT l) (A B : Option Addr) (ca cb : Nat) (S : Nat → Prop) (w : World) (hl : l.len ≤ 140737488351232) (hO : l.Ok) (hA : Sl w S A l) (hB : Sl w S B l) :
  Calls Try.prog 30 #[.slice A l.len ca, .slice B l.len cb] w fun e w' => e = .returned (.bool true) ∧ Still w w' := h A B ca cb S w hl hO hA hB

set_option maxHeartbeats 2000000 in
theorem sameT : ∀ l, SameT l := L.ind fun l ih => by
  intro A B ca cb S w hl hO hA hB
  have HI := Kp.mk ih; clear ih
  have HO := Kp.mk hO; clear hO
  have HA := Kp.mk hA; clear hA
  have HB := Kp.mk hB; clear hB
  go_enter Try.func30, Try.ntmps30
  go_wp2_with fail
  go_loopw [5] (fun i wr => ∃ j : Nat, j ≤ l.len ∧ i = .int .i64 j ∧ Kp (Still w wr)) (fun i _ => (l.len - intOf i).toNat)
  case atStart => exact ⟨0, by omega, rfl, ⟨Still.refl _⟩⟩
  case round =>
    obtain ⟨j, hj, rfl, HT⟩ := hrel
    by_cases hjl : j < l.len
    · obtain ⟨b, o, rfl, hb, hat⟩ := (HA.out.still HT.out).at (by omega : 0 < l.len)
      obtain ⟨b', o', rfl, hb', hat'⟩ := (HB.out.still HT.out).at (by omega : 0 < l.len)
      obtain ⟨A1, c1, p0, p1, p2, p3, p4, hs1⟩ := hat j hjl
      obtain ⟨A2, c2, q0, q1, q2, q3, q4, hs2⟩ := hat' j hjl
      have HS1 := Kp.mk hs1; have HS2 := Kp.mk hs2
      have HP := Kp.mk (fun W' (h : Still wr W') => And.intro (h.scell p1) (And.intro (h.scell p2) (And.intro (h.scell p3) (And.intro (h.scell p4) (And.intro (h.scell q1) (And.intro (h.scell q2) (And.intro (h.scell q3) (h.scell q4))))))))
      clear hat hat' hs1 hs2 hb hb'
      clear p1 p2 p3 p4 q1 q2 q3 q4
      go_wp2_with fail
      go_region_held3 (fun W => W.cell? ⟨b, o + j * 5 + 1, none⟩ = some (.int .i64 (l.get j).k) ∧ W.cell? ⟨b, o + j * 5 + 1 + 1, none⟩ = some (.int .i64 (l.get j).n) ∧ W.cell? ⟨b, o + j * 5 + 1 + 2, none⟩ = some (.string (l.get j).s) ∧ W.cell? ⟨b, o + j * 5 + 1 + 3, none⟩ = some (.slice A1 (l.get j).it.len c1) ∧
         W.cell? ⟨b', o' + j * 5 + 1, none⟩ = some (.int .i64 (l.get j).k) ∧ W.cell? ⟨b', o' + j * 5 + 1 + 1, none⟩ = some (.int .i64 (l.get j).n) ∧ W.cell? ⟨b', o' + j * 5 + 1 + 2, none⟩ = some (.string (l.get j).s) ∧ W.cell? ⟨b', o' + j * 5 + 1 + 3, none⟩ = some (.slice A2 (l.get j).it.len c2))
        ((refine HP.out _ ?_; (repeat' (first | exact Tch.refl _ _ | refine Tch.alloc ?_ _ | refine Tch.drew ?_))))
        (fail)
      · go_wp2_with fail
        have hW : Still wr (((wr.alloc (Obj.cells #[.int .i64 (l.get j).k, .int .i64 (l.get j).n, .string (l.get j).s, .slice A1 (l.get j).it.len c1] 34)).alloc (Obj.cells #[.int .i64 (l.get j).k, .int .i64 (l.get j).n, .string (l.get j).s, .slice A2 (l.get j).it.len c2] 34)).drew) := (((Still.refl wr).alloc _).alloc _).drew
        have v0 : (((wr.alloc (Obj.cells #[.int .i64 (l.get j).k, .int .i64 (l.get j).n, .string (l.get j).s, .slice A1 (l.get j).it.len c1] 34)).alloc (Obj.cells #[.int .i64 (l.get j).k, .int .i64 (l.get j).n, .string (l.get j).s, .slice A2 (l.get j).it.len c2] 34)).drew).cell? ⟨wr.heap.size, 0, none⟩ = some (.int .i64 (l.get j).k) := by go_simp
        have v1 : (((wr.alloc (Obj.cells #[.int .i64 (l.get j).k, .int .i64 (l.get j).n, .string (l.get j).s, .slice A1 (l.get j).it.len c1] 34)).alloc (Obj.cells #[.int .i64 (l.get j).k, .int .i64 (l.get j).n, .string (l.get j).s, .slice A2 (l.get j).it.len c2] 34)).drew).cell? ⟨wr.heap.size, 1, none⟩ = some (.int .i64 (l.get j).n) := by go_simp
        have v2 : (((wr.alloc (Obj.cells #[.int .i64 (l.get j).k, .int .i64 (l.get j).n, .string (l.get j).s, .slice A1 (l.get j).it.len c1] 34)).alloc (Obj.cells #[.int .i64 (l.get j).k, .int .i64 (l.get j).n, .string (l.get j).s, .slice A2 (l.get j).it.len c2] 34)).drew).cell? ⟨wr.heap.size, 2, none⟩ = some (.string (l.get j).s) := by go_simp
        have v3 : (((wr.alloc (Obj.cells #[.int .i64 (l.get j).k, .int .i64 (l.get j).n, .string (l.get j).s, .slice A1 (l.get j).it.len c1] 34)).alloc (Obj.cells #[.int .i64 (l.get j).k, .int .i64 (l.get j).n, .string (l.get j).s, .slice A2 (l.get j).it.len c2] 34)).drew).cell? ⟨wr.heap.size, 3, none⟩ = some (.slice A1 (l.get j).it.len c1) := by go_simp
        have u0 : (((wr.alloc (Obj.cells #[.int .i64 (l.get j).k, .int .i64 (l.get j).n, .string (l.get j).s, .slice A1 (l.get j).it.len c1] 34)).alloc (Obj.cells #[.int .i64 (l.get j).k, .int .i64 (l.get j).n, .string (l.get j).s, .slice A2 (l.get j).it.len c2] 34)).drew).cell? ⟨wr.heap.size + 1, 0, none⟩ = some (.int .i64 (l.get j).k) := by go_simp
        have u1 : (((wr.alloc (Obj.cells #[.int .i64 (l.get j).k, .int .i64 (l.get j).n, .string (l.get j).s, .slice A1 (l.get j).it.len c1] 34)).alloc (Obj.cells #[.int .i64 (l.get j).k, .int .i64 (l.get j).n, .string (l.get j).s, .slice A2 (l.get j).it.len c2] 34)).drew).cell? ⟨wr.heap.size + 1, 1, none⟩ = some (.int .i64 (l.get j).n) := by go_simp
        have u2 : (((wr.alloc (Obj.cells #[.int .i64 (l.get j).k, .int .i64 (l.get j).n, .string (l.get j).s, .slice A1 (l.get j).it.len c1] 34)).alloc (Obj.cells #[.int .i64 (l.get j).k, .int .i64 (l.get j).n, .string (l.get j).s, .slice A2 (l.get j).it.len c2] 34)).drew).cell? ⟨wr.heap.size + 1, 2, none⟩ = some (.string (l.get j).s) := by go_simp
        have u3 : (((wr.alloc (Obj.cells #[.int .i64 (l.get j).k, .int .i64 (l.get j).n, .string (l.get j).s, .slice A1 (l.get j).it.len c1] 34)).alloc (Obj.cells #[.int .i64 (l.get j).k, .int .i64 (l.get j).n, .string (l.get j).s, .slice A2 (l.get j).it.len c2] 34)).drew).cell? ⟨wr.heap.size + 1, 3, none⟩ = some (.slice A2 (l.get j).it.len c2) := by go_simp
        generalize (((wr.alloc (Obj.cells #[.int .i64 (l.get j).k, .int .i64 (l.get j).n, .string (l.get j).s, .slice A1 (l.get j).it.len c1] 34)).alloc (Obj.cells #[.int .i64 (l.get j).k, .int .i64 (l.get j).n, .string (l.get j).s, .slice A2 (l.get j).it.len c2] 34)).drew) = W2 at *
        generalize wr.heap.size + 1 = Y at *
        generalize wr.heap.size = X at *
        have HT2 := Kp.mk (HT.out.strans hW)
        have HQ := Kp.mk (fun W' (h : Still W2 W') => (show W'.cell? ⟨X, 0, none⟩ = some (.int .i64 (l.get j).k) ∧ W'.cell? ⟨X, 1, none⟩ = some (.int .i64 (l.get j).n) ∧ W'.cell? ⟨X, 2, none⟩ = some (.string (l.get j).s) ∧ W'.cell? ⟨X, 3, none⟩ = some (.slice A1 (l.get j).it.len c1) ∧ W'.cell? ⟨Y, 0, none⟩ = some (.int .i64 (l.get j).k) ∧ W'.cell? ⟨Y, 1, none⟩ = some (.int .i64 (l.get j).n) ∧ W'.cell? ⟨Y, 2, none⟩ = some (.string (l.get j).s) ∧ W'.cell? ⟨Y, 3, none⟩ = some (.slice A2 (l.get j).it.len c2) ∧ W'.cell? ⟨b, o + j * 5, none⟩ = some (.string (l.get j).nm) ∧ W'.cell? ⟨b', o' + j * 5, none⟩ = some (.string (l.get j).nm) from
          ⟨h.scell v0, h.scell v1, h.scell v2, h.scell v3, h.scell u0, h.scell u1, h.scell u2, h.scell u3, h.scell (hW.scell p0), h.scell (hW.scell q0)⟩))
        have HS3 := Kp.mk (fun W' (h : Still W2 W') => HS1.out.still (hW.strans h))
        have HS4 := Kp.mk (fun W' (h : Still W2 W') => HS2.out.still (hW.strans h))
        clear v0 v1 v2 v3 u0 u1 u2 u3 hW p0 q0 HS1 HS2 HP
        go_region_held3 (fun W => W.cell? ⟨X, 0, none⟩ = some (.int .i64 (l.get j).k) ∧ W.cell? ⟨X, 1, none⟩ = some (.int .i64 (l.get j).n) ∧ W.cell? ⟨X, 2, none⟩ = some (.string (l.get j).s) ∧ W.cell? ⟨X, 3, none⟩ = some (.slice A1 (l.get j).it.len c1) ∧ W.cell? ⟨Y, 0, none⟩ = some (.int .i64 (l.get j).k) ∧ W.cell? ⟨Y, 1, none⟩ = some (.int .i64 (l.get j).n) ∧ W.cell? ⟨Y, 2, none⟩ = some (.string (l.get j).s) ∧ W.cell? ⟨Y, 3, none⟩ = some (.slice A2 (l.get j).it.len c2) ∧ W.cell? ⟨b, o + j * 5, none⟩ = some (.string (l.get j).nm) ∧ W.cell? ⟨b', o' + j * 5, none⟩ = some (.string (l.get j).nm))
          ((refine HQ.out _ ?_; (repeat' (first | exact Tch.refl _ _ | exact HT5.out | refine Tch.alloc ?_ _ | refine Tch.drew ?_))))
          (first
           | (go_at_call 30; (refine ((HI.out j hjl).use A1 A2 c1 c2 S _ (HO.out.get j hjl).1.2.2.1 (HO.out.get j hjl).2 (HS3.out _ ?_) (HS4.out _ ?_)).mono ?_); (repeat' (first | exact Tch.refl _ _ | refine Tch.drew ?_)); (repeat' (first | exact Tch.refl _ _ | refine Tch.drew ?_)); rintro e w5 ⟨rfl, ht5⟩; have HT5 := Kp.mk (show Still W2 w5 from Tch.strans (by (repeat' (first | exact Tch.refl _ _ | refine Tch.drew ?_))) ht5); clear ht5))
        all_goals go_wp2_with fail
        all_goals go_roundw
        all_goals first
         | exact ⟨j + 1, by omega, by go_num, ⟨HT2.out.strans HT5.out⟩⟩
         | (go_light; simp only [intOf]; omega)
      · go_wp2_with fail
        have hW : Still wr (((wr.alloc (Obj.cells #[.int .i64 (l.get j).k, .int .i64 (l.get j).n, .string (l.get j).s, .slice A2 (l.get j).it.len c2] 34)).alloc (Obj.cells #[.int .i64 (l.get j).k, .int .i64 (l.get j).n, .string (l.get j).s, .slice A1 (l.get j).it.len c1] 34)).drew) := (((Still.refl wr).alloc _).alloc _).drew
        have v0 : (((wr.alloc (Obj.cells #[.int .i64 (l.get j).k, .int .i64 (l.get j).n, .string (l.get j).s, .slice A2 (l.get j).it.len c2] 34)).alloc (Obj.cells #[.int .i64 (l.get j).k, .int .i64 (l.get j).n, .string (l.get j).s, .slice A1 (l.get j).it.len c1] 34)).drew).cell? ⟨wr.heap.size + 1, 0, none⟩ = some (.int .i64 (l.get j).k) := by go_simp
        have v1 : (((wr.alloc (Obj.cells #[.int .i64 (l.get j).k, .int .i64 (l.get j).n, .string (l.get j).s, .slice A2 (l.get j).it.len c2] 34)).alloc (Obj.cells #[.int .i64 (l.get j).k, .int .i64 (l.get j).n, .string (l.get j).s, .slice A1 (l.get j).it.len c1] 34)).drew).cell? ⟨wr.heap.size + 1, 1, none⟩ = some (.int .i64 (l.get j).n) := by go_simp
        have v2 : (((wr.alloc (Obj.cells #[.int .i64 (l.get j).k, .int .i64 (l.get j).n, .string (l.get j).s, .slice A2 (l.get j).it.len c2] 34)).alloc (Obj.cells #[.int .i64 (l.get j).k, .int .i64 (l.get j).n, .string (l.get j).s, .slice A1 (l.get j).it.len c1] 34)).drew).cell? ⟨wr.heap.size + 1, 2, none⟩ = some (.string (l.get j).s) := by go_simp
        have v3 : (((wr.alloc (Obj.cells #[.int .i64 (l.get j).k, .int .i64 (l.get j).n, .string (l.get j).s, .slice A2 (l.get j).it.len c2] 34)).alloc (Obj.cells #[.int .i64 (l.get j).k, .int .i64 (l.get j).n, .string (l.get j).s, .slice A1 (l.get j).it.len c1] 34)).drew).cell? ⟨wr.heap.size + 1, 3, none⟩ = some (.slice A1 (l.get j).it.len c1) := by go_simp
        have u0 : (((wr.alloc (Obj.cells #[.int .i64 (l.get j).k, .int .i64 (l.get j).n, .string (l.get j).s, .slice A2 (l.get j).it.len c2] 34)).alloc (Obj.cells #[.int .i64 (l.get j).k, .int .i64 (l.get j).n, .string (l.get j).s, .slice A1 (l.get j).it.len c1] 34)).drew).cell? ⟨wr.heap.size, 0, none⟩ = some (.int .i64 (l.get j).k) := by go_simp
        have u1 : (((wr.alloc (Obj.cells #[.int .i64 (l.get j).k, .int .i64 (l.get j).n, .string (l.get j).s, .slice A2 (l.get j).it.len c2] 34)).alloc (Obj.cells #[.int .i64 (l.get j).k, .int .i64 (l.get j).n, .string (l.get j).s, .slice A1 (l.get j).it.len c1] 34)).drew).cell? ⟨wr.heap.size, 1, none⟩ = some (.int .i64 (l.get j).n) := by go_simp
        have u2 : (((wr.alloc (Obj.cells #[.int .i64 (l.get j).k, .int .i64 (l.get j).n, .string (l.get j).s, .slice A2 (l.get j).it.len c2] 34)).alloc (Obj.cells #[.int .i64 (l.get j).k, .int .i64 (l.get j).n, .string (l.get j).s, .slice A1 (l.get j).it.len c1] 34)).drew).cell? ⟨wr.heap.size, 2, none⟩ = some (.string (l.get j).s) := by go_simp
        have u3 : (((wr.alloc (Obj.cells #[.int .i64 (l.get j).k, .int .i64 (l.get j).n, .string (l.get j).s, .slice A2 (l.get j).it.len c2] 34)).alloc (Obj.cells #[.int .i64 (l.get j).k, .int .i64 (l.get j).n, .string (l.get j).s, .slice A1 (l.get j).it.len c1] 34)).drew).cell? ⟨wr.heap.size, 3, none⟩ = some (.slice A2 (l.get j).it.len c2) := by go_simp
        generalize (((wr.alloc (Obj.cells #[.int .i64 (l.get j).k, .int .i64 (l.get j).n, .string (l.get j).s, .slice A2 (l.get j).it.len c2] 34)).alloc (Obj.cells #[.int .i64 (l.get j).k, .int .i64 (l.get j).n, .string (l.get j).s, .slice A1 (l.get j).it.len c1] 34)).drew) = W2 at *
        generalize wr.heap.size + 1 = Y at *
        generalize wr.heap.size = X at *
        have HT2 := Kp.mk (HT.out.strans hW)
        have HQ := Kp.mk (fun W' (h : Still W2 W') => (show W'.cell? ⟨Y, 0, none⟩ = some (.int .i64 (l.get j).k) ∧ W'.cell? ⟨Y, 1, none⟩ = some (.int .i64 (l.get j).n) ∧ W'.cell? ⟨Y, 2, none⟩ = some (.string (l.get j).s) ∧ W'.cell? ⟨Y, 3, none⟩ = some (.slice A1 (l.get j).it.len c1) ∧ W'.cell? ⟨X, 0, none⟩ = some (.int .i64 (l.get j).k) ∧ W'.cell? ⟨X, 1, none⟩ = some (.int .i64 (l.get j).n) ∧ W'.cell? ⟨X, 2, none⟩ = some (.string (l.get j).s) ∧ W'.cell? ⟨X, 3, none⟩ = some (.slice A2 (l.get j).it.len c2) ∧ W'.cell? ⟨b, o + j * 5, none⟩ = some (.string (l.get j).nm) ∧ W'.cell? ⟨b', o' + j * 5, none⟩ = some (.string (l.get j).nm) from
          ⟨h.scell v0, h.scell v1, h.scell v2, h.scell v3, h.scell u0, h.scell u1, h.scell u2, h.scell u3, h.scell (hW.scell p0), h.scell (hW.scell q0)⟩))
        have HS3 := Kp.mk (fun W' (h : Still W2 W') => HS1.out.still (hW.strans h))
        have HS4 := Kp.mk (fun W' (h : Still W2 W') => HS2.out.still (hW.strans h))
        clear v0 v1 v2 v3 u0 u1 u2 u3 hW p0 q0 HS1 HS2 HP
        go_region_held3 (fun W => W.cell? ⟨Y, 0, none⟩ = some (.int .i64 (l.get j).k) ∧ W.cell? ⟨Y, 1, none⟩ = some (.int .i64 (l.get j).n) ∧ W.cell? ⟨Y, 2, none⟩ = some (.string (l.get j).s) ∧ W.cell? ⟨Y, 3, none⟩ = some (.slice A1 (l.get j).it.len c1) ∧ W.cell? ⟨X, 0, none⟩ = some (.int .i64 (l.get j).k) ∧ W.cell? ⟨X, 1, none⟩ = some (.int .i64 (l.get j).n) ∧ W.cell? ⟨X, 2, none⟩ = some (.string (l.get j).s) ∧ W.cell? ⟨X, 3, none⟩ = some (.slice A2 (l.get j).it.len c2) ∧ W.cell? ⟨b, o + j * 5, none⟩ = some (.string (l.get j).nm) ∧ W.cell? ⟨b', o' + j * 5, none⟩ = some (.string (l.get j).nm))
          ((refine HQ.out _ ?_; (repeat' (first | exact Tch.refl _ _ | exact HT5.out | refine Tch.alloc ?_ _ | refine Tch.drew ?_))))
          (first
           | (go_at_call 30; (refine ((HI.out j hjl).use A1 A2 c1 c2 S _ (HO.out.get j hjl).1.2.2.1 (HO.out.get j hjl).2 (HS3.out _ ?_) (HS4.out _ ?_)).mono ?_); (repeat' (first | exact Tch.refl _ _ | refine Tch.drew ?_)); (repeat' (first | exact Tch.refl _ _ | refine Tch.drew ?_)); rintro e w5 ⟨rfl, ht5⟩; have HT5 := Kp.mk (show Still W2 w5 from Tch.strans (by (repeat' (first | exact Tch.refl _ _ | refine Tch.drew ?_))) ht5); clear ht5))
        all_goals go_wp2_with fail
        all_goals go_roundw
        all_goals first
         | exact ⟨j + 1, by omega, by go_num, ⟨HT2.out.strans HT5.out⟩⟩
         | (go_light; simp only [intOf]; omega)
    · have hje : j = l.len := by omega
      subst hje
      go_wp2_with fail
      go_ret
      exact ⟨rfl, HT.out⟩
end Go.Proofs.Ytaeainkfllfdfaa
/- E2: The reference's SameMethod at two calls that are one: it answers true, and turns nothing. -/
namespace Go.Proofs.Ytaeainkfllfdfaa
open Go.RowKit
set_option linter.unusedVariables false
set_option linter.unusedSimpArgs false
set_option maxRecDepth 100000

set_option maxHeartbeats 4000000 in
theorem sameM29 (m : M) (A B : Option Addr) (n p : Nat) (S : Nat → Prop) (w : World) (hm : m.Ok) (hA : Sl w S A m.ar) (hB : Sl w S B m.ar) :
    Calls Try.prog 29 #[m.val A n, m.val B p] w fun e w' => e = .returned (.bool true) ∧ Still w w' := by
  have C := Kp.mk (fun W (hs : Still w W) => (sameT m.ar).use A B n p S W hm.arl hm.ar (hA.still hs) (hB.still hs))
  clear hA hB hm
  go_enter Try.func29, Try.ntmps29
  go_wp2_with (refine (C.out _ (((Still.refl _).alloc _).alloc _)).mono ?_; rintro e w1 ⟨rfl, hw1⟩)
  all_goals go_ret
  all_goals exact ⟨rfl, (((Still.refl _).alloc _).alloc _).strans hw1⟩
end Go.Proofs.Ytaeainkfllfdfaa
/- D13: The walk of ContentBack. -/
namespace Go.Proofs.Ytaeainkfllfdfaa
open Go.RowKit
set_option linter.unusedVariables false
set_option linter.unusedSimpArgs false
set_option maxRecDepth 100000

set_option maxHeartbeats 4000000 in
theorem back6 (m : M) (A : Option Addr) (c : Nat) (p : L) (AP : Option Addr) (cP : Nat) (body : List UInt8) (AB : Option Addr) (cB : Nat) (most out : Int) (w : World) (hM : m.Ok) (hS : Sl w (fun b => b < w.heap.size) A m.ar)
    (hO : p.Ok) (hl : p.len ≤ 140737488351232) (hSP : Sl w (fun b => b < w.heap.size) AP p) (hB : Bs w (fun b => b < w.heap.size) AB body) (hbl : body.length ≤ 140737488351232) (hbc : body.length ≤ cB) (hbc2 : cB ≤ 9223372036854775807)
    (hm1 : -9223372036854775808 ≤ most) (hm2 : most ≤ 9223372036854775807) (ho1 : -9223372036854775808 ≤ out) (ho2 : out ≤ 9223372036854775807) :
    Calls Try.prog 6 #[m.val A c, .slice AP p.len cP, .slice AB body.length cB, .int .i64 most, .int .i64 out] w fun e w' => e = .returned (.bool true) ∧ Still w w' := by
  have HMO := Kp.mk hM; have HPO := Kp.mk hO; have HSM := Kp.mk hS; have HSP := Kp.mk hSP; have HSB := Kp.mk hB
  have HM0 := Kp.mk (MAt.new (c := c) m hS)
  clear hM hO hS hSP hB
  go_enter Try.func6, Try.ntmps6
  go_wp2_with fail
  refine (few23 m A c _ _ HMO.out (HSM.out.still ((Still.refl _).alloc _))).mono ?_
  rintro e w1 ⟨⟨fw, rfl⟩, ht1⟩
  have HT1 := Kp.mk (((Still.refl w).alloc _).strans ht1)
  have HM1 := Kp.mk (HM0.out.still ht1)
  clear ht1 HM0
  cases fw with
  | false =>
    go_wp2_with fail
    refine (told24 w1).mono ?_
    rintro e w2 ⟨rfl, ht2⟩
    have HT2 := Kp.mk (HT1.out.strans ht2); clear ht2
    go_wp2_with fail
    go_ret
    exact ⟨rfl, HT2.out⟩
  | true =>
  go_wp2_with fail
  refine (few16 p AP cP _ w1 hl HPO.out (HSP.out.still HT1.out)).mono ?_
  rintro e w2 ⟨⟨fw, rfl⟩, ht2⟩
  have HT2 := Kp.mk (HT1.out.strans ht2)
  have HM2 := Kp.mk (HM1.out.still ht2)
  clear ht2 HM1 HT1
  cases fw with
  | false =>
    go_wp2_with fail
    refine (told24 w2).mono ?_
    rintro e w3 ⟨rfl, ht3⟩
    have HT3 := Kp.mk (HT2.out.strans ht3); clear ht3
    go_wp2_with fail
    go_ret
    exact ⟨rfl, HT3.out⟩
  | true =>
  by_cases hlong : 600 < body.length
  · go_wp2_with fail
    refine (told24 w2).mono ?_
    rintro e w3 ⟨rfl, ht3⟩
    have HT3 := Kp.mk (HT2.out.strans ht3); clear ht3
    go_wp2_with fail
    go_ret
    exact ⟨rfl, HT3.out⟩
  obtain ⟨q, hq0, hql⟩ := remL most 100 (by decide) (by decide)
  have hq : wrap64 ((IntKind.u64.wrap most).tmod 100) = (q : Int) := hq0
  obtain ⟨N, hN⟩ : ∃ N, N = q + 8 := ⟨_, rfl⟩
  have h9 : 8 + (q : Int) = (N : Int) := by omega
  have hN1 : 8 ≤ N := by omega
  have hN2 : N ≤ 107 := by omega
  clear hq0 hN
  have q0 := HM2.out.id
  have q1 := HM2.out.nm
  have q2 := HM2.out.ty
  have q3 := HM2.out.ex
  have q4 := HM2.out.ky
  have q5 := HM2.out.tx
  have q6 := HM2.out.co
  have q7 := HM2.out.cn
  have q8 := HM2.out.tg
  have q9 := HM2.out.fl
  have q10 := HM2.out.bk
  have q11 := HM2.out.ar
  go_wp2_with fail
  refine (cut25 9 N m p body w2 _ _ _ A AP AB c cP cB (by decide) (by decide) (by omega) (by omega) HMO.out HPO.out hl hbl hbc (HSM.out.still HT2.out) (HSP.out.still HT2.out) (HSB.out.still HT2.out)).mono ?_
  rintro e w3 ⟨A1, c1, rfl, hf1, ht3⟩
  have HT3 := Kp.mk (HT2.out.strans ht3)
  have HM3 := Kp.mk (HM2.out.still ht3)
  have HF := Kp.mk hf1.old
  have HSZ3 := Kp.mk (show w.heap.size < w3.heap.size by have := World.block_lt_of_cell? w2 _ q0; have := ht3.size; simp only at *; omega)
  clear ht3 hf1 HM2 HT2 q0 q1 q2 q3 q4 q5 q6 q7 q8 q9 q10 q11 hq h9 hql
  by_cases he : cutE 9 m p body.length N = 0
  · have hMsg := Msg.of HMO.out HPO.out (by omega) hN1 hN2 he
    have hcf := hMsg.cut he
    rw [hcf] at HF ⊢
    rw [he]
    have HG := Kp.mk hMsg
    have HSTEP := Kp.mk (jst_step hMsg)
    have HKS := Kp.mk (fun o i j => @KI.step m p body N hMsg o i j)
    have HKK := Kp.mk (fun o j => @KI.skip m p body N hMsg o j)
    have HK0 := Kp.mk (KI.first hMsg)
    have HD := Kp.mk (frs_d hMsg)
    have HJOK := Kp.mk (jst_ok hMsg)
    have hlen := frs_len m p body N
    rw [nCh_nat] at hlen
    have hlen2 : 2 ≤ (frs m p body N).length := by rw [hlen]; exact Nat.le_add_right _ _
    have hlen3 : (frs m p body N).length ≤ 1000 := by
      rw [hlen]
      have h1 : (body.length + N - 1) / N ≤ (body.length + N - 1) / 8 := Nat.div_le_div_left hN1 (by decide)
      have h2 : (body.length + N - 1) / 8 ≤ 900 := by omega
      exact Nat.le_trans (Nat.add_le_add_left (Nat.le_trans h1 h2) 2) (by decide)
    obtain ⟨bf, of_, rfl, hat⟩ := fs_frame HF.out (by omega)
    have HAT := Kp.mk hat
    clear hcf he hat hMsg hlen
    generalize hfs : frs m p body N = fs at *
    have hulen := u64_small fs.length (by omega)
    obtain ⟨o, ho0, hol⟩ := remL out fs.length (by omega) (by omega)
    have ho : wrap64 ((IntKind.u64.wrap out).tmod (fs.length : Int)) = (o : Int) := ho0
    clear ho0
    go_wp2_with fail
    refine (new26 9 w3).mono ?_
    rintro e w4 ⟨rfl, hw4⟩
    have hz1 := JZ.new 9 w3
    have ht4 : Still w3 (w3.alloc ((J.new 9).obj none 0 none 0 none 0)) := (Still.refl _).alloc _
    have hs4 : (w3.alloc ((J.new 9).obj none 0 none 0 none 0)).heap.size = w3.heap.size + 1 := by simp
    rw [← hw4] at hz1 ht4 hs4
    clear hw4
    have HZ1 := Kp.mk hz1; have HT4 := Kp.mk ht4; have HS4 := Kp.mk hs4; clear hz1 ht4 hs4
    generalize hbj : w3.heap.size = bj at *
    have HBJ := Kp.mk hbj; clear hbj
    go_wp2_with fail
    refine (new26 9 w4).mono ?_
    rintro e w5 ⟨rfl, hw5⟩
    have hz2 := JZ.new 9 w4
    have ht5 : Still w4 (w4.alloc ((J.new 9).obj none 0 none 0 none 0)) := (Still.refl _).alloc _
    rw [← hw5] at hz2 ht5
    clear hw5
    have HZ2 := Kp.mk hz2
    have HZ1' := Kp.mk (HZ1.out.still ht5)
    have HT5 := Kp.mk (HT4.out.strans ht5)
    generalize hbk : w4.heap.size = bk at *
    have HBK := Kp.mk hbk
    have HSK := Kp.mk HS4.out
    clear hz2 ht5 hbk HZ1 HT4 HS4
    go_wp2_with fail
    rw [ho]
    clear ho hulen
    go_loopw [16, 17] (fun v i wr => ∃ (t : Nat) (Zj Zk : Nat → Prop) (jk : J), t ≤ fs.length ∧ i = .int .i64 t ∧ v = .bool false ∧ Kp (JZ wr Zj bj (if t = fs.length then jfin m p body else jst m p body N t)) ∧ Kp (JZ wr Zk bk jk) ∧ Kp (KI m p body N o t jk) ∧ Kp (∀ x, Zj x → bj ≤ x ∧ ¬ Zk x) ∧ Kp (∀ x, Zk x → bj ≤ x) ∧ Kp (Still w3 wr)) (fun _ i _ => fs.length - (intOf i).toNat)
    case atStart =>
      refine ⟨0, (· = bj), (· = bk), J.new 9, by omega, rfl, rfl, ⟨?_⟩, HZ2, ⟨HK0.out o⟩, ⟨fun x hx => ⟨by omega, fun hy => by have := HSK.out; omega⟩⟩, ⟨fun x hx => by have := HSK.out; omega⟩, HT5⟩
      rw [if_neg (by omega)]
      exact HZ1'.out
    case round =>
      obtain ⟨t, Zj, Zk, jk, ht, rfl, rfl, HZJ, HZK, HKI, HDJ, HDK, HT⟩ := hrel
      by_cases hlt : t < fs.length
      · obtain ⟨A', c', p0, p1, p2, HB⟩ := HAT.out wr HT.out t hlt
        have hzj := HZJ.out
        rw [if_neg (by omega)] at hzj
        have HZJ0 := Kp.mk hzj
        have HFD := Kp.mk (HD.out t hlt)
        have HNF := Kp.mk (fun x (hx : (fun b => (fun b => w2.heap.size ≤ b) b ∧ b < bj) x) => show ¬ Zj x from fun hz => by have := hx.2; have := (HDJ.out x hz).1; omega)
        have HNK := Kp.mk (fun x (hx : (fun b => (fun b => w2.heap.size ≤ b) b ∧ b < bj) x) => show ¬ Zk x from fun hz => by have := hx.2; have := HDK.out x hz; omega)
        clear hzj HZJ
        go_wp2_with fail
        refine (add27 (jst m p body N t) (fs[t]'hlt) bj Zj _ A' c' wr HZJ0.out (HJOK.out t).1 (HJOK.out t).2.1 (HJOK.out t).2.2 (by have := HFD.out; omega) HB.out.2.1 HB.out.2.2 HB.out.1 HNF.out).mono ?_
        rintro e w6 ⟨rfl, ⟨Zj', hz', hsub⟩, ht6⟩
        rw [HSTEP.out t hlt] at hz' ⊢
        have HZJ' : Kp (JZ w6 Zj' bj (if t + 1 = fs.length then jfin m p body else jst m p body N (t + 1))) := ⟨hz'⟩
        have HDJ' := Kp.mk (show ∀ x, Zj' x → bj ≤ x ∧ ¬ Zk x from fun x hx => (hsub x hx).elim (HDJ.out x) (fun h => ⟨by have := HT.out.size; have := HBJ.out; omega, fun hk => by have := HZK.out.lt x hk; omega⟩))
        have HZK' := Kp.mk (HZK.out.tch ht6 (fun x hx hz => (HDJ.out x hz).2 hx))
        have HT6 := Kp.mk (show Still w3 w6 from HT.out.trans ht6 (fun x hx hz => by have := (HDJ.out x hz).1; have := HBJ.out; omega))
        obtain ⟨d, hd⟩ : ∃ d, d = decide (t + 1 = fs.length) := ⟨_, rfl⟩
        have hb : ((t : Int) == (fs.length : Int) - 1) = d := by
          rw [hd, Bool.eq_iff_iff]; simp; omega
        rw [← hd]
        clear hz' hsub ht6 p0 p1 p2 hd HZJ0 HZK HDJ
        by_cases hio : t = o
        · subst hio
          have hk2 := HKK.out t jk HKI.out hlt
          have HKI2 := Kp.mk hk2
          clear hk2
          go_wp2_with fail
          go_roundw
          case rel => exact ⟨t + 1, Zj', Zk, jk, by omega, by go_num, rfl, HZJ', HZK', HKI2, HDJ', HDK, HT6⟩
          case measure => go_light; simp only [intOf]; omega
        · obtain ⟨A7, c7, p0, p1, p2, HB7⟩ := HAT.out w6 HT6.out t hlt
          obtain ⟨g1, g2⟩ := HKS.out o t jk HKI.out hol hlt hio
          have HKI2 := Kp.mk g2
          clear g2
          go_wp2_with fail
          refine (add27 jk (fs[t]'hlt) bk Zk _ A7 c7 w6 HZK'.out HKI.out.lo HKI.out.hi (by have := HKI.out.bl; omega) (by have := HFD.out; omega) HB7.out.2.1 HB7.out.2.2 HB7.out.1 HNK.out).mono ?_
          rintro e w7 ⟨rfl, ⟨Zk', hz', hsub⟩, ht7⟩
          rw [g1]
          have HZK2 := Kp.mk hz'
          have HDK2 := Kp.mk (show ∀ x, Zk' x → bj ≤ x from fun x hx => (hsub x hx).elim (HDK.out x) (fun h => by have := HT6.out.size; have := HBJ.out; omega))
          have HDJ2 := Kp.mk (show ∀ x, Zj' x → bj ≤ x ∧ ¬ Zk' x from fun x hx => ⟨(HDJ'.out x hx).1, fun hk => (hsub x hk).elim (HDJ'.out x hx).2 (fun h => by have := HZJ'.out.lt x hx; omega)⟩)
          have HZJ2 := Kp.mk (HZJ'.out.tch ht7 (fun x hx hz => (HDJ'.out x hx).2 hz))
          have HT7 := Kp.mk (show Still w3 w7 from HT6.out.trans ht7 (fun x hx hz => by have := HDK.out x hz; have := HBJ.out; omega))
          clear hz' hsub ht7 p0 p1 p2 g1
          go_wp2_with fail
          go_roundw
          case rel => exact ⟨t + 1, Zj', Zk', _, by omega, by go_num, rfl, HZJ2, HZK2, HKI2, HDJ2, HDK2, HT7⟩
          case measure => go_light; simp only [intOf]; omega
      · have htl : t = fs.length := by omega
        subst htl
        have hzj := HZJ.out
        rw [if_pos rfl] at hzj
        have HZF := Kp.mk hzj
        clear hzj HZJ HZK HKI HDJ HDK hlt ht
        go_wp2_with fail
        refine (done28 (jfin m p body) bj Zj wr HZF.out rfl (by have := HG.out.may; have h32 := ((mayTab_iff 1 p).1 this).2.1; show p.len ≤ _; omega) (by show body.length ≤ _; omega)).mono ?_
        rintro e w6 ⟨A5, c5, A6, c6, A7, c7, rfl, HSA, HSB6, HSC, HT56⟩
        rw [show (jfin m p body).body.length = body.length from rfl, show (jfin m p body).props.len = p.len from rfl]
        rw [show (jfin m p body).m = m from rfl] at HSA ⊢
        rw [show (jfin m p body).props = p from rfl] at HSB6
        have HT6 := Kp.mk (HT.out.strans HT56.out)
        go_wp2_with fail
        have hx7 := MAt.new (c := c5) m HSA.out
        have ht7 : Still w6 (w6.alloc (m.obj A5 c5)) := (Still.refl _).alloc _
        change MAt (w6.alloc (m.obj A5 c5)) _ _ _ _ _ at hx7
        refine (told24 (w6.alloc (m.obj A5 c5))).mono ?_
        rintro e w8 ⟨rfl, ht8⟩
        have HX8 := Kp.mk (hx7.still ht8)
        have HT68 := Kp.mk (ht7.strans ht8)
        have HT8 := Kp.mk (HT3.out.strans (HT6.out.strans HT68.out))
        have HM8 := Kp.mk (HM3.out.still (HT6.out.strans HT68.out))
        clear hx7 ht7 ht8
        have y0 := HX8.out.id
        have y1 := HX8.out.nm
        have y2 := HX8.out.ty
        have y3 := HX8.out.ex
        have y4 := HX8.out.ky
        have y5 := HX8.out.tx
        have y6 := HX8.out.co
        have y7 := HX8.out.cn
        have y8 := HX8.out.tg
        have y9 := HX8.out.fl
        have y10 := HX8.out.bk
        have y11 := HX8.out.ar
        have z0 := HM8.out.id
        have z1 := HM8.out.nm
        have z2 := HM8.out.ty
        have z3 := HM8.out.ex
        have z4 := HM8.out.ky
        have z5 := HM8.out.tx
        have z6 := HM8.out.co
        have z7 := HM8.out.cn
        have z8 := HM8.out.tg
        have z9 := HM8.out.fl
        have z10 := HM8.out.bk
        have z11 := HM8.out.ar
        go_wp2_with fail
        refine (sameM29 m A5 A c5 c (fun _ => True) w8 HMO.out HX8.out.sl ((HSM.out.still HT8.out).weak (fun _ _ => trivial))).mono ?_
        rintro e w9 ⟨rfl, ht9⟩
        have HT9 := Kp.mk (HT8.out.strans ht9)
        have HT69 := Kp.mk (HT68.out.strans ht9)
        clear ht9 y0 y1 y2 y3 y4 y5 y6 y7 y8 y9 y10 y11 z0 z1 z2 z3 z4 z5 z6 z7 z8 z9 z10 z11
        go_wp2_with fail
        refine ((sameT p).use A6 AP c6 cP (fun _ => True) w9 hl HPO.out (HSB6.out.still HT69.out) ((HSP.out.still HT9.out).weak (fun _ _ => trivial))).mono ?_
        rintro e w10 ⟨rfl, ht10⟩
        have HT10 := Kp.mk (HT9.out.strans ht10)
        have k1 := run_conv (c := c7) (HSC.out.1.still (HT69.out.strans ht10)) (jfin m p body).body.length rfl
        have k2 := run_conv (c := cB) (HSB.out.still HT10.out) body.length rfl
        clear ht10
        rw [show (jfin m p body).body = body from rfl] at k1
        go_wp2_with fail
        go_ret
        exact ⟨rfl, HT10.out⟩
  · have hfz : cutF 9 m p body N = [] := by unfold cutF; rw [if_neg he]
    rw [hfz]
    have heb : (cutE 9 m p body.length N != 0) = true := by simpa using he
    generalize cutE 9 m p body.length N = e at *
    clear hfz he HF
    go_wp2_with fail
    refine (told24 w3).mono ?_
    rintro e w4 ⟨rfl, ht4⟩
    have HT4 := Kp.mk (HT3.out.strans ht4); clear ht4
    go_wp2_with fail
    go_ret
    exact ⟨rfl, HT4.out⟩
end Go.Proofs.Ytaeainkfllfdfaa
