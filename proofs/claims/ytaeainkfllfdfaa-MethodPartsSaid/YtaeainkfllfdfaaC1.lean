/- The small functions of method: Parts, part, empty, right, flag, num, and the library's IndexByte and HasSuffix on the letters. -/
import Derived.Test.YtaeainkfllfdfaaF3
import Derived.Test.YtaeainkfllfdfaaA8
import Derived.OwnWalk
namespace Go.Proofs.Ytaeainkfllfdfaa
open Go.RowKit
set_option linter.unusedVariables false
set_option linter.unusedSimpArgs false
set_option maxRecDepth 100000

theorem ret_str {a b : ByteArray} (h : a = b) : Ending.returned (.string a) = .returned (.string b) := by rw [h]
theorem ret_int {k : IntKind} {a b : Int} (h : a = b) : Ending.returned (.int k a) = .returned (.int k b) := by rw [h]
/-- The parts' letters as a text. -/
def ps (l : List UInt8) : ByteArray := ⟨l.toArray⟩
theorem ps_size (l : List UInt8) : (ps l).size = l.length := by simp [ps, ByteArray.size]

set_option maxHeartbeats 4000000 in
theorem parts33 (id : Int) (w : World) : Calls Try.prog 33 #[.int .i64 id] w fun e w' => e = .returned (.string (ps (partsL id))) ∧ w = w' := by
  go_enter Try.func33, Try.ntmps33
  go_wp2_with fail
  all_goals go_ret
  all_goals refine ⟨ret_str (congrArg ps ?_), rfl⟩
  all_goals go_light
  all_goals (try simp only [beq_iff_eq, beq_eq_false_iff_ne, ne_eq] at *)
  all_goals (simp [partsL, tabP, lookP, *])
set_option maxHeartbeats 1000000 in
theorem num63 (A : Option Addr) (c : Nat) (bs : List UInt8) (n : Int) (k : Nat) (K : Int) (base : Nat) (m : Nat) (w : World) (hm : m = bs.length) (hK : K = k) (hk : k ≤ 8) (hn0 : 0 ≤ n) (hn : n < 18446744073709551616) (ho : OwnB w base A c bs) (hb : base ≤ w.heap.size) (hlen : bs.length + k ≤ 140737488355328) :
    Calls Try.prog 63 #[.slice A m c, .int .u64 n, .int .i64 K] w (RetA base A (bs ++ be n.toNat k) w) := by
  subst hK; subst hm
  have HO := Kp.mk ho; clear ho
  have HQ := Kp.mk (fun j => byte_at n hn0 j)
  have hkb := be_length n.toNat k
  have HKB := Kp.mk hkb; clear hkb
  go_enter Try.func63, Try.ntmps63
  go_wp2_with fail
  go_loopw [0, 2] (fun v i wr => ∃ (j : Nat) (A' : Option Addr) (c' : Nat) (ds : List UInt8), j ≤ k ∧ i = .int .i64 ((j : Int) - 1) ∧ v = .slice A' ds.length c' ∧ Kp (ds ++ be n.toNat j = bs ++ be n.toNat k) ∧ Kp (OwnB wr base A' c' ds) ∧ Kp (Tch (blk A) w wr) ∧ Kp (∀ b, blk A' b → blk A b ∨ w.heap.size ≤ b)) (fun _ i _ => (intOf i + 1).toNat)
  case atStart => exact ⟨k, A, c, bs, by omega, by go_num, rfl, ⟨rfl⟩, HO, ⟨Tch.refl _ _⟩, ⟨fun b hb => .inl hb⟩⟩
  case round =>
    obtain ⟨j, A', c', ds, hj, rfl, rfl, HE, HW, HT, HB⟩ := hrel
    cases j with
    | zero =>
      have he := HE.out
      simp only [be, List.append_nil] at he
      subst he
      go_wp2_with fail
      go_ret
      exact ⟨A', c', rfl, HW.out, HT.out, HB.out⟩
    | succ j =>
      have g0 : (0 : Int) ≤ ((j + 1 : Nat) : Int) - 1 := by omega
      have hsz : ds.length + (j + 1) = bs.length + k := by have := congrArg List.length HE.out; simpa [be_length] using this
      have hbr : base ≤ wr.heap.size := Nat.le_trans hb HT.out.size
      go_wp2_with (at_builtin; (refine wpList_appB _ rfl _ _ rfl base A' c' _ 1 ds rfl rfl (HW.out.still ((Still.refl wr).alloc _)) (some ⟨wr.heap.size, 0, none⟩) 1 [UInt8.ofNat (n.toNat / 256 ^ j)] rfl rfl (fun _ => True) ?_ ?_ ?_ ?_); (rw [HQ.out]; exact Bs.one _ _ _ trivial (new_one _ _ _)); (simp only [List.length_cons, List.length_nil]; omega); (simp only [World.size_alloc]; omega); intro A2 c2 w2 ho2 ht2 hat2; have HO2 := Kp.mk ho2; have HT2 := Kp.mk ht2; have HA2 := Kp.mk hat2; clear ho2 ht2 hat2)
      go_roundw
      case rel =>
        refine ⟨j, A2, c2, ds ++ [UInt8.ofNat (n.toNat / 256 ^ j)], by omega, by go_num, by simp, ⟨?_⟩, HO2, ⟨?_⟩, ⟨?_⟩⟩
        · rw [← HE.out]; simp [be]
        · exact (HT.out.alloc _).trans HT2.out (fun b hb e => (HB.out b e).resolve_right (by omega))
        · intro b hb
          rcases HA2.out b hb with h | h
          · exact HB.out b h
          · have := HT.out.size; simp only [World.size_alloc] at h; exact .inr (by omega)
      case measure => go_light; simp only [intOf]; omega

theorem index_neg (l : List UInt8) (c : UInt8) : decide (Lib.indexByte l c < 0) = !l.contains c := by
  induction l with
  | nil => rfl
  | cons b l ih =>
    have hg := Lib.indexByte_ge l c
    unfold Lib.indexByte
    by_cases h : b = c
    · subst h; simp
    · have h2 : (b == c) = false := by simp [h]
      have h3 : ¬ c = b := fun e => h e.symm
      rw [h2]
      simp only [Bool.false_eq_true, if_false, List.contains_cons, show (c == b) = false by simp [h3], Bool.false_or]
      rw [← ih]
      by_cases hm : Lib.indexByte l c = -1
      · rw [hm]; rfl
      · rw [if_neg (by simp [hm])]
        rw [decide_eq_false (by omega), decide_eq_false (by omega)]
set_option maxHeartbeats 1000000 in
theorem idx82 (l : List UInt8) (c : UInt8) (w : World) : Calls Try.prog 82 #[.string (ps l), .int .u8 c.toNat] w fun e w' => e = .returned (.int .i64 (Lib.indexByte l c)) ∧ w = w' := by
  go_enter Try.func82, Try.ntmps82
  go_wp2_with fail
  rw [run_callFunc_extern Try.func92 (by kernel_rfl) (by kernel_rfl) (by kernel_rfl) (e := Extern.BytealgIndexByte.indexByte) (by kernel_rfl), Lib.run_indexByteString]
  simp only [Result.andThen]
  rw [Oper.upon_value]
  go_wp2
  go_ret
  exact ⟨ret_int (by simp [ps]), rfl⟩
theorem idx59 (l : List UInt8) (c : UInt8) (w : World) : Calls Try.prog 59 #[.string (ps l), .int .u8 c.toNat] w fun e w' => e = .returned (.int .i64 (Lib.indexByte l c)) ∧ w = w' := by
  go_enter Try.func59, Try.ntmps59
  go_wp2_with fail
  refine (idx82 l c w).mono ?_
  rintro e w1 ⟨rfl, rfl⟩
  go_wp2_with fail
  go_ret
  exact ⟨rfl, rfl⟩

theorem flag64 (b : Bool) (w : World) : Calls Try.prog 64 #[.bool b] w fun e w' => e = .returned (.int .u8 (((if b then 1 else 0 : UInt8)).toNat : Int)) ∧ w = w' := by
  cases b
  all_goals go_enter Try.func64, Try.ntmps64
  all_goals go_wp2_with fail
  all_goals go_ret
  all_goals exact ⟨rfl, rfl⟩

theorem ps_suffix (l : List UInt8) (x : UInt8) : (ps (l ++ [x])).extract l.length (l.length + 1) = ps [x] := by
  refine ByteArray.ext (Array.ext' ?_)
  simp [ps, ByteArray.data_extract]
set_option maxHeartbeats 1000000 in
theorem suffix83 (l : List UInt8) (w : World) (hl : l.length ≤ 1000) : Calls Try.prog 83 #[.string (ps l), .string ⟨#[97]⟩] w fun e w' => e = .returned (.bool (l.getLast? == some 97)) ∧ w = w' := by
  rcases List.eq_nil_or_concat l with rfl | ⟨m, x, rfl⟩
  · go_enter Try.func83, Try.ntmps83
    go_wp2_with fail
    go_ret
    exact ⟨rfl, rfl⟩
  · have hz : (ps (m.concat x)).size = m.length + 1 := by rw [ps_size]; simp
    have hsf := ps_suffix m x
    have hm : m.length ≤ 1000 := by simp at hl; omega
    simp only [List.concat_eq_append] at *
    have HSF := Kp.mk hsf; clear hsf hl
    go_enter Try.func83, Try.ntmps83
    go_wp2_with fail
    go_ret
    refine ⟨ret_bool ?_, rfl⟩
    show (((ps (m ++ [x])).extract m.length (m.length + 1)).toList == [97]) = _
    rw [HSF.out, ByteArray.toList_eq]
    simp [ps]
theorem suffix62 (l : List UInt8) (w : World) (hl : l.length ≤ 1000) : Calls Try.prog 62 #[.string (ps l), .string ⟨#[97]⟩] w fun e w' => e = .returned (.bool (l.getLast? == some 97)) ∧ w = w' := by
  go_enter Try.func62, Try.ntmps62
  go_wp2_with fail
  refine (suffix83 l w hl).mono ?_
  rintro e w1 ⟨rfl, rfl⟩
  go_wp2_with fail
  go_ret
  exact ⟨rfl, rfl⟩

/-- In which cell a text part lies. -/
def fieldOf (c : UInt8) : Nat := if c = 110 then 1 else if c = 121 then 2 else if c = 101 then 3 else if c = 107 then 4 else 5
theorem part65 (b : Nat) (c : UInt8) (w : World) (hc : c = 110 ∨ c = 121 ∨ c = 101 ∨ c = 107 ∨ c = 120) : Calls Try.prog 65 #[.pointer (some ⟨b, 0, none⟩), .int .u8 c.toNat] w fun e w' => e = .returned (.pointer (some ⟨b, fieldOf c, none⟩)) ∧ w = w' := by
  rcases hc with rfl | rfl | rfl | rfl | rfl
  all_goals go_enter Try.func65, Try.ntmps65
  all_goals go_wp2_with fail
  all_goals go_ret
  all_goals exact ⟨rfl, rfl⟩
end Go.Proofs.Ytaeainkfllfdfaa
