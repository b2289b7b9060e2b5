/- The walk of MethodParts. -/
import Derived.Test.YtaeainkfllfdfaaF13
namespace Go.Proofs.Ytaeainkfllfdfaa
open Go.RowKit
set_option linter.unusedVariables false
set_option linter.unusedSimpArgs false
set_option maxRecDepth 100000

/-- The calls' numbers. -/
def idsL : List Int := [2010, 2011, 2040, 2041, 4010, 4011, 5010, 5011, 5020, 5021, 6010, 6011, 6020, 6021, 6040, 6050, 6060, 6070, 6071, 6072, 6080, 6090, 6120, 8510, 8511, 9010, 9011, 9020, 9021, 9030, 9031]
/-- One of them. -/
def idAt (k : Nat) : Int := idsL.getD k 0
/-- A call of that number with nothing else, and with one part. -/
def mI (id : Int) : M := { M.zero with id := id }
def mP (id : Int) (c : UInt8) : M :=
  if c = 110 then { mI id with nm := ⟨#[97]⟩ } else if c = 121 then { mI id with ty := ⟨#[98]⟩ } else if c = 101 then { mI id with ex := ⟨#[99]⟩ } else if c = 107 then { mI id with ky := ⟨#[100]⟩ } else if c = 120 then { mI id with tx := ⟨#[101]⟩ }
  else if c = 99 then { mI id with co := 6 } else if c = 117 then { mI id with cn := 7 } else if c = 116 then { mI id with tg := 8 } else if c = 102 then { mI id with fl := true } else if c = 98 then { mI id with bk := true }
  else { mI id with ar := .cons ⟨#[102]⟩ 0 0 .empty .nil .nil }
theorem mI_may : ∀ k : Fin 31, (mI (idAt k.val)).mayB = true := by decide +kernel
theorem mP_may : ∀ k : Fin 31, ∀ j : Fin 11, (mP (idAt k.val) (lettersL.getD j.val 0)).mayB = (partsL (idAt k.val)).contains (lettersL.getD j.val 0) := by decide +kernel
theorem ids_in : ∀ k : Fin 31, 0 ≤ idAt k.val ∧ idAt k.val ≤ 100000 := by decide +kernel
theorem mP_ok (id : Int) (h1 : 0 ≤ id) (h2 : id ≤ 100000) (c : UInt8) (hc : c ∈ lettersL) : (mP id c).Ok := by
  obtain ⟨a1, a2, a3, a4, a5, a6, a7, a8, a9, a10, a11, a12, a13, a14, a15⟩ := with_ok M.zero_ok id h1 h2
  rcases letters_five hc with rfl | rfl | rfl | rfl | rfl | rfl | rfl | rfl | rfl | rfl | rfl
  · exact ⟨a1, a2, a3, a4, a5, a6, a7, (by decide : (-9223372036854775808 : Int) ≤ 6), (by decide : (6 : Int) ≤ 9223372036854775807), a10, a11, a12, a13, a14, a15⟩
  · exact ⟨a1, a2, a3, a4, a5, a6, a7, a8, a9, (by decide : (-9223372036854775808 : Int) ≤ 7), (by decide : (7 : Int) ≤ 9223372036854775807), a12, a13, a14, a15⟩
  · exact ⟨a1, a2, a3, a4, a5, a6, a7, a8, a9, a10, a11, (by decide : (0 : Int) ≤ 8), (by decide : (8 : Int) < 18446744073709551616), a14, a15⟩
  · exact ⟨a1, a2, a3, a4, a5, a6, a7, a8, a9, a10, a11, a12, a13, a14, a15⟩
  · exact ⟨a1, a2, a3, a4, a5, a6, a7, a8, a9, a10, a11, a12, a13, a14, a15⟩
  · exact ⟨a1, a2, a3, a4, a5, a6, a7, a8, a9, a10, a11, a12, a13, ⟨⟨by decide, by decide, by decide, by decide, by decide, by decide, by decide⟩, trivial, trivial⟩, (by decide : (1 : Nat) ≤ 140737488351232)⟩
  · exact ⟨a1, a2, (by decide : (ByteArray.mk #[97]).size ≤ 140737488351232), a4, a5, a6, a7, a8, a9, a10, a11, a12, a13, a14, a15⟩
  · exact ⟨a1, a2, a3, (by decide : (ByteArray.mk #[98]).size ≤ 140737488351232), a5, a6, a7, a8, a9, a10, a11, a12, a13, a14, a15⟩
  · exact ⟨a1, a2, a3, a4, (by decide : (ByteArray.mk #[99]).size ≤ 140737488351232), a6, a7, a8, a9, a10, a11, a12, a13, a14, a15⟩
  · exact ⟨a1, a2, a3, a4, a5, (by decide : (ByteArray.mk #[100]).size ≤ 140737488351232), a7, a8, a9, a10, a11, a12, a13, a14, a15⟩
  · exact ⟨a1, a2, a3, a4, a5, a6, (by decide : (ByteArray.mk #[101]).size ≤ 140737488351232), a8, a9, a10, a11, a12, a13, a14, a15⟩
theorem contains_snoc (l : List UInt8) (c x : UInt8) : (l ++ [c]).contains x = (l.contains x || (c == x)) := by
  induction l with
  | nil =>
    by_cases h : c = x
    · subst h; simp
    · have h' : (c == x) = false := by simpa using h
      simp [List.contains_cons, h']
      exact fun e => h e.symm
  | cons a t ih => simp only [List.cons_append, List.contains_cons, ih, Bool.or_assoc]
theorem parts_len (id : Int) : (partsL id).length ≤ 100 := by
  by_cases h : partsL id = [45]
  · rw [h]; decide
  · have := (parts_a id h).2.1; omega
theorem MAt.weakS {w : World} {S T : Nat → Prop} {b : Nat} {A : Option Addr} {c : Nat} {m : M} (h : MAt w S b A c m) (hs : ∀ b, S b → T b) : MAt w T b A c m :=
  ⟨h.id, h.nm, h.ty, h.ex, h.ky, h.tx, h.co, h.cn, h.tg, h.fl, h.bk, h.ar, h.sl.weak hs⟩
theorem rem31 (i : Int) : ∃ k : Nat, wrap64 ((IntKind.u64.wrap i).tmod 31) = k ∧ k < 31 := remL i 31 (by decide) (by decide)
theorem rem11 (i : Int) : ∃ k : Nat, wrap64 ((IntKind.u64.wrap i).tmod 11) = k ∧ k < 11 := remL i 11 (by decide) (by decide)
theorem ids_cells : (idsL.map (Value.int .i64)).toArray = #[.int .i64 2010, .int .i64 2011, .int .i64 2040, .int .i64 2041, .int .i64 4010, .int .i64 4011, .int .i64 5010, .int .i64 5011, .int .i64 5020, .int .i64 5021, .int .i64 6010, .int .i64 6011, .int .i64 6020, .int .i64 6021, .int .i64 6040, .int .i64 6050, .int .i64 6060, .int .i64 6070, .int .i64 6071, .int .i64 6072, .int .i64 6080, .int .i64 6090, .int .i64 6120, .int .i64 8510, .int .i64 8511, .int .i64 9010, .int .i64 9011, .int .i64 9020, .int .i64 9021, .int .i64 9030, .int .i64 9031] := rfl
theorem ids_at (w : World) (k : Nat) (hk : k < 31) : (w.alloc (.cells #[.int .i64 2010, .int .i64 2011, .int .i64 2040, .int .i64 2041, .int .i64 4010, .int .i64 4011, .int .i64 5010, .int .i64 5011, .int .i64 5020, .int .i64 5021, .int .i64 6010, .int .i64 6011, .int .i64 6020, .int .i64 6021, .int .i64 6040, .int .i64 6050, .int .i64 6060, .int .i64 6070, .int .i64 6071, .int .i64 6072, .int .i64 6080, .int .i64 6090, .int .i64 6120, .int .i64 8510, .int .i64 8511, .int .i64 9010, .int .i64 9011, .int .i64 9020, .int .i64 9021, .int .i64 9030, .int .i64 9031] 3)).cell? ⟨w.heap.size, k, none⟩ = some (.int .i64 (idAt k)) := by
  rw [← ids_cells]
  refine cell_new' rfl ?_
  have : k < idsL.length := hk
  simp [idAt, List.getD, this]
theorem mI_ok (id : Int) (h1 : 0 ≤ id) (h2 : id ≤ 100000) : (mI id).Ok := with_ok M.zero_ok id h1 h2

set_option maxHeartbeats 1000000 in
theorem parts11_0 (a b : Int) (w : World) (k : Nat) (hk : wrap64 ((IntKind.u64.wrap a).tmod 31) = k) (hk31 : k < 31) (hj : wrap64 ((IntKind.u64.wrap b).tmod 11) = 0) :
    Calls Try.prog 11 #[.int .i64 a, .int .i64 b] w fun e w' => e = .returned (.bool true) ∧ Still w w' := by
  have hc0 := ids_at w k hk31
  have HMI := Kp.mk (mI_may ⟨k, hk31⟩)
  have HMP := Kp.mk (mP_may ⟨k, hk31⟩ ⟨0, by decide⟩)
  obtain ⟨hi1, hi2⟩ := ids_in ⟨k, hk31⟩
  simp only at hi1 hi2
  have hidx : ∀ w, (Instr.index 9 (.string ⟨#[110, 121, 101, 107, 120, 99, 117, 116, 102, 98, 97]⟩) (.int .i64 0)).run Try.prog w = .ok (.int .u8 110) w := fun w => letter_at 0 (by decide) w
  go_enter Try.func11, Try.ntmps11
  go_wp2_with fail
  generalize idAt k = id at *
  have hx := MAt.new (w := w.alloc (.cells #[.int .i64 2010, .int .i64 2011, .int .i64 2040, .int .i64 2041, .int .i64 4010, .int .i64 4011, .int .i64 5010, .int .i64 5011, .int .i64 5020, .int .i64 5021, .int .i64 6010, .int .i64 6011, .int .i64 6020, .int .i64 6021, .int .i64 6040, .int .i64 6050, .int .i64 6060, .int .i64 6070, .int .i64 6071, .int .i64 6072, .int .i64 6080, .int .i64 6090, .int .i64 6120, .int .i64 8510, .int .i64 8511, .int .i64 9010, .int .i64 9011, .int .i64 9020, .int .i64 9021, .int .i64 9030, .int .i64 9031] 3)) (S := fun _ => False) (A := none) (c := 0) (mI id) (Sl.nil _ _ _)
  rw [World.size_alloc] at hx
  have hxf : ∀ o, ((w.alloc (.cells #[.int .i64 2010, .int .i64 2011, .int .i64 2040, .int .i64 2041, .int .i64 4010, .int .i64 4011, .int .i64 5010, .int .i64 5011, .int .i64 5020, .int .i64 5021, .int .i64 6010, .int .i64 6011, .int .i64 6020, .int .i64 6021, .int .i64 6040, .int .i64 6050, .int .i64 6060, .int .i64 6070, .int .i64 6071, .int .i64 6072, .int .i64 6080, .int .i64 6090, .int .i64 6120, .int .i64 8510, .int .i64 8511, .int .i64 9010, .int .i64 9011, .int .i64 9020, .int .i64 9021, .int .i64 9030, .int .i64 9031] 3)).alloc ((mI id).obj none 0)).frozen? ⟨w.heap.size + 1, o, none⟩ = false := fun o => by go_simp
  have HX := Kp.mk hx; have HXF := Kp.mk hxf
  clear hx hxf hc0 hk
  refine (may32 (mI id) (mI_ok id hi1 hi2) (fun _ => True) none 0 _ (Sl.nil _ _ _)).mono ?_
  rintro e w1 ⟨rfl, ht1⟩
  rw [HMI.out]
  have HX1 := Kp.mk (HX.out.still ht1)
  have f0 := (ht1.frozen (a := ⟨w.heap.size + 1, 1, none⟩) (by simp) (fun f => f)).trans (HXF.out 1)
  have HT1 := Kp.mk ((((Still.refl w).alloc _).alloc _).strans ht1)
  have hsz1 := ht1.size
  simp only [World.size_alloc] at hsz1
  clear ht1 HX HXF
  have x0 := HX1.out.nm
  have x1 := HX1.out.id
  go_wp2_with fail
  have HX2 := Kp.mk (show MAt (w1.setCell ⟨w.heap.size + 1, 1, none⟩ (.string { data := #[97] })) (fun _ => False) (w.heap.size + 1) none 0 (mP id 110) from HX1.out.set_nm (fun h => h) _)
  have HT2 := Kp.mk (show Still w (w1.setCell ⟨w.heap.size + 1, 1, none⟩ (.string { data := #[97] })) from HT1.out.trans ((Tch.refl (· = w.heap.size + 1) _).setCell _ _ (fun _ => rfl)) (fun b hb e => by omega))
  generalize w1.setCell ⟨w.heap.size + 1, 1, none⟩ (.string { data := #[97] }) = w2 at *
  clear x0 x1 f0
  have hps := ps_size (partsL id)
  refine (parts33 id _).mono ?_
  rintro e w3 ⟨rfl, rfl⟩
  have hps2 : (partsL id).length ≤ 100 := parts_len id
  go_wp2_with fail
  go_loop [9, 10] (fun h i => ∃ k : Nat, k ≤ (partsL id).length ∧ i = .int .i64 k ∧ h = .bool (((partsL id).take k).contains 110)) (fun _ i => (partsL id).length - (intOf i).toNat)
  case atStart => exact ⟨0, Nat.zero_le _, rfl, rfl⟩
  case round =>
    obtain ⟨q, hq, rfl, rfl⟩ := hrel
    by_cases hlt : q < (partsL id).length
    · have hib : q < (ps (partsL id)).size := by omega
      have hci : (ps (partsL id))[q]'hib = (partsL id)[q] := rfl
      have HTK := Kp.mk (show ((partsL id).take (q + 1)).contains 110 = (((partsL id).take q).contains 110 || ((partsL id)[q] == 110)) by rw [List.take_succ_eq_append_getElem hlt, contains_snoc]; rfl)
      have hbt : (((partsL id)[q].toNat : Int) == 110) = ((partsL id)[q] == 110) := by
        rw [Bool.eq_iff_iff]; simp [← UInt8.toNat_inj]; omega
      generalize (partsL id)[q] = c at *
      cases hcn : ((partsL id).take q).contains 110 with
      | true =>
        rw [hcn] at HTK
        clear hcn
        go_wp2_with fail
        go_round
        case rel => exact ⟨q + 1, by omega, by go_num, by rw [HTK.out]; rfl⟩
        case measure => simp [intOf]; omega
      | false =>
        rw [hcn] at HTK
        clear hcn
        go_wp2_with fail
        go_round
        case rel => exact ⟨q + 1, by omega, by go_num, by rw [HTK.out]; rfl⟩
        case measure => simp [intOf]; omega
    · obtain rfl : q = (partsL id).length := by omega
      rw [List.take_length]
      change Kp ((mP id 110).mayB = (partsL id).contains 110) at HMP
      generalize (partsL id).contains 110 = hb at *
      go_wp2_with fail
      refine (told34 _).mono ?_
      rintro e w4 ⟨rfl, ht4⟩
      have HX4 := Kp.mk (HX2.out.still ht4)
      have HT4 := Kp.mk (HT2.out.strans ht4); clear ht4 HX2
      have q0 := HX4.out.id
      have q1 := HX4.out.nm
      have q2 := HX4.out.ty
      have q3 := HX4.out.ex
      have q4 := HX4.out.ky
      have q5 := HX4.out.tx
      have q6 := HX4.out.co
      have q7 := HX4.out.cn
      have q8 := HX4.out.tg
      have q9 := HX4.out.fl
      have q10 := HX4.out.bk
      have q11 := HX4.out.ar
      go_wp2_with fail
      refine (may32 (mP id 110) (mP_ok id hi1 hi2 110 (by decide)) _ _ _ _ HX4.out.sl).mono ?_
      rintro e w5 ⟨rfl, ht5⟩
      rw [HMP.out]
      have HT5 := Kp.mk (HT4.out.strans ht5); clear ht5 q0 q1 q2 q3 q4 q5 q6 q7 q8 q9 q10 q11
      go_wp2_with fail
      go_ret
      exact ⟨ret_bool (by simp), HT5.out⟩

set_option maxHeartbeats 1000000 in
theorem parts11_1 (a b : Int) (w : World) (k : Nat) (hk : wrap64 ((IntKind.u64.wrap a).tmod 31) = k) (hk31 : k < 31) (hj : wrap64 ((IntKind.u64.wrap b).tmod 11) = 1) :
    Calls Try.prog 11 #[.int .i64 a, .int .i64 b] w fun e w' => e = .returned (.bool true) ∧ Still w w' := by
  have hc0 := ids_at w k hk31
  have HMI := Kp.mk (mI_may ⟨k, hk31⟩)
  have HMP := Kp.mk (mP_may ⟨k, hk31⟩ ⟨1, by decide⟩)
  obtain ⟨hi1, hi2⟩ := ids_in ⟨k, hk31⟩
  simp only at hi1 hi2
  have hidx : ∀ w, (Instr.index 9 (.string ⟨#[110, 121, 101, 107, 120, 99, 117, 116, 102, 98, 97]⟩) (.int .i64 1)).run Try.prog w = .ok (.int .u8 121) w := fun w => letter_at 1 (by decide) w
  go_enter Try.func11, Try.ntmps11
  go_wp2_with fail
  generalize idAt k = id at *
  have hx := MAt.new (w := w.alloc (.cells #[.int .i64 2010, .int .i64 2011, .int .i64 2040, .int .i64 2041, .int .i64 4010, .int .i64 4011, .int .i64 5010, .int .i64 5011, .int .i64 5020, .int .i64 5021, .int .i64 6010, .int .i64 6011, .int .i64 6020, .int .i64 6021, .int .i64 6040, .int .i64 6050, .int .i64 6060, .int .i64 6070, .int .i64 6071, .int .i64 6072, .int .i64 6080, .int .i64 6090, .int .i64 6120, .int .i64 8510, .int .i64 8511, .int .i64 9010, .int .i64 9011, .int .i64 9020, .int .i64 9021, .int .i64 9030, .int .i64 9031] 3)) (S := fun _ => False) (A := none) (c := 0) (mI id) (Sl.nil _ _ _)
  rw [World.size_alloc] at hx
  have hxf : ∀ o, ((w.alloc (.cells #[.int .i64 2010, .int .i64 2011, .int .i64 2040, .int .i64 2041, .int .i64 4010, .int .i64 4011, .int .i64 5010, .int .i64 5011, .int .i64 5020, .int .i64 5021, .int .i64 6010, .int .i64 6011, .int .i64 6020, .int .i64 6021, .int .i64 6040, .int .i64 6050, .int .i64 6060, .int .i64 6070, .int .i64 6071, .int .i64 6072, .int .i64 6080, .int .i64 6090, .int .i64 6120, .int .i64 8510, .int .i64 8511, .int .i64 9010, .int .i64 9011, .int .i64 9020, .int .i64 9021, .int .i64 9030, .int .i64 9031] 3)).alloc ((mI id).obj none 0)).frozen? ⟨w.heap.size + 1, o, none⟩ = false := fun o => by go_simp
  have HX := Kp.mk hx; have HXF := Kp.mk hxf
  clear hx hxf hc0 hk
  refine (may32 (mI id) (mI_ok id hi1 hi2) (fun _ => True) none 0 _ (Sl.nil _ _ _)).mono ?_
  rintro e w1 ⟨rfl, ht1⟩
  rw [HMI.out]
  have HX1 := Kp.mk (HX.out.still ht1)
  have f0 := (ht1.frozen (a := ⟨w.heap.size + 1, 2, none⟩) (by simp) (fun f => f)).trans (HXF.out 2)
  have HT1 := Kp.mk ((((Still.refl w).alloc _).alloc _).strans ht1)
  have hsz1 := ht1.size
  simp only [World.size_alloc] at hsz1
  clear ht1 HX HXF
  have x0 := HX1.out.ty
  have x1 := HX1.out.id
  go_wp2_with fail
  have HX2 := Kp.mk (show MAt (w1.setCell ⟨w.heap.size + 1, 2, none⟩ (.string { data := #[98] })) (fun _ => False) (w.heap.size + 1) none 0 (mP id 121) from HX1.out.set_ty (fun h => h) _)
  have HT2 := Kp.mk (show Still w (w1.setCell ⟨w.heap.size + 1, 2, none⟩ (.string { data := #[98] })) from HT1.out.trans ((Tch.refl (· = w.heap.size + 1) _).setCell _ _ (fun _ => rfl)) (fun b hb e => by omega))
  generalize w1.setCell ⟨w.heap.size + 1, 2, none⟩ (.string { data := #[98] }) = w2 at *
  clear x0 x1 f0
  have hps := ps_size (partsL id)
  refine (parts33 id _).mono ?_
  rintro e w3 ⟨rfl, rfl⟩
  have hps2 : (partsL id).length ≤ 100 := parts_len id
  go_wp2_with fail
  go_loop [9, 10] (fun h i => ∃ k : Nat, k ≤ (partsL id).length ∧ i = .int .i64 k ∧ h = .bool (((partsL id).take k).contains 121)) (fun _ i => (partsL id).length - (intOf i).toNat)
  case atStart => exact ⟨0, Nat.zero_le _, rfl, rfl⟩
  case round =>
    obtain ⟨q, hq, rfl, rfl⟩ := hrel
    by_cases hlt : q < (partsL id).length
    · have hib : q < (ps (partsL id)).size := by omega
      have hci : (ps (partsL id))[q]'hib = (partsL id)[q] := rfl
      have HTK := Kp.mk (show ((partsL id).take (q + 1)).contains 121 = (((partsL id).take q).contains 121 || ((partsL id)[q] == 121)) by rw [List.take_succ_eq_append_getElem hlt, contains_snoc]; rfl)
      have hbt : (((partsL id)[q].toNat : Int) == 121) = ((partsL id)[q] == 121) := by
        rw [Bool.eq_iff_iff]; simp [← UInt8.toNat_inj]; omega
      generalize (partsL id)[q] = c at *
      cases hcn : ((partsL id).take q).contains 121 with
      | true =>
        rw [hcn] at HTK
        clear hcn
        go_wp2_with fail
        go_round
        case rel => exact ⟨q + 1, by omega, by go_num, by rw [HTK.out]; rfl⟩
        case measure => simp [intOf]; omega
      | false =>
        rw [hcn] at HTK
        clear hcn
        go_wp2_with fail
        go_round
        case rel => exact ⟨q + 1, by omega, by go_num, by rw [HTK.out]; rfl⟩
        case measure => simp [intOf]; omega
    · obtain rfl : q = (partsL id).length := by omega
      rw [List.take_length]
      change Kp ((mP id 121).mayB = (partsL id).contains 121) at HMP
      generalize (partsL id).contains 121 = hb at *
      go_wp2_with fail
      refine (told34 _).mono ?_
      rintro e w4 ⟨rfl, ht4⟩
      have HX4 := Kp.mk (HX2.out.still ht4)
      have HT4 := Kp.mk (HT2.out.strans ht4); clear ht4 HX2
      have q0 := HX4.out.id
      have q1 := HX4.out.nm
      have q2 := HX4.out.ty
      have q3 := HX4.out.ex
      have q4 := HX4.out.ky
      have q5 := HX4.out.tx
      have q6 := HX4.out.co
      have q7 := HX4.out.cn
      have q8 := HX4.out.tg
      have q9 := HX4.out.fl
      have q10 := HX4.out.bk
      have q11 := HX4.out.ar
      go_wp2_with fail
      refine (may32 (mP id 121) (mP_ok id hi1 hi2 121 (by decide)) _ _ _ _ HX4.out.sl).mono ?_
      rintro e w5 ⟨rfl, ht5⟩
      rw [HMP.out]
      have HT5 := Kp.mk (HT4.out.strans ht5); clear ht5 q0 q1 q2 q3 q4 q5 q6 q7 q8 q9 q10 q11
      go_wp2_with fail
      go_ret
      exact ⟨ret_bool (by simp), HT5.out⟩

set_option maxHeartbeats 1000000 in
theorem parts11_2 (a b : Int) (w : World) (k : Nat) (hk : wrap64 ((IntKind.u64.wrap a).tmod 31) = k) (hk31 : k < 31) (hj : wrap64 ((IntKind.u64.wrap b).tmod 11) = 2) :
    Calls Try.prog 11 #[.int .i64 a, .int .i64 b] w fun e w' => e = .returned (.bool true) ∧ Still w w' := by
  have hc0 := ids_at w k hk31
  have HMI := Kp.mk (mI_may ⟨k, hk31⟩)
  have HMP := Kp.mk (mP_may ⟨k, hk31⟩ ⟨2, by decide⟩)
  obtain ⟨hi1, hi2⟩ := ids_in ⟨k, hk31⟩
  simp only at hi1 hi2
  have hidx : ∀ w, (Instr.index 9 (.string ⟨#[110, 121, 101, 107, 120, 99, 117, 116, 102, 98, 97]⟩) (.int .i64 2)).run Try.prog w = .ok (.int .u8 101) w := fun w => letter_at 2 (by decide) w
  go_enter Try.func11, Try.ntmps11
  go_wp2_with fail
  generalize idAt k = id at *
  have hx := MAt.new (w := w.alloc (.cells #[.int .i64 2010, .int .i64 2011, .int .i64 2040, .int .i64 2041, .int .i64 4010, .int .i64 4011, .int .i64 5010, .int .i64 5011, .int .i64 5020, .int .i64 5021, .int .i64 6010, .int .i64 6011, .int .i64 6020, .int .i64 6021, .int .i64 6040, .int .i64 6050, .int .i64 6060, .int .i64 6070, .int .i64 6071, .int .i64 6072, .int .i64 6080, .int .i64 6090, .int .i64 6120, .int .i64 8510, .int .i64 8511, .int .i64 9010, .int .i64 9011, .int .i64 9020, .int .i64 9021, .int .i64 9030, .int .i64 9031] 3)) (S := fun _ => False) (A := none) (c := 0) (mI id) (Sl.nil _ _ _)
  rw [World.size_alloc] at hx
  have hxf : ∀ o, ((w.alloc (.cells #[.int .i64 2010, .int .i64 2011, .int .i64 2040, .int .i64 2041, .int .i64 4010, .int .i64 4011, .int .i64 5010, .int .i64 5011, .int .i64 5020, .int .i64 5021, .int .i64 6010, .int .i64 6011, .int .i64 6020, .int .i64 6021, .int .i64 6040, .int .i64 6050, .int .i64 6060, .int .i64 6070, .int .i64 6071, .int .i64 6072, .int .i64 6080, .int .i64 6090, .int .i64 6120, .int .i64 8510, .int .i64 8511, .int .i64 9010, .int .i64 9011, .int .i64 9020, .int .i64 9021, .int .i64 9030, .int .i64 9031] 3)).alloc ((mI id).obj none 0)).frozen? ⟨w.heap.size + 1, o, none⟩ = false := fun o => by go_simp
  have HX := Kp.mk hx; have HXF := Kp.mk hxf
  clear hx hxf hc0 hk
  refine (may32 (mI id) (mI_ok id hi1 hi2) (fun _ => True) none 0 _ (Sl.nil _ _ _)).mono ?_
  rintro e w1 ⟨rfl, ht1⟩
  rw [HMI.out]
  have HX1 := Kp.mk (HX.out.still ht1)
  have f0 := (ht1.frozen (a := ⟨w.heap.size + 1, 3, none⟩) (by simp) (fun f => f)).trans (HXF.out 3)
  have HT1 := Kp.mk ((((Still.refl w).alloc _).alloc _).strans ht1)
  have hsz1 := ht1.size
  simp only [World.size_alloc] at hsz1
  clear ht1 HX HXF
  have x0 := HX1.out.ex
  have x1 := HX1.out.id
  go_wp2_with fail
  have HX2 := Kp.mk (show MAt (w1.setCell ⟨w.heap.size + 1, 3, none⟩ (.string { data := #[99] })) (fun _ => False) (w.heap.size + 1) none 0 (mP id 101) from HX1.out.set_ex (fun h => h) _)
  have HT2 := Kp.mk (show Still w (w1.setCell ⟨w.heap.size + 1, 3, none⟩ (.string { data := #[99] })) from HT1.out.trans ((Tch.refl (· = w.heap.size + 1) _).setCell _ _ (fun _ => rfl)) (fun b hb e => by omega))
  generalize w1.setCell ⟨w.heap.size + 1, 3, none⟩ (.string { data := #[99] }) = w2 at *
  clear x0 x1 f0
  have hps := ps_size (partsL id)
  refine (parts33 id _).mono ?_
  rintro e w3 ⟨rfl, rfl⟩
  have hps2 : (partsL id).length ≤ 100 := parts_len id
  go_wp2_with fail
  go_loop [9, 10] (fun h i => ∃ k : Nat, k ≤ (partsL id).length ∧ i = .int .i64 k ∧ h = .bool (((partsL id).take k).contains 101)) (fun _ i => (partsL id).length - (intOf i).toNat)
  case atStart => exact ⟨0, Nat.zero_le _, rfl, rfl⟩
  case round =>
    obtain ⟨q, hq, rfl, rfl⟩ := hrel
    by_cases hlt : q < (partsL id).length
    · have hib : q < (ps (partsL id)).size := by omega
      have hci : (ps (partsL id))[q]'hib = (partsL id)[q] := rfl
      have HTK := Kp.mk (show ((partsL id).take (q + 1)).contains 101 = (((partsL id).take q).contains 101 || ((partsL id)[q] == 101)) by rw [List.take_succ_eq_append_getElem hlt, contains_snoc]; rfl)
      have hbt : (((partsL id)[q].toNat : Int) == 101) = ((partsL id)[q] == 101) := by
        rw [Bool.eq_iff_iff]; simp [← UInt8.toNat_inj]; omega
      generalize (partsL id)[q] = c at *
      cases hcn : ((partsL id).take q).contains 101 with
      | true =>
        rw [hcn] at HTK
        clear hcn
        go_wp2_with fail
        go_round
        case rel => exact ⟨q + 1, by omega, by go_num, by rw [HTK.out]; rfl⟩
        case measure => simp [intOf]; omega
      | false =>
        rw [hcn] at HTK
        clear hcn
        go_wp2_with fail
        go_round
        case rel => exact ⟨q + 1, by omega, by go_num, by rw [HTK.out]; rfl⟩
        case measure => simp [intOf]; omega
    · obtain rfl : q = (partsL id).length := by omega
      rw [List.take_length]
      change Kp ((mP id 101).mayB = (partsL id).contains 101) at HMP
      generalize (partsL id).contains 101 = hb at *
      go_wp2_with fail
      refine (told34 _).mono ?_
      rintro e w4 ⟨rfl, ht4⟩
      have HX4 := Kp.mk (HX2.out.still ht4)
      have HT4 := Kp.mk (HT2.out.strans ht4); clear ht4 HX2
      have q0 := HX4.out.id
      have q1 := HX4.out.nm
      have q2 := HX4.out.ty
      have q3 := HX4.out.ex
      have q4 := HX4.out.ky
      have q5 := HX4.out.tx
      have q6 := HX4.out.co
      have q7 := HX4.out.cn
      have q8 := HX4.out.tg
      have q9 := HX4.out.fl
      have q10 := HX4.out.bk
      have q11 := HX4.out.ar
      go_wp2_with fail
      refine (may32 (mP id 101) (mP_ok id hi1 hi2 101 (by decide)) _ _ _ _ HX4.out.sl).mono ?_
      rintro e w5 ⟨rfl, ht5⟩
      rw [HMP.out]
      have HT5 := Kp.mk (HT4.out.strans ht5); clear ht5 q0 q1 q2 q3 q4 q5 q6 q7 q8 q9 q10 q11
      go_wp2_with fail
      go_ret
      exact ⟨ret_bool (by simp), HT5.out⟩

set_option maxHeartbeats 1000000 in
theorem parts11_3 (a b : Int) (w : World) (k : Nat) (hk : wrap64 ((IntKind.u64.wrap a).tmod 31) = k) (hk31 : k < 31) (hj : wrap64 ((IntKind.u64.wrap b).tmod 11) = 3) :
    Calls Try.prog 11 #[.int .i64 a, .int .i64 b] w fun e w' => e = .returned (.bool true) ∧ Still w w' := by
  have hc0 := ids_at w k hk31
  have HMI := Kp.mk (mI_may ⟨k, hk31⟩)
  have HMP := Kp.mk (mP_may ⟨k, hk31⟩ ⟨3, by decide⟩)
  obtain ⟨hi1, hi2⟩ := ids_in ⟨k, hk31⟩
  simp only at hi1 hi2
  have hidx : ∀ w, (Instr.index 9 (.string ⟨#[110, 121, 101, 107, 120, 99, 117, 116, 102, 98, 97]⟩) (.int .i64 3)).run Try.prog w = .ok (.int .u8 107) w := fun w => letter_at 3 (by decide) w
  go_enter Try.func11, Try.ntmps11
  go_wp2_with fail
  generalize idAt k = id at *
  have hx := MAt.new (w := w.alloc (.cells #[.int .i64 2010, .int .i64 2011, .int .i64 2040, .int .i64 2041, .int .i64 4010, .int .i64 4011, .int .i64 5010, .int .i64 5011, .int .i64 5020, .int .i64 5021, .int .i64 6010, .int .i64 6011, .int .i64 6020, .int .i64 6021, .int .i64 6040, .int .i64 6050, .int .i64 6060, .int .i64 6070, .int .i64 6071, .int .i64 6072, .int .i64 6080, .int .i64 6090, .int .i64 6120, .int .i64 8510, .int .i64 8511, .int .i64 9010, .int .i64 9011, .int .i64 9020, .int .i64 9021, .int .i64 9030, .int .i64 9031] 3)) (S := fun _ => False) (A := none) (c := 0) (mI id) (Sl.nil _ _ _)
  rw [World.size_alloc] at hx
  have hxf : ∀ o, ((w.alloc (.cells #[.int .i64 2010, .int .i64 2011, .int .i64 2040, .int .i64 2041, .int .i64 4010, .int .i64 4011, .int .i64 5010, .int .i64 5011, .int .i64 5020, .int .i64 5021, .int .i64 6010, .int .i64 6011, .int .i64 6020, .int .i64 6021, .int .i64 6040, .int .i64 6050, .int .i64 6060, .int .i64 6070, .int .i64 6071, .int .i64 6072, .int .i64 6080, .int .i64 6090, .int .i64 6120, .int .i64 8510, .int .i64 8511, .int .i64 9010, .int .i64 9011, .int .i64 9020, .int .i64 9021, .int .i64 9030, .int .i64 9031] 3)).alloc ((mI id).obj none 0)).frozen? ⟨w.heap.size + 1, o, none⟩ = false := fun o => by go_simp
  have HX := Kp.mk hx; have HXF := Kp.mk hxf
  clear hx hxf hc0 hk
  refine (may32 (mI id) (mI_ok id hi1 hi2) (fun _ => True) none 0 _ (Sl.nil _ _ _)).mono ?_
  rintro e w1 ⟨rfl, ht1⟩
  rw [HMI.out]
  have HX1 := Kp.mk (HX.out.still ht1)
  have f0 := (ht1.frozen (a := ⟨w.heap.size + 1, 4, none⟩) (by simp) (fun f => f)).trans (HXF.out 4)
  have HT1 := Kp.mk ((((Still.refl w).alloc _).alloc _).strans ht1)
  have hsz1 := ht1.size
  simp only [World.size_alloc] at hsz1
  clear ht1 HX HXF
  have x0 := HX1.out.ky
  have x1 := HX1.out.id
  go_wp2_with fail
  have HX2 := Kp.mk (show MAt (w1.setCell ⟨w.heap.size + 1, 4, none⟩ (.string { data := #[100] })) (fun _ => False) (w.heap.size + 1) none 0 (mP id 107) from HX1.out.set_ky (fun h => h) _)
  have HT2 := Kp.mk (show Still w (w1.setCell ⟨w.heap.size + 1, 4, none⟩ (.string { data := #[100] })) from HT1.out.trans ((Tch.refl (· = w.heap.size + 1) _).setCell _ _ (fun _ => rfl)) (fun b hb e => by omega))
  generalize w1.setCell ⟨w.heap.size + 1, 4, none⟩ (.string { data := #[100] }) = w2 at *
  clear x0 x1 f0
  have hps := ps_size (partsL id)
  refine (parts33 id _).mono ?_
  rintro e w3 ⟨rfl, rfl⟩
  have hps2 : (partsL id).length ≤ 100 := parts_len id
  go_wp2_with fail
  go_loop [9, 10] (fun h i => ∃ k : Nat, k ≤ (partsL id).length ∧ i = .int .i64 k ∧ h = .bool (((partsL id).take k).contains 107)) (fun _ i => (partsL id).length - (intOf i).toNat)
  case atStart => exact ⟨0, Nat.zero_le _, rfl, rfl⟩
  case round =>
    obtain ⟨q, hq, rfl, rfl⟩ := hrel
    by_cases hlt : q < (partsL id).length
    · have hib : q < (ps (partsL id)).size := by omega
      have hci : (ps (partsL id))[q]'hib = (partsL id)[q] := rfl
      have HTK := Kp.mk (show ((partsL id).take (q + 1)).contains 107 = (((partsL id).take q).contains 107 || ((partsL id)[q] == 107)) by rw [List.take_succ_eq_append_getElem hlt, contains_snoc]; rfl)
      have hbt : (((partsL id)[q].toNat : Int) == 107) = ((partsL id)[q] == 107) := by
        rw [Bool.eq_iff_iff]; simp [← UInt8.toNat_inj]; omega
      generalize (partsL id)[q] = c at *
      cases hcn : ((partsL id).take q).contains 107 with
      | true =>
        rw [hcn] at HTK
        clear hcn
        go_wp2_with fail
        go_round
        case rel => exact ⟨q + 1, by omega, by go_num, by rw [HTK.out]; rfl⟩
        case measure => simp [intOf]; omega
      | false =>
        rw [hcn] at HTK
        clear hcn
        go_wp2_with fail
        go_round
        case rel => exact ⟨q + 1, by omega, by go_num, by rw [HTK.out]; rfl⟩
        case measure => simp [intOf]; omega
    · obtain rfl : q = (partsL id).length := by omega
      rw [List.take_length]
      change Kp ((mP id 107).mayB = (partsL id).contains 107) at HMP
      generalize (partsL id).contains 107 = hb at *
      go_wp2_with fail
      refine (told34 _).mono ?_
      rintro e w4 ⟨rfl, ht4⟩
      have HX4 := Kp.mk (HX2.out.still ht4)
      have HT4 := Kp.mk (HT2.out.strans ht4); clear ht4 HX2
      have q0 := HX4.out.id
      have q1 := HX4.out.nm
      have q2 := HX4.out.ty
      have q3 := HX4.out.ex
      have q4 := HX4.out.ky
      have q5 := HX4.out.tx
      have q6 := HX4.out.co
      have q7 := HX4.out.cn
      have q8 := HX4.out.tg
      have q9 := HX4.out.fl
      have q10 := HX4.out.bk
      have q11 := HX4.out.ar
      go_wp2_with fail
      refine (may32 (mP id 107) (mP_ok id hi1 hi2 107 (by decide)) _ _ _ _ HX4.out.sl).mono ?_
      rintro e w5 ⟨rfl, ht5⟩
      rw [HMP.out]
      have HT5 := Kp.mk (HT4.out.strans ht5); clear ht5 q0 q1 q2 q3 q4 q5 q6 q7 q8 q9 q10 q11
      go_wp2_with fail
      go_ret
      exact ⟨ret_bool (by simp), HT5.out⟩

set_option maxHeartbeats 1000000 in
theorem parts11_4 (a b : Int) (w : World) (k : Nat) (hk : wrap64 ((IntKind.u64.wrap a).tmod 31) = k) (hk31 : k < 31) (hj : wrap64 ((IntKind.u64.wrap b).tmod 11) = 4) :
    Calls Try.prog 11 #[.int .i64 a, .int .i64 b] w fun e w' => e = .returned (.bool true) ∧ Still w w' := by
  have hc0 := ids_at w k hk31
  have HMI := Kp.mk (mI_may ⟨k, hk31⟩)
  have HMP := Kp.mk (mP_may ⟨k, hk31⟩ ⟨4, by decide⟩)
  obtain ⟨hi1, hi2⟩ := ids_in ⟨k, hk31⟩
  simp only at hi1 hi2
  have hidx : ∀ w, (Instr.index 9 (.string ⟨#[110, 121, 101, 107, 120, 99, 117, 116, 102, 98, 97]⟩) (.int .i64 4)).run Try.prog w = .ok (.int .u8 120) w := fun w => letter_at 4 (by decide) w
  go_enter Try.func11, Try.ntmps11
  go_wp2_with fail
  generalize idAt k = id at *
  have hx := MAt.new (w := w.alloc (.cells #[.int .i64 2010, .int .i64 2011, .int .i64 2040, .int .i64 2041, .int .i64 4010, .int .i64 4011, .int .i64 5010, .int .i64 5011, .int .i64 5020, .int .i64 5021, .int .i64 6010, .int .i64 6011, .int .i64 6020, .int .i64 6021, .int .i64 6040, .int .i64 6050, .int .i64 6060, .int .i64 6070, .int .i64 6071, .int .i64 6072, .int .i64 6080, .int .i64 6090, .int .i64 6120, .int .i64 8510, .int .i64 8511, .int .i64 9010, .int .i64 9011, .int .i64 9020, .int .i64 9021, .int .i64 9030, .int .i64 9031] 3)) (S := fun _ => False) (A := none) (c := 0) (mI id) (Sl.nil _ _ _)
  rw [World.size_alloc] at hx
  have hxf : ∀ o, ((w.alloc (.cells #[.int .i64 2010, .int .i64 2011, .int .i64 2040, .int .i64 2041, .int .i64 4010, .int .i64 4011, .int .i64 5010, .int .i64 5011, .int .i64 5020, .int .i64 5021, .int .i64 6010, .int .i64 6011, .int .i64 6020, .int .i64 6021, .int .i64 6040, .int .i64 6050, .int .i64 6060, .int .i64 6070, .int .i64 6071, .int .i64 6072, .int .i64 6080, .int .i64 6090, .int .i64 6120, .int .i64 8510, .int .i64 8511, .int .i64 9010, .int .i64 9011, .int .i64 9020, .int .i64 9021, .int .i64 9030, .int .i64 9031] 3)).alloc ((mI id).obj none 0)).frozen? ⟨w.heap.size + 1, o, none⟩ = false := fun o => by go_simp
  have HX := Kp.mk hx; have HXF := Kp.mk hxf
  clear hx hxf hc0 hk
  refine (may32 (mI id) (mI_ok id hi1 hi2) (fun _ => True) none 0 _ (Sl.nil _ _ _)).mono ?_
  rintro e w1 ⟨rfl, ht1⟩
  rw [HMI.out]
  have HX1 := Kp.mk (HX.out.still ht1)
  have f0 := (ht1.frozen (a := ⟨w.heap.size + 1, 5, none⟩) (by simp) (fun f => f)).trans (HXF.out 5)
  have HT1 := Kp.mk ((((Still.refl w).alloc _).alloc _).strans ht1)
  have hsz1 := ht1.size
  simp only [World.size_alloc] at hsz1
  clear ht1 HX HXF
  have x0 := HX1.out.tx
  have x1 := HX1.out.id
  go_wp2_with fail
  have HX2 := Kp.mk (show MAt (w1.setCell ⟨w.heap.size + 1, 5, none⟩ (.string { data := #[101] })) (fun _ => False) (w.heap.size + 1) none 0 (mP id 120) from HX1.out.set_tx (fun h => h) _)
  have HT2 := Kp.mk (show Still w (w1.setCell ⟨w.heap.size + 1, 5, none⟩ (.string { data := #[101] })) from HT1.out.trans ((Tch.refl (· = w.heap.size + 1) _).setCell _ _ (fun _ => rfl)) (fun b hb e => by omega))
  generalize w1.setCell ⟨w.heap.size + 1, 5, none⟩ (.string { data := #[101] }) = w2 at *
  clear x0 x1 f0
  have hps := ps_size (partsL id)
  refine (parts33 id _).mono ?_
  rintro e w3 ⟨rfl, rfl⟩
  have hps2 : (partsL id).length ≤ 100 := parts_len id
  go_wp2_with fail
  go_loop [9, 10] (fun h i => ∃ k : Nat, k ≤ (partsL id).length ∧ i = .int .i64 k ∧ h = .bool (((partsL id).take k).contains 120)) (fun _ i => (partsL id).length - (intOf i).toNat)
  case atStart => exact ⟨0, Nat.zero_le _, rfl, rfl⟩
  case round =>
    obtain ⟨q, hq, rfl, rfl⟩ := hrel
    by_cases hlt : q < (partsL id).length
    · have hib : q < (ps (partsL id)).size := by omega
      have hci : (ps (partsL id))[q]'hib = (partsL id)[q] := rfl
      have HTK := Kp.mk (show ((partsL id).take (q + 1)).contains 120 = (((partsL id).take q).contains 120 || ((partsL id)[q] == 120)) by rw [List.take_succ_eq_append_getElem hlt, contains_snoc]; rfl)
      have hbt : (((partsL id)[q].toNat : Int) == 120) = ((partsL id)[q] == 120) := by
        rw [Bool.eq_iff_iff]; simp [← UInt8.toNat_inj]; omega
      generalize (partsL id)[q] = c at *
      cases hcn : ((partsL id).take q).contains 120 with
      | true =>
        rw [hcn] at HTK
        clear hcn
        go_wp2_with fail
        go_round
        case rel => exact ⟨q + 1, by omega, by go_num, by rw [HTK.out]; rfl⟩
        case measure => simp [intOf]; omega
      | false =>
        rw [hcn] at HTK
        clear hcn
        go_wp2_with fail
        go_round
        case rel => exact ⟨q + 1, by omega, by go_num, by rw [HTK.out]; rfl⟩
        case measure => simp [intOf]; omega
    · obtain rfl : q = (partsL id).length := by omega
      rw [List.take_length]
      change Kp ((mP id 120).mayB = (partsL id).contains 120) at HMP
      generalize (partsL id).contains 120 = hb at *
      go_wp2_with fail
      refine (told34 _).mono ?_
      rintro e w4 ⟨rfl, ht4⟩
      have HX4 := Kp.mk (HX2.out.still ht4)
      have HT4 := Kp.mk (HT2.out.strans ht4); clear ht4 HX2
      have q0 := HX4.out.id
      have q1 := HX4.out.nm
      have q2 := HX4.out.ty
      have q3 := HX4.out.ex
      have q4 := HX4.out.ky
      have q5 := HX4.out.tx
      have q6 := HX4.out.co
      have q7 := HX4.out.cn
      have q8 := HX4.out.tg
      have q9 := HX4.out.fl
      have q10 := HX4.out.bk
      have q11 := HX4.out.ar
      go_wp2_with fail
      refine (may32 (mP id 120) (mP_ok id hi1 hi2 120 (by decide)) _ _ _ _ HX4.out.sl).mono ?_
      rintro e w5 ⟨rfl, ht5⟩
      rw [HMP.out]
      have HT5 := Kp.mk (HT4.out.strans ht5); clear ht5 q0 q1 q2 q3 q4 q5 q6 q7 q8 q9 q10 q11
      go_wp2_with fail
      go_ret
      exact ⟨ret_bool (by simp), HT5.out⟩

set_option maxHeartbeats 1000000 in
theorem parts11_5 (a b : Int) (w : World) (k : Nat) (hk : wrap64 ((IntKind.u64.wrap a).tmod 31) = k) (hk31 : k < 31) (hj : wrap64 ((IntKind.u64.wrap b).tmod 11) = 5) :
    Calls Try.prog 11 #[.int .i64 a, .int .i64 b] w fun e w' => e = .returned (.bool true) ∧ Still w w' := by
  have hc0 := ids_at w k hk31
  have HMI := Kp.mk (mI_may ⟨k, hk31⟩)
  have HMP := Kp.mk (mP_may ⟨k, hk31⟩ ⟨5, by decide⟩)
  obtain ⟨hi1, hi2⟩ := ids_in ⟨k, hk31⟩
  simp only at hi1 hi2
  have hidx : ∀ w, (Instr.index 9 (.string ⟨#[110, 121, 101, 107, 120, 99, 117, 116, 102, 98, 97]⟩) (.int .i64 5)).run Try.prog w = .ok (.int .u8 99) w := fun w => letter_at 5 (by decide) w
  go_enter Try.func11, Try.ntmps11
  go_wp2_with fail
  generalize idAt k = id at *
  have hx := MAt.new (w := w.alloc (.cells #[.int .i64 2010, .int .i64 2011, .int .i64 2040, .int .i64 2041, .int .i64 4010, .int .i64 4011, .int .i64 5010, .int .i64 5011, .int .i64 5020, .int .i64 5021, .int .i64 6010, .int .i64 6011, .int .i64 6020, .int .i64 6021, .int .i64 6040, .int .i64 6050, .int .i64 6060, .int .i64 6070, .int .i64 6071, .int .i64 6072, .int .i64 6080, .int .i64 6090, .int .i64 6120, .int .i64 8510, .int .i64 8511, .int .i64 9010, .int .i64 9011, .int .i64 9020, .int .i64 9021, .int .i64 9030, .int .i64 9031] 3)) (S := fun _ => False) (A := none) (c := 0) (mI id) (Sl.nil _ _ _)
  rw [World.size_alloc] at hx
  have hxf : ∀ o, ((w.alloc (.cells #[.int .i64 2010, .int .i64 2011, .int .i64 2040, .int .i64 2041, .int .i64 4010, .int .i64 4011, .int .i64 5010, .int .i64 5011, .int .i64 5020, .int .i64 5021, .int .i64 6010, .int .i64 6011, .int .i64 6020, .int .i64 6021, .int .i64 6040, .int .i64 6050, .int .i64 6060, .int .i64 6070, .int .i64 6071, .int .i64 6072, .int .i64 6080, .int .i64 6090, .int .i64 6120, .int .i64 8510, .int .i64 8511, .int .i64 9010, .int .i64 9011, .int .i64 9020, .int .i64 9021, .int .i64 9030, .int .i64 9031] 3)).alloc ((mI id).obj none 0)).frozen? ⟨w.heap.size + 1, o, none⟩ = false := fun o => by go_simp
  have HX := Kp.mk hx; have HXF := Kp.mk hxf
  clear hx hxf hc0 hk
  refine (may32 (mI id) (mI_ok id hi1 hi2) (fun _ => True) none 0 _ (Sl.nil _ _ _)).mono ?_
  rintro e w1 ⟨rfl, ht1⟩
  rw [HMI.out]
  have HX1 := Kp.mk (HX.out.still ht1)
  have f0 := (ht1.frozen (a := ⟨w.heap.size + 1, 6, none⟩) (by simp) (fun f => f)).trans (HXF.out 6)
  have HT1 := Kp.mk ((((Still.refl w).alloc _).alloc _).strans ht1)
  have hsz1 := ht1.size
  simp only [World.size_alloc] at hsz1
  clear ht1 HX HXF
  have x0 := HX1.out.co
  have x1 := HX1.out.id
  go_wp2_with fail
  have HX2 := Kp.mk (show MAt (w1.setCell ⟨w.heap.size + 1, 6, none⟩ (.int .i64 6)) (fun _ => False) (w.heap.size + 1) none 0 (mP id 99) from HX1.out.set_co (fun h => h) _)
  have HT2 := Kp.mk (show Still w (w1.setCell ⟨w.heap.size + 1, 6, none⟩ (.int .i64 6)) from HT1.out.trans ((Tch.refl (· = w.heap.size + 1) _).setCell _ _ (fun _ => rfl)) (fun b hb e => by omega))
  generalize w1.setCell ⟨w.heap.size + 1, 6, none⟩ (.int .i64 6) = w2 at *
  clear x0 x1 f0
  have hps := ps_size (partsL id)
  refine (parts33 id _).mono ?_
  rintro e w3 ⟨rfl, rfl⟩
  have hps2 : (partsL id).length ≤ 100 := parts_len id
  go_wp2_with fail
  go_loop [9, 10] (fun h i => ∃ k : Nat, k ≤ (partsL id).length ∧ i = .int .i64 k ∧ h = .bool (((partsL id).take k).contains 99)) (fun _ i => (partsL id).length - (intOf i).toNat)
  case atStart => exact ⟨0, Nat.zero_le _, rfl, rfl⟩
  case round =>
    obtain ⟨q, hq, rfl, rfl⟩ := hrel
    by_cases hlt : q < (partsL id).length
    · have hib : q < (ps (partsL id)).size := by omega
      have hci : (ps (partsL id))[q]'hib = (partsL id)[q] := rfl
      have HTK := Kp.mk (show ((partsL id).take (q + 1)).contains 99 = (((partsL id).take q).contains 99 || ((partsL id)[q] == 99)) by rw [List.take_succ_eq_append_getElem hlt, contains_snoc]; rfl)
      have hbt : (((partsL id)[q].toNat : Int) == 99) = ((partsL id)[q] == 99) := by
        rw [Bool.eq_iff_iff]; simp [← UInt8.toNat_inj]; omega
      generalize (partsL id)[q] = c at *
      cases hcn : ((partsL id).take q).contains 99 with
      | true =>
        rw [hcn] at HTK
        clear hcn
        go_wp2_with fail
        go_round
        case rel => exact ⟨q + 1, by omega, by go_num, by rw [HTK.out]; rfl⟩
        case measure => simp [intOf]; omega
      | false =>
        rw [hcn] at HTK
        clear hcn
        go_wp2_with fail
        go_round
        case rel => exact ⟨q + 1, by omega, by go_num, by rw [HTK.out]; rfl⟩
        case measure => simp [intOf]; omega
    · obtain rfl : q = (partsL id).length := by omega
      rw [List.take_length]
      change Kp ((mP id 99).mayB = (partsL id).contains 99) at HMP
      generalize (partsL id).contains 99 = hb at *
      go_wp2_with fail
      refine (told34 _).mono ?_
      rintro e w4 ⟨rfl, ht4⟩
      have HX4 := Kp.mk (HX2.out.still ht4)
      have HT4 := Kp.mk (HT2.out.strans ht4); clear ht4 HX2
      have q0 := HX4.out.id
      have q1 := HX4.out.nm
      have q2 := HX4.out.ty
      have q3 := HX4.out.ex
      have q4 := HX4.out.ky
      have q5 := HX4.out.tx
      have q6 := HX4.out.co
      have q7 := HX4.out.cn
      have q8 := HX4.out.tg
      have q9 := HX4.out.fl
      have q10 := HX4.out.bk
      have q11 := HX4.out.ar
      go_wp2_with fail
      refine (may32 (mP id 99) (mP_ok id hi1 hi2 99 (by decide)) _ _ _ _ HX4.out.sl).mono ?_
      rintro e w5 ⟨rfl, ht5⟩
      rw [HMP.out]
      have HT5 := Kp.mk (HT4.out.strans ht5); clear ht5 q0 q1 q2 q3 q4 q5 q6 q7 q8 q9 q10 q11
      go_wp2_with fail
      go_ret
      exact ⟨ret_bool (by simp), HT5.out⟩

set_option maxHeartbeats 1000000 in
theorem parts11_6 (a b : Int) (w : World) (k : Nat) (hk : wrap64 ((IntKind.u64.wrap a).tmod 31) = k) (hk31 : k < 31) (hj : wrap64 ((IntKind.u64.wrap b).tmod 11) = 6) :
    Calls Try.prog 11 #[.int .i64 a, .int .i64 b] w fun e w' => e = .returned (.bool true) ∧ Still w w' := by
  have hc0 := ids_at w k hk31
  have HMI := Kp.mk (mI_may ⟨k, hk31⟩)
  have HMP := Kp.mk (mP_may ⟨k, hk31⟩ ⟨6, by decide⟩)
  obtain ⟨hi1, hi2⟩ := ids_in ⟨k, hk31⟩
  simp only at hi1 hi2
  have hidx : ∀ w, (Instr.index 9 (.string ⟨#[110, 121, 101, 107, 120, 99, 117, 116, 102, 98, 97]⟩) (.int .i64 6)).run Try.prog w = .ok (.int .u8 117) w := fun w => letter_at 6 (by decide) w
  go_enter Try.func11, Try.ntmps11
  go_wp2_with fail
  generalize idAt k = id at *
  have hx := MAt.new (w := w.alloc (.cells #[.int .i64 2010, .int .i64 2011, .int .i64 2040, .int .i64 2041, .int .i64 4010, .int .i64 4011, .int .i64 5010, .int .i64 5011, .int .i64 5020, .int .i64 5021, .int .i64 6010, .int .i64 6011, .int .i64 6020, .int .i64 6021, .int .i64 6040, .int .i64 6050, .int .i64 6060, .int .i64 6070, .int .i64 6071, .int .i64 6072, .int .i64 6080, .int .i64 6090, .int .i64 6120, .int .i64 8510, .int .i64 8511, .int .i64 9010, .int .i64 9011, .int .i64 9020, .int .i64 9021, .int .i64 9030, .int .i64 9031] 3)) (S := fun _ => False) (A := none) (c := 0) (mI id) (Sl.nil _ _ _)
  rw [World.size_alloc] at hx
  have hxf : ∀ o, ((w.alloc (.cells #[.int .i64 2010, .int .i64 2011, .int .i64 2040, .int .i64 2041, .int .i64 4010, .int .i64 4011, .int .i64 5010, .int .i64 5011, .int .i64 5020, .int .i64 5021, .int .i64 6010, .int .i64 6011, .int .i64 6020, .int .i64 6021, .int .i64 6040, .int .i64 6050, .int .i64 6060, .int .i64 6070, .int .i64 6071, .int .i64 6072, .int .i64 6080, .int .i64 6090, .int .i64 6120, .int .i64 8510, .int .i64 8511, .int .i64 9010, .int .i64 9011, .int .i64 9020, .int .i64 9021, .int .i64 9030, .int .i64 9031] 3)).alloc ((mI id).obj none 0)).frozen? ⟨w.heap.size + 1, o, none⟩ = false := fun o => by go_simp
  have HX := Kp.mk hx; have HXF := Kp.mk hxf
  clear hx hxf hc0 hk
  refine (may32 (mI id) (mI_ok id hi1 hi2) (fun _ => True) none 0 _ (Sl.nil _ _ _)).mono ?_
  rintro e w1 ⟨rfl, ht1⟩
  rw [HMI.out]
  have HX1 := Kp.mk (HX.out.still ht1)
  have f0 := (ht1.frozen (a := ⟨w.heap.size + 1, 7, none⟩) (by simp) (fun f => f)).trans (HXF.out 7)
  have HT1 := Kp.mk ((((Still.refl w).alloc _).alloc _).strans ht1)
  have hsz1 := ht1.size
  simp only [World.size_alloc] at hsz1
  clear ht1 HX HXF
  have x0 := HX1.out.cn
  have x1 := HX1.out.id
  go_wp2_with fail
  have HX2 := Kp.mk (show MAt (w1.setCell ⟨w.heap.size + 1, 7, none⟩ (.int .i64 7)) (fun _ => False) (w.heap.size + 1) none 0 (mP id 117) from HX1.out.set_cn (fun h => h) _)
  have HT2 := Kp.mk (show Still w (w1.setCell ⟨w.heap.size + 1, 7, none⟩ (.int .i64 7)) from HT1.out.trans ((Tch.refl (· = w.heap.size + 1) _).setCell _ _ (fun _ => rfl)) (fun b hb e => by omega))
  generalize w1.setCell ⟨w.heap.size + 1, 7, none⟩ (.int .i64 7) = w2 at *
  clear x0 x1 f0
  have hps := ps_size (partsL id)
  refine (parts33 id _).mono ?_
  rintro e w3 ⟨rfl, rfl⟩
  have hps2 : (partsL id).length ≤ 100 := parts_len id
  go_wp2_with fail
  go_loop [9, 10] (fun h i => ∃ k : Nat, k ≤ (partsL id).length ∧ i = .int .i64 k ∧ h = .bool (((partsL id).take k).contains 117)) (fun _ i => (partsL id).length - (intOf i).toNat)
  case atStart => exact ⟨0, Nat.zero_le _, rfl, rfl⟩
  case round =>
    obtain ⟨q, hq, rfl, rfl⟩ := hrel
    by_cases hlt : q < (partsL id).length
    · have hib : q < (ps (partsL id)).size := by omega
      have hci : (ps (partsL id))[q]'hib = (partsL id)[q] := rfl
      have HTK := Kp.mk (show ((partsL id).take (q + 1)).contains 117 = (((partsL id).take q).contains 117 || ((partsL id)[q] == 117)) by rw [List.take_succ_eq_append_getElem hlt, contains_snoc]; rfl)
      have hbt : (((partsL id)[q].toNat : Int) == 117) = ((partsL id)[q] == 117) := by
        rw [Bool.eq_iff_iff]; simp [← UInt8.toNat_inj]; omega
      generalize (partsL id)[q] = c at *
      cases hcn : ((partsL id).take q).contains 117 with
      | true =>
        rw [hcn] at HTK
        clear hcn
        go_wp2_with fail
        go_round
        case rel => exact ⟨q + 1, by omega, by go_num, by rw [HTK.out]; rfl⟩
        case measure => simp [intOf]; omega
      | false =>
        rw [hcn] at HTK
        clear hcn
        go_wp2_with fail
        go_round
        case rel => exact ⟨q + 1, by omega, by go_num, by rw [HTK.out]; rfl⟩
        case measure => simp [intOf]; omega
    · obtain rfl : q = (partsL id).length := by omega
      rw [List.take_length]
      change Kp ((mP id 117).mayB = (partsL id).contains 117) at HMP
      generalize (partsL id).contains 117 = hb at *
      go_wp2_with fail
      refine (told34 _).mono ?_
      rintro e w4 ⟨rfl, ht4⟩
      have HX4 := Kp.mk (HX2.out.still ht4)
      have HT4 := Kp.mk (HT2.out.strans ht4); clear ht4 HX2
      have q0 := HX4.out.id
      have q1 := HX4.out.nm
      have q2 := HX4.out.ty
      have q3 := HX4.out.ex
      have q4 := HX4.out.ky
      have q5 := HX4.out.tx
      have q6 := HX4.out.co
      have q7 := HX4.out.cn
      have q8 := HX4.out.tg
      have q9 := HX4.out.fl
      have q10 := HX4.out.bk
      have q11 := HX4.out.ar
      go_wp2_with fail
      refine (may32 (mP id 117) (mP_ok id hi1 hi2 117 (by decide)) _ _ _ _ HX4.out.sl).mono ?_
      rintro e w5 ⟨rfl, ht5⟩
      rw [HMP.out]
      have HT5 := Kp.mk (HT4.out.strans ht5); clear ht5 q0 q1 q2 q3 q4 q5 q6 q7 q8 q9 q10 q11
      go_wp2_with fail
      go_ret
      exact ⟨ret_bool (by simp), HT5.out⟩

set_option maxHeartbeats 1000000 in
theorem parts11_7 (a b : Int) (w : World) (k : Nat) (hk : wrap64 ((IntKind.u64.wrap a).tmod 31) = k) (hk31 : k < 31) (hj : wrap64 ((IntKind.u64.wrap b).tmod 11) = 7) :
    Calls Try.prog 11 #[.int .i64 a, .int .i64 b] w fun e w' => e = .returned (.bool true) ∧ Still w w' := by
  have hc0 := ids_at w k hk31
  have HMI := Kp.mk (mI_may ⟨k, hk31⟩)
  have HMP := Kp.mk (mP_may ⟨k, hk31⟩ ⟨7, by decide⟩)
  obtain ⟨hi1, hi2⟩ := ids_in ⟨k, hk31⟩
  simp only at hi1 hi2
  have hidx : ∀ w, (Instr.index 9 (.string ⟨#[110, 121, 101, 107, 120, 99, 117, 116, 102, 98, 97]⟩) (.int .i64 7)).run Try.prog w = .ok (.int .u8 116) w := fun w => letter_at 7 (by decide) w
  go_enter Try.func11, Try.ntmps11
  go_wp2_with fail
  generalize idAt k = id at *
  have hx := MAt.new (w := w.alloc (.cells #[.int .i64 2010, .int .i64 2011, .int .i64 2040, .int .i64 2041, .int .i64 4010, .int .i64 4011, .int .i64 5010, .int .i64 5011, .int .i64 5020, .int .i64 5021, .int .i64 6010, .int .i64 6011, .int .i64 6020, .int .i64 6021, .int .i64 6040, .int .i64 6050, .int .i64 6060, .int .i64 6070, .int .i64 6071, .int .i64 6072, .int .i64 6080, .int .i64 6090, .int .i64 6120, .int .i64 8510, .int .i64 8511, .int .i64 9010, .int .i64 9011, .int .i64 9020, .int .i64 9021, .int .i64 9030, .int .i64 9031] 3)) (S := fun _ => False) (A := none) (c := 0) (mI id) (Sl.nil _ _ _)
  rw [World.size_alloc] at hx
  have hxf : ∀ o, ((w.alloc (.cells #[.int .i64 2010, .int .i64 2011, .int .i64 2040, .int .i64 2041, .int .i64 4010, .int .i64 4011, .int .i64 5010, .int .i64 5011, .int .i64 5020, .int .i64 5021, .int .i64 6010, .int .i64 6011, .int .i64 6020, .int .i64 6021, .int .i64 6040, .int .i64 6050, .int .i64 6060, .int .i64 6070, .int .i64 6071, .int .i64 6072, .int .i64 6080, .int .i64 6090, .int .i64 6120, .int .i64 8510, .int .i64 8511, .int .i64 9010, .int .i64 9011, .int .i64 9020, .int .i64 9021, .int .i64 9030, .int .i64 9031] 3)).alloc ((mI id).obj none 0)).frozen? ⟨w.heap.size + 1, o, none⟩ = false := fun o => by go_simp
  have HX := Kp.mk hx; have HXF := Kp.mk hxf
  clear hx hxf hc0 hk
  refine (may32 (mI id) (mI_ok id hi1 hi2) (fun _ => True) none 0 _ (Sl.nil _ _ _)).mono ?_
  rintro e w1 ⟨rfl, ht1⟩
  rw [HMI.out]
  have HX1 := Kp.mk (HX.out.still ht1)
  have f0 := (ht1.frozen (a := ⟨w.heap.size + 1, 8, none⟩) (by simp) (fun f => f)).trans (HXF.out 8)
  have HT1 := Kp.mk ((((Still.refl w).alloc _).alloc _).strans ht1)
  have hsz1 := ht1.size
  simp only [World.size_alloc] at hsz1
  clear ht1 HX HXF
  have x0 := HX1.out.tg
  have x1 := HX1.out.id
  go_wp2_with fail
  have HX2 := Kp.mk (show MAt (w1.setCell ⟨w.heap.size + 1, 8, none⟩ (.int .u64 8)) (fun _ => False) (w.heap.size + 1) none 0 (mP id 116) from HX1.out.set_tg (fun h => h) _)
  have HT2 := Kp.mk (show Still w (w1.setCell ⟨w.heap.size + 1, 8, none⟩ (.int .u64 8)) from HT1.out.trans ((Tch.refl (· = w.heap.size + 1) _).setCell _ _ (fun _ => rfl)) (fun b hb e => by omega))
  generalize w1.setCell ⟨w.heap.size + 1, 8, none⟩ (.int .u64 8) = w2 at *
  clear x0 x1 f0
  have hps := ps_size (partsL id)
  refine (parts33 id _).mono ?_
  rintro e w3 ⟨rfl, rfl⟩
  have hps2 : (partsL id).length ≤ 100 := parts_len id
  go_wp2_with fail
  go_loop [9, 10] (fun h i => ∃ k : Nat, k ≤ (partsL id).length ∧ i = .int .i64 k ∧ h = .bool (((partsL id).take k).contains 116)) (fun _ i => (partsL id).length - (intOf i).toNat)
  case atStart => exact ⟨0, Nat.zero_le _, rfl, rfl⟩
  case round =>
    obtain ⟨q, hq, rfl, rfl⟩ := hrel
    by_cases hlt : q < (partsL id).length
    · have hib : q < (ps (partsL id)).size := by omega
      have hci : (ps (partsL id))[q]'hib = (partsL id)[q] := rfl
      have HTK := Kp.mk (show ((partsL id).take (q + 1)).contains 116 = (((partsL id).take q).contains 116 || ((partsL id)[q] == 116)) by rw [List.take_succ_eq_append_getElem hlt, contains_snoc]; rfl)
      have hbt : (((partsL id)[q].toNat : Int) == 116) = ((partsL id)[q] == 116) := by
        rw [Bool.eq_iff_iff]; simp [← UInt8.toNat_inj]; omega
      generalize (partsL id)[q] = c at *
      cases hcn : ((partsL id).take q).contains 116 with
      | true =>
        rw [hcn] at HTK
        clear hcn
        go_wp2_with fail
        go_round
        case rel => exact ⟨q + 1, by omega, by go_num, by rw [HTK.out]; rfl⟩
        case measure => simp [intOf]; omega
      | false =>
        rw [hcn] at HTK
        clear hcn
        go_wp2_with fail
        go_round
        case rel => exact ⟨q + 1, by omega, by go_num, by rw [HTK.out]; rfl⟩
        case measure => simp [intOf]; omega
    · obtain rfl : q = (partsL id).length := by omega
      rw [List.take_length]
      change Kp ((mP id 116).mayB = (partsL id).contains 116) at HMP
      generalize (partsL id).contains 116 = hb at *
      go_wp2_with fail
      refine (told34 _).mono ?_
      rintro e w4 ⟨rfl, ht4⟩
      have HX4 := Kp.mk (HX2.out.still ht4)
      have HT4 := Kp.mk (HT2.out.strans ht4); clear ht4 HX2
      have q0 := HX4.out.id
      have q1 := HX4.out.nm
      have q2 := HX4.out.ty
      have q3 := HX4.out.ex
      have q4 := HX4.out.ky
      have q5 := HX4.out.tx
      have q6 := HX4.out.co
      have q7 := HX4.out.cn
      have q8 := HX4.out.tg
      have q9 := HX4.out.fl
      have q10 := HX4.out.bk
      have q11 := HX4.out.ar
      go_wp2_with fail
      refine (may32 (mP id 116) (mP_ok id hi1 hi2 116 (by decide)) _ _ _ _ HX4.out.sl).mono ?_
      rintro e w5 ⟨rfl, ht5⟩
      rw [HMP.out]
      have HT5 := Kp.mk (HT4.out.strans ht5); clear ht5 q0 q1 q2 q3 q4 q5 q6 q7 q8 q9 q10 q11
      go_wp2_with fail
      go_ret
      exact ⟨ret_bool (by simp), HT5.out⟩

set_option maxHeartbeats 1000000 in
theorem parts11_8 (a b : Int) (w : World) (k : Nat) (hk : wrap64 ((IntKind.u64.wrap a).tmod 31) = k) (hk31 : k < 31) (hj : wrap64 ((IntKind.u64.wrap b).tmod 11) = 8) :
    Calls Try.prog 11 #[.int .i64 a, .int .i64 b] w fun e w' => e = .returned (.bool true) ∧ Still w w' := by
  have hc0 := ids_at w k hk31
  have HMI := Kp.mk (mI_may ⟨k, hk31⟩)
  have HMP := Kp.mk (mP_may ⟨k, hk31⟩ ⟨8, by decide⟩)
  obtain ⟨hi1, hi2⟩ := ids_in ⟨k, hk31⟩
  simp only at hi1 hi2
  have hidx : ∀ w, (Instr.index 9 (.string ⟨#[110, 121, 101, 107, 120, 99, 117, 116, 102, 98, 97]⟩) (.int .i64 8)).run Try.prog w = .ok (.int .u8 102) w := fun w => letter_at 8 (by decide) w
  go_enter Try.func11, Try.ntmps11
  go_wp2_with fail
  generalize idAt k = id at *
  have hx := MAt.new (w := w.alloc (.cells #[.int .i64 2010, .int .i64 2011, .int .i64 2040, .int .i64 2041, .int .i64 4010, .int .i64 4011, .int .i64 5010, .int .i64 5011, .int .i64 5020, .int .i64 5021, .int .i64 6010, .int .i64 6011, .int .i64 6020, .int .i64 6021, .int .i64 6040, .int .i64 6050, .int .i64 6060, .int .i64 6070, .int .i64 6071, .int .i64 6072, .int .i64 6080, .int .i64 6090, .int .i64 6120, .int .i64 8510, .int .i64 8511, .int .i64 9010, .int .i64 9011, .int .i64 9020, .int .i64 9021, .int .i64 9030, .int .i64 9031] 3)) (S := fun _ => False) (A := none) (c := 0) (mI id) (Sl.nil _ _ _)
  rw [World.size_alloc] at hx
  have hxf : ∀ o, ((w.alloc (.cells #[.int .i64 2010, .int .i64 2011, .int .i64 2040, .int .i64 2041, .int .i64 4010, .int .i64 4011, .int .i64 5010, .int .i64 5011, .int .i64 5020, .int .i64 5021, .int .i64 6010, .int .i64 6011, .int .i64 6020, .int .i64 6021, .int .i64 6040, .int .i64 6050, .int .i64 6060, .int .i64 6070, .int .i64 6071, .int .i64 6072, .int .i64 6080, .int .i64 6090, .int .i64 6120, .int .i64 8510, .int .i64 8511, .int .i64 9010, .int .i64 9011, .int .i64 9020, .int .i64 9021, .int .i64 9030, .int .i64 9031] 3)).alloc ((mI id).obj none 0)).frozen? ⟨w.heap.size + 1, o, none⟩ = false := fun o => by go_simp
  have HX := Kp.mk hx; have HXF := Kp.mk hxf
  clear hx hxf hc0 hk
  refine (may32 (mI id) (mI_ok id hi1 hi2) (fun _ => True) none 0 _ (Sl.nil _ _ _)).mono ?_
  rintro e w1 ⟨rfl, ht1⟩
  rw [HMI.out]
  have HX1 := Kp.mk (HX.out.still ht1)
  have f0 := (ht1.frozen (a := ⟨w.heap.size + 1, 9, none⟩) (by simp) (fun f => f)).trans (HXF.out 9)
  have HT1 := Kp.mk ((((Still.refl w).alloc _).alloc _).strans ht1)
  have hsz1 := ht1.size
  simp only [World.size_alloc] at hsz1
  clear ht1 HX HXF
  have x0 := HX1.out.fl
  have x1 := HX1.out.id
  go_wp2_with fail
  have HX2 := Kp.mk (show MAt (w1.setCell ⟨w.heap.size + 1, 9, none⟩ (.bool true)) (fun _ => False) (w.heap.size + 1) none 0 (mP id 102) from HX1.out.set_fl (fun h => h) _)
  have HT2 := Kp.mk (show Still w (w1.setCell ⟨w.heap.size + 1, 9, none⟩ (.bool true)) from HT1.out.trans ((Tch.refl (· = w.heap.size + 1) _).setCell _ _ (fun _ => rfl)) (fun b hb e => by omega))
  generalize w1.setCell ⟨w.heap.size + 1, 9, none⟩ (.bool true) = w2 at *
  clear x0 x1 f0
  have hps := ps_size (partsL id)
  refine (parts33 id _).mono ?_
  rintro e w3 ⟨rfl, rfl⟩
  have hps2 : (partsL id).length ≤ 100 := parts_len id
  go_wp2_with fail
  go_loop [9, 10] (fun h i => ∃ k : Nat, k ≤ (partsL id).length ∧ i = .int .i64 k ∧ h = .bool (((partsL id).take k).contains 102)) (fun _ i => (partsL id).length - (intOf i).toNat)
  case atStart => exact ⟨0, Nat.zero_le _, rfl, rfl⟩
  case round =>
    obtain ⟨q, hq, rfl, rfl⟩ := hrel
    by_cases hlt : q < (partsL id).length
    · have hib : q < (ps (partsL id)).size := by omega
      have hci : (ps (partsL id))[q]'hib = (partsL id)[q] := rfl
      have HTK := Kp.mk (show ((partsL id).take (q + 1)).contains 102 = (((partsL id).take q).contains 102 || ((partsL id)[q] == 102)) by rw [List.take_succ_eq_append_getElem hlt, contains_snoc]; rfl)
      have hbt : (((partsL id)[q].toNat : Int) == 102) = ((partsL id)[q] == 102) := by
        rw [Bool.eq_iff_iff]; simp [← UInt8.toNat_inj]; omega
      generalize (partsL id)[q] = c at *
      cases hcn : ((partsL id).take q).contains 102 with
      | true =>
        rw [hcn] at HTK
        clear hcn
        go_wp2_with fail
        go_round
        case rel => exact ⟨q + 1, by omega, by go_num, by rw [HTK.out]; rfl⟩
        case measure => simp [intOf]; omega
      | false =>
        rw [hcn] at HTK
        clear hcn
        go_wp2_with fail
        go_round
        case rel => exact ⟨q + 1, by omega, by go_num, by rw [HTK.out]; rfl⟩
        case measure => simp [intOf]; omega
    · obtain rfl : q = (partsL id).length := by omega
      rw [List.take_length]
      change Kp ((mP id 102).mayB = (partsL id).contains 102) at HMP
      generalize (partsL id).contains 102 = hb at *
      go_wp2_with fail
      refine (told34 _).mono ?_
      rintro e w4 ⟨rfl, ht4⟩
      have HX4 := Kp.mk (HX2.out.still ht4)
      have HT4 := Kp.mk (HT2.out.strans ht4); clear ht4 HX2
      have q0 := HX4.out.id
      have q1 := HX4.out.nm
      have q2 := HX4.out.ty
      have q3 := HX4.out.ex
      have q4 := HX4.out.ky
      have q5 := HX4.out.tx
      have q6 := HX4.out.co
      have q7 := HX4.out.cn
      have q8 := HX4.out.tg
      have q9 := HX4.out.fl
      have q10 := HX4.out.bk
      have q11 := HX4.out.ar
      go_wp2_with fail
      refine (may32 (mP id 102) (mP_ok id hi1 hi2 102 (by decide)) _ _ _ _ HX4.out.sl).mono ?_
      rintro e w5 ⟨rfl, ht5⟩
      rw [HMP.out]
      have HT5 := Kp.mk (HT4.out.strans ht5); clear ht5 q0 q1 q2 q3 q4 q5 q6 q7 q8 q9 q10 q11
      go_wp2_with fail
      go_ret
      exact ⟨ret_bool (by simp), HT5.out⟩

set_option maxHeartbeats 1000000 in
theorem parts11_9 (a b : Int) (w : World) (k : Nat) (hk : wrap64 ((IntKind.u64.wrap a).tmod 31) = k) (hk31 : k < 31) (hj : wrap64 ((IntKind.u64.wrap b).tmod 11) = 9) :
    Calls Try.prog 11 #[.int .i64 a, .int .i64 b] w fun e w' => e = .returned (.bool true) ∧ Still w w' := by
  have hc0 := ids_at w k hk31
  have HMI := Kp.mk (mI_may ⟨k, hk31⟩)
  have HMP := Kp.mk (mP_may ⟨k, hk31⟩ ⟨9, by decide⟩)
  obtain ⟨hi1, hi2⟩ := ids_in ⟨k, hk31⟩
  simp only at hi1 hi2
  have hidx : ∀ w, (Instr.index 9 (.string ⟨#[110, 121, 101, 107, 120, 99, 117, 116, 102, 98, 97]⟩) (.int .i64 9)).run Try.prog w = .ok (.int .u8 98) w := fun w => letter_at 9 (by decide) w
  go_enter Try.func11, Try.ntmps11
  go_wp2_with fail
  generalize idAt k = id at *
  have hx := MAt.new (w := w.alloc (.cells #[.int .i64 2010, .int .i64 2011, .int .i64 2040, .int .i64 2041, .int .i64 4010, .int .i64 4011, .int .i64 5010, .int .i64 5011, .int .i64 5020, .int .i64 5021, .int .i64 6010, .int .i64 6011, .int .i64 6020, .int .i64 6021, .int .i64 6040, .int .i64 6050, .int .i64 6060, .int .i64 6070, .int .i64 6071, .int .i64 6072, .int .i64 6080, .int .i64 6090, .int .i64 6120, .int .i64 8510, .int .i64 8511, .int .i64 9010, .int .i64 9011, .int .i64 9020, .int .i64 9021, .int .i64 9030, .int .i64 9031] 3)) (S := fun _ => False) (A := none) (c := 0) (mI id) (Sl.nil _ _ _)
  rw [World.size_alloc] at hx
  have hxf : ∀ o, ((w.alloc (.cells #[.int .i64 2010, .int .i64 2011, .int .i64 2040, .int .i64 2041, .int .i64 4010, .int .i64 4011, .int .i64 5010, .int .i64 5011, .int .i64 5020, .int .i64 5021, .int .i64 6010, .int .i64 6011, .int .i64 6020, .int .i64 6021, .int .i64 6040, .int .i64 6050, .int .i64 6060, .int .i64 6070, .int .i64 6071, .int .i64 6072, .int .i64 6080, .int .i64 6090, .int .i64 6120, .int .i64 8510, .int .i64 8511, .int .i64 9010, .int .i64 9011, .int .i64 9020, .int .i64 9021, .int .i64 9030, .int .i64 9031] 3)).alloc ((mI id).obj none 0)).frozen? ⟨w.heap.size + 1, o, none⟩ = false := fun o => by go_simp
  have HX := Kp.mk hx; have HXF := Kp.mk hxf
  clear hx hxf hc0 hk
  refine (may32 (mI id) (mI_ok id hi1 hi2) (fun _ => True) none 0 _ (Sl.nil _ _ _)).mono ?_
  rintro e w1 ⟨rfl, ht1⟩
  rw [HMI.out]
  have HX1 := Kp.mk (HX.out.still ht1)
  have f0 := (ht1.frozen (a := ⟨w.heap.size + 1, 10, none⟩) (by simp) (fun f => f)).trans (HXF.out 10)
  have HT1 := Kp.mk ((((Still.refl w).alloc _).alloc _).strans ht1)
  have hsz1 := ht1.size
  simp only [World.size_alloc] at hsz1
  clear ht1 HX HXF
  have x0 := HX1.out.bk
  have x1 := HX1.out.id
  go_wp2_with fail
  have HX2 := Kp.mk (show MAt (w1.setCell ⟨w.heap.size + 1, 10, none⟩ (.bool true)) (fun _ => False) (w.heap.size + 1) none 0 (mP id 98) from HX1.out.set_bk (fun h => h) _)
  have HT2 := Kp.mk (show Still w (w1.setCell ⟨w.heap.size + 1, 10, none⟩ (.bool true)) from HT1.out.trans ((Tch.refl (· = w.heap.size + 1) _).setCell _ _ (fun _ => rfl)) (fun b hb e => by omega))
  generalize w1.setCell ⟨w.heap.size + 1, 10, none⟩ (.bool true) = w2 at *
  clear x0 x1 f0
  have hps := ps_size (partsL id)
  refine (parts33 id _).mono ?_
  rintro e w3 ⟨rfl, rfl⟩
  have hps2 : (partsL id).length ≤ 100 := parts_len id
  go_wp2_with fail
  go_loop [9, 10] (fun h i => ∃ k : Nat, k ≤ (partsL id).length ∧ i = .int .i64 k ∧ h = .bool (((partsL id).take k).contains 98)) (fun _ i => (partsL id).length - (intOf i).toNat)
  case atStart => exact ⟨0, Nat.zero_le _, rfl, rfl⟩
  case round =>
    obtain ⟨q, hq, rfl, rfl⟩ := hrel
    by_cases hlt : q < (partsL id).length
    · have hib : q < (ps (partsL id)).size := by omega
      have hci : (ps (partsL id))[q]'hib = (partsL id)[q] := rfl
      have HTK := Kp.mk (show ((partsL id).take (q + 1)).contains 98 = (((partsL id).take q).contains 98 || ((partsL id)[q] == 98)) by rw [List.take_succ_eq_append_getElem hlt, contains_snoc]; rfl)
      have hbt : (((partsL id)[q].toNat : Int) == 98) = ((partsL id)[q] == 98) := by
        rw [Bool.eq_iff_iff]; simp [← UInt8.toNat_inj]; omega
      generalize (partsL id)[q] = c at *
      cases hcn : ((partsL id).take q).contains 98 with
      | true =>
        rw [hcn] at HTK
        clear hcn
        go_wp2_with fail
        go_round
        case rel => exact ⟨q + 1, by omega, by go_num, by rw [HTK.out]; rfl⟩
        case measure => simp [intOf]; omega
      | false =>
        rw [hcn] at HTK
        clear hcn
        go_wp2_with fail
        go_round
        case rel => exact ⟨q + 1, by omega, by go_num, by rw [HTK.out]; rfl⟩
        case measure => simp [intOf]; omega
    · obtain rfl : q = (partsL id).length := by omega
      rw [List.take_length]
      change Kp ((mP id 98).mayB = (partsL id).contains 98) at HMP
      generalize (partsL id).contains 98 = hb at *
      go_wp2_with fail
      refine (told34 _).mono ?_
      rintro e w4 ⟨rfl, ht4⟩
      have HX4 := Kp.mk (HX2.out.still ht4)
      have HT4 := Kp.mk (HT2.out.strans ht4); clear ht4 HX2
      have q0 := HX4.out.id
      have q1 := HX4.out.nm
      have q2 := HX4.out.ty
      have q3 := HX4.out.ex
      have q4 := HX4.out.ky
      have q5 := HX4.out.tx
      have q6 := HX4.out.co
      have q7 := HX4.out.cn
      have q8 := HX4.out.tg
      have q9 := HX4.out.fl
      have q10 := HX4.out.bk
      have q11 := HX4.out.ar
      go_wp2_with fail
      refine (may32 (mP id 98) (mP_ok id hi1 hi2 98 (by decide)) _ _ _ _ HX4.out.sl).mono ?_
      rintro e w5 ⟨rfl, ht5⟩
      rw [HMP.out]
      have HT5 := Kp.mk (HT4.out.strans ht5); clear ht5 q0 q1 q2 q3 q4 q5 q6 q7 q8 q9 q10 q11
      go_wp2_with fail
      go_ret
      exact ⟨ret_bool (by simp), HT5.out⟩

set_option maxHeartbeats 1000000 in
theorem parts11_10 (a b : Int) (w : World) (k : Nat) (hk : wrap64 ((IntKind.u64.wrap a).tmod 31) = k) (hk31 : k < 31) (hj : wrap64 ((IntKind.u64.wrap b).tmod 11) = 10) :
    Calls Try.prog 11 #[.int .i64 a, .int .i64 b] w fun e w' => e = .returned (.bool true) ∧ Still w w' := by
  have hc0 := ids_at w k hk31
  have HMI := Kp.mk (mI_may ⟨k, hk31⟩)
  have HMP := Kp.mk (mP_may ⟨k, hk31⟩ ⟨10, by decide⟩)
  obtain ⟨hi1, hi2⟩ := ids_in ⟨k, hk31⟩
  simp only at hi1 hi2
  have hidx : ∀ w, (Instr.index 9 (.string ⟨#[110, 121, 101, 107, 120, 99, 117, 116, 102, 98, 97]⟩) (.int .i64 10)).run Try.prog w = .ok (.int .u8 97) w := fun w => letter_at 10 (by decide) w
  go_enter Try.func11, Try.ntmps11
  go_wp2_with fail
  generalize idAt k = id at *
  have hx := MAt.new (w := w.alloc (.cells #[.int .i64 2010, .int .i64 2011, .int .i64 2040, .int .i64 2041, .int .i64 4010, .int .i64 4011, .int .i64 5010, .int .i64 5011, .int .i64 5020, .int .i64 5021, .int .i64 6010, .int .i64 6011, .int .i64 6020, .int .i64 6021, .int .i64 6040, .int .i64 6050, .int .i64 6060, .int .i64 6070, .int .i64 6071, .int .i64 6072, .int .i64 6080, .int .i64 6090, .int .i64 6120, .int .i64 8510, .int .i64 8511, .int .i64 9010, .int .i64 9011, .int .i64 9020, .int .i64 9021, .int .i64 9030, .int .i64 9031] 3)) (S := fun _ => False) (A := none) (c := 0) (mI id) (Sl.nil _ _ _)
  rw [World.size_alloc] at hx
  have hxf : ∀ o, ((w.alloc (.cells #[.int .i64 2010, .int .i64 2011, .int .i64 2040, .int .i64 2041, .int .i64 4010, .int .i64 4011, .int .i64 5010, .int .i64 5011, .int .i64 5020, .int .i64 5021, .int .i64 6010, .int .i64 6011, .int .i64 6020, .int .i64 6021, .int .i64 6040, .int .i64 6050, .int .i64 6060, .int .i64 6070, .int .i64 6071, .int .i64 6072, .int .i64 6080, .int .i64 6090, .int .i64 6120, .int .i64 8510, .int .i64 8511, .int .i64 9010, .int .i64 9011, .int .i64 9020, .int .i64 9021, .int .i64 9030, .int .i64 9031] 3)).alloc ((mI id).obj none 0)).frozen? ⟨w.heap.size + 1, o, none⟩ = false := fun o => by go_simp
  have HX := Kp.mk hx; have HXF := Kp.mk hxf
  clear hx hxf hc0 hk
  refine (may32 (mI id) (mI_ok id hi1 hi2) (fun _ => True) none 0 _ (Sl.nil _ _ _)).mono ?_
  rintro e w1 ⟨rfl, ht1⟩
  rw [HMI.out]
  have HX1 := Kp.mk (HX.out.still ht1)
  have f0 := (ht1.frozen (a := ⟨w.heap.size + 1, 11, none⟩) (by simp) (fun f => f)).trans (HXF.out 11)
  have HT1 := Kp.mk ((((Still.refl w).alloc _).alloc _).strans ht1)
  have hsz1 := ht1.size
  simp only [World.size_alloc] at hsz1
  clear ht1 HX HXF
  have x0 := HX1.out.ar
  have x1 := HX1.out.id
  have y0 := fun o => ((Still.refl w1).alloc o).scell x0
  have yf := fun o => (((Still.refl w1).alloc o).frozen (a := ⟨w.heap.size + 1, 11, none⟩) (by simp; omega) (fun f => f)).trans f0
  have y1 := fun o => ((Still.refl w1).alloc o).scell x1
  go_wp2_with fail
  have hsl : Sl (w1.alloc (.cells #[.string { data := #[102] }, .int .i64 0, .int .i64 0, .string { data := #[] }, .slice none 0 0] 37)) (fun x => x = w1.heap.size) (some ⟨w1.heap.size, 0, none⟩) (.cons ⟨#[102]⟩ 0 0 .empty .nil .nil) :=
    Sl.new (l := .cons ⟨#[102]⟩ 0 0 .empty .nil .nil) (n := 1) rfl rfl ⟨none, 0, _, rfl, Sl.nil _ _ _, rfl⟩ rfl
  have HX2 := Kp.mk (show MAt ((w1.alloc (.cells #[.string { data := #[102] }, .int .i64 0, .int .i64 0, .string { data := #[] }, .slice none 0 0] 37)).setCell ⟨w.heap.size + 1, 11, none⟩ (.slice (some ⟨w1.heap.size, 0, none⟩) 1 1)) (fun x => x = w1.heap.size) (w.heap.size + 1) (some ⟨w1.heap.size, 0, none⟩) 1 (mP id 97) from
    ((HX1.out.still ((Still.refl _).alloc _)).weakS (fun _ h => h.elim)).set_ar (by omega) _ hsl)
  have HT2 := Kp.mk (show Still w ((w1.alloc (.cells #[.string { data := #[102] }, .int .i64 0, .int .i64 0, .string { data := #[] }, .slice none 0 0] 37)).setCell ⟨w.heap.size + 1, 11, none⟩ (.slice (some ⟨w1.heap.size, 0, none⟩) 1 1)) from (HT1.out.alloc _).trans ((Tch.refl (· = w.heap.size + 1) _).setCell _ _ (fun _ => rfl)) (fun b hb e => by omega))
  generalize (w1.alloc (.cells #[.string { data := #[102] }, .int .i64 0, .int .i64 0, .string { data := #[] }, .slice none 0 0] 37)).setCell ⟨w.heap.size + 1, 11, none⟩ (.slice (some ⟨w1.heap.size, 0, none⟩) 1 1) = w2 at *
  clear hsl x0 x1 y0 yf y1 f0
  have hps := ps_size (partsL id)
  refine (parts33 id _).mono ?_
  rintro e w3 ⟨rfl, rfl⟩
  have hps2 : (partsL id).length ≤ 100 := parts_len id
  go_wp2_with fail
  go_loop [9, 10] (fun h i => ∃ k : Nat, k ≤ (partsL id).length ∧ i = .int .i64 k ∧ h = .bool (((partsL id).take k).contains 97)) (fun _ i => (partsL id).length - (intOf i).toNat)
  case atStart => exact ⟨0, Nat.zero_le _, rfl, rfl⟩
  case round =>
    obtain ⟨q, hq, rfl, rfl⟩ := hrel
    by_cases hlt : q < (partsL id).length
    · have hib : q < (ps (partsL id)).size := by omega
      have hci : (ps (partsL id))[q]'hib = (partsL id)[q] := rfl
      have HTK := Kp.mk (show ((partsL id).take (q + 1)).contains 97 = (((partsL id).take q).contains 97 || ((partsL id)[q] == 97)) by rw [List.take_succ_eq_append_getElem hlt, contains_snoc]; rfl)
      have hbt : (((partsL id)[q].toNat : Int) == 97) = ((partsL id)[q] == 97) := by
        rw [Bool.eq_iff_iff]; simp [← UInt8.toNat_inj]; omega
      generalize (partsL id)[q] = c at *
      cases hcn : ((partsL id).take q).contains 97 with
      | true =>
        rw [hcn] at HTK
        clear hcn
        go_wp2_with fail
        go_round
        case rel => exact ⟨q + 1, by omega, by go_num, by rw [HTK.out]; rfl⟩
        case measure => simp [intOf]; omega
      | false =>
        rw [hcn] at HTK
        clear hcn
        go_wp2_with fail
        go_round
        case rel => exact ⟨q + 1, by omega, by go_num, by rw [HTK.out]; rfl⟩
        case measure => simp [intOf]; omega
    · obtain rfl : q = (partsL id).length := by omega
      rw [List.take_length]
      change Kp ((mP id 97).mayB = (partsL id).contains 97) at HMP
      generalize (partsL id).contains 97 = hb at *
      go_wp2_with fail
      refine (told34 _).mono ?_
      rintro e w4 ⟨rfl, ht4⟩
      have HX4 := Kp.mk (HX2.out.still ht4)
      have HT4 := Kp.mk (HT2.out.strans ht4); clear ht4 HX2
      have q0 := HX4.out.id
      have q1 := HX4.out.nm
      have q2 := HX4.out.ty
      have q3 := HX4.out.ex
      have q4 := HX4.out.ky
      have q5 := HX4.out.tx
      have q6 := HX4.out.co
      have q7 := HX4.out.cn
      have q8 := HX4.out.tg
      have q9 := HX4.out.fl
      have q10 := HX4.out.bk
      have q11 := HX4.out.ar
      go_wp2_with fail
      refine (may32 (mP id 97) (mP_ok id hi1 hi2 97 (by decide)) _ _ _ _ HX4.out.sl).mono ?_
      rintro e w5 ⟨rfl, ht5⟩
      rw [HMP.out]
      have HT5 := Kp.mk (HT4.out.strans ht5); clear ht5 q0 q1 q2 q3 q4 q5 q6 q7 q8 q9 q10 q11
      go_wp2_with fail
      go_ret
      exact ⟨ret_bool (by simp), HT5.out⟩

theorem parts11 (a b : Int) (w : World) : Calls Try.prog 11 #[.int .i64 a, .int .i64 b] w fun e w' => e = .returned (.bool true) ∧ Still w w' := by
  obtain ⟨k, hk, hk31⟩ := rem31 a
  obtain ⟨j, hj, hj11⟩ := rem11 b
  match j, hj11, hj with
  | 0, _, hj => exact parts11_0 a b w k hk hk31 hj
  | 1, _, hj => exact parts11_1 a b w k hk hk31 hj
  | 2, _, hj => exact parts11_2 a b w k hk hk31 hj
  | 3, _, hj => exact parts11_3 a b w k hk hk31 hj
  | 4, _, hj => exact parts11_4 a b w k hk hk31 hj
  | 5, _, hj => exact parts11_5 a b w k hk hk31 hj
  | 6, _, hj => exact parts11_6 a b w k hk hk31 hj
  | 7, _, hj => exact parts11_7 a b w k hk hk31 hj
  | 8, _, hj => exact parts11_8 a b w k hk hk31 hj
  | 9, _, hj => exact parts11_9 a b w k hk hk31 hj
  | 10, _, hj => exact parts11_10 a b w k hk hk31 hj
end Go.Proofs.Ytaeainkfllfdfaa
