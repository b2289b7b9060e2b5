/- Contracts of the functions that the statement reaches, each walked once, and the plain laws over them, for every input that their premises name (F3, A8, C1, C2). -/
import Derived.Test.YtaeainkfllfdfaaQ7
import Derived.Laws.BitsAllLaws
import Derived.OwnWalk
/- F3: The walk of ValueBack. -/
namespace Go.Proofs.Ytaeainkfllfdfaa
open Go.RowKit
set_option linter.unusedVariables false
set_option linter.unusedSimpArgs false
set_option maxRecDepth 100000

/-- A row of no bytes that was just laid. -/
theorem OwnB.made {w : World} {base g : Nat} (h : w.heap[g]? = some (.cells #[] 5)) (hb : base ≤ g) : OwnB w base (some ⟨g, 0, none⟩) 0 [] :=
  ⟨rfl, .inr ⟨g, 0, #[], rfl, hb, h, Nat.le_refl _, by decide, rfl, rfl⟩⟩
theorem OwnB.open {w : World} {base : Nat} {A : Option Addr} {c : Nat} {bs : List UInt8} (h : OwnB w base A c bs) (hl : 0 < bs.length) :
    ∃ g, A = some ⟨g, 0, none⟩ ∧ base ≤ g ∧ g < w.heap.size ∧ (∀ o, w.frozen? ⟨g, o, none⟩ = false) ∧ ∀ j (hj : j < bs.length), w.cell? ⟨g, j, none⟩ = some (.int .u8 (bs[j]'hj).toNat) := by
  have hb := h.bs
  rcases h.2 with ⟨hv', hn⟩ | ⟨g, cap, cur, hv', hg, hh, r⟩
  · omega
  · have hA : A = some ⟨g, 0, none⟩ := by simp at hv'; exact hv'.1
    subst hA
    refine ⟨g, rfl, hg, (Array.getElem?_eq_some_iff.1 hh).1, fun o => by simp [World.frozen?, hh], fun j hj => ?_⟩
    rcases hb with rfl | ⟨b, o, e, _, hc⟩
    · simp at hj
    · obtain ⟨rfl, rfl⟩ : g = b ∧ 0 = o := by simpa using e
      have := hc j hj
      rwa [Nat.zero_add] at this
/-- One byte stored. -/
theorem set_byte {w : World} {g k : Nat} {bs : List UInt8} (hc : ∀ j (hj : j < bs.length), w.cell? ⟨g, j, none⟩ = some (.int .u8 (bs[j]'hj).toNat)) (u : UInt8) : Bs (w.setCell ⟨g, k, none⟩ (.int .u8 u.toNat)) (· = g) (some ⟨g, 0, none⟩) (bs.set k u) := by
  refine .inr ⟨g, 0, rfl, rfl, fun j hj => ?_⟩
  have hj' : j < bs.length := by simpa using hj
  rw [Nat.zero_add]
  by_cases e : k = j
  · subst e
    rw [World.cell?_setCell_same w _ _ (hc k hj')]
    simp
  · rw [World.cell?_setCell_other w _ _ _ (by simp [e]), hc j hj']
    simp [e]
theorem get_okn (b : List UInt8) (A : Option Addr) (c n : Nat) (S : Nat → Prop) (w : World) (hn : n = b.length) (h0 : b.length ≤ 140737488351232) (h1 : b.length ≤ c) (h2 : c ≤ 9223372036854775807) (hB : Bs w S A b) :
    Calls Try.prog 19 #[.slice A n c] w (RetGet w b) := get_ok b A c n S w hn h0 h1 h2 hB

theorem xor_byte (a b : UInt8) : bits .xor .u8 (a.toNat : Int) (b.toNat : Int) = ((a ^^^ b).toNat : Int) := by
  rw [u8_xor_nat _ _ a.toNat_lt b.toNat_lt, UInt8.toNat_xor]
set_option maxHeartbeats 8000000 in
theorem back3 (l : L) (A : Option Addr) (c : Nat) (at_ : Int) (u : UInt8) (w : World) (hl : l.len ≤ 140737488351232) (hO : l.Ok) (hS : Sl w (fun b => b < w.heap.size) A l) :
    Calls Try.prog 3 #[.slice A l.len c, .int .i64 at_, .int .u8 u.toNat] w fun e w' => e = .returned (.bool true) ∧ Still w w' := by
  have HO := Kp.mk hO; clear hO
  have HS := Kp.mk hS; clear hS
  go_enter Try.func3, Try.ntmps3
  go_wp2_with fail
  refine (few16 l A c _ w hl HO.out HS.out).mono ?_
  rintro e w1 ⟨⟨fw, rfl⟩, ht1⟩
  have HT1 := Kp.mk ht1; clear ht1
  cases fw with
  | false =>
    go_wp2_with fail
    refine (told17 w1).mono ?_
    rintro e w2 ⟨rfl, ht2⟩
    have HT2 := Kp.mk (HT1.out.strans ht2); clear ht2
    go_wp2_with fail
    go_ret
    exact ⟨rfl, HT2.out⟩
  | true =>
  go_wp2_with fail
  refine (put_ok l A c _ w1 hl HO.out (HS.out.still HT1.out)).mono ?_
  rintro e w2 ⟨A1, c1, rfl, ho1, ht2⟩
  have hsz := HT1.out.size
  have HT2 := Kp.mk (HT1.out.strans ht2); clear ht2 HT1
  by_cases hE : l.putE = 0
  · obtain ⟨hm, hb, hB⟩ := put_zero hE
    have hok := getOk_enc HO.out hm hb
    rw [hB] at ho1 ⊢
    rw [hE]
    have h4 : 4 ≤ l.enc.length := (getOk_form hok).1
    obtain ⟨k, hk, hkl⟩ := remL at_ l.enc.length (by omega) (by omega)
    have HE := Kp.mk (getE_yes hok); have HL := Kp.mk ((get_put HO.out hm hb).1)
    have HC := Kp.mk (getE_no (back_cut hok hkl)); have HMo := Kp.mk (getE_no (back_more hok u))
    have HTF := Kp.mk (fun h => turn_no (c := u) hok hkl h)
    have HTT := Kp.mk (fun h => getL_turn HO.out hm hb u hkl h)
    have HTL := Kp.mk (turn_length l.enc k u)
    have HTU := Kp.mk (show turn l.enc k u = l.enc.set k (l.enc[k] ^^^ u) by simp [turn, List.getD, hkl])
    have hcp := ho1.caps
    have HOW := Kp.mk ho1
    have hzb : ((l.enc.length : Int) == 0) = false := by rw [beq_eq_false_iff_ne]; omega
    clear ho1 hE hm hB hok
    go_wp2_with fail
    refine (get_okn l.enc A1 c1 _ _ w2 rfl (by omega) hcp.1 hcp.2 HOW.out.bs).mono ?_
    rintro e w3 ⟨A2, c2, rfl, hs2, ht3⟩
    rw [HL.out] at hs2 ⊢
    rw [HE.out]
    have HT3 := Kp.mk (HT2.out.strans ht3)
    have HOW3 := Kp.mk (HOW.out.still ht3)
    have HS2 := Kp.mk hs2; clear hs2 ht3
    go_wp2_with fail
    have hcut := get_okn (l.enc.take k) A1 c1 k (fun b => w1.heap.size ≤ b ∧ b < w3.heap.size ∧ blk A1 b) w3 (by rw [List.length_take]; omega) (by rw [List.length_take]; omega) (by rw [List.length_take]; omega) hcp.2 (HOW3.out.bs.take k)
    refine hcut.mono ?_
    rintro e w4 ⟨A3, c3, rfl, hs3, ht4⟩
    rw [HC.out]
    have HT4 := Kp.mk (HT3.out.strans ht4)
    have HOW4 := Kp.mk (HOW3.out.still ht4)
    have HS3 := Kp.mk (HS2.out.still ht4); clear hs3 ht4 hcut HS2
    go_wp2_with (first
      | (at_builtin; (refine wpList_appB _ rfl (.tmp 62) (.tmp 63) rfl w4.heap.size _ 0 0 _ [] rfl rfl (OwnB.made (heap_alloc_new _ _) (Nat.le_refl _)) A1 c1 l.enc rfl rfl _ (HOW4.out.bs.still ((Still.refl _).alloc _)) ?_ ?_ ?_); (simp only [List.length_nil]; omega); (simp only [World.size_alloc]; omega); intro A5 c5 w5 ho5 ht5 hat5; have HO5 := Kp.mk ho5; have HT5 := Kp.mk (app_still2 (W := w4) ((Still.refl _).alloc _) (fun b hb => (by obtain ⟨y, hy, e⟩ := hb; simp only [Option.some.injEq] at hy; subst hy; (try dsimp only at e); omega)) ht5); clear ho5 ht5 hat5)
      | (at_builtin; (refine wpList_appB _ rfl (.tmp 64) (.tmp 66) rfl w4.heap.size A5 c5 _ 1 ([] ++ l.enc) rfl ?_ (HO5.out.still ((Still.refl _).alloc _)) (some ⟨w5.heap.size, 0, none⟩) 1 [u] rfl rfl (fun _ => True) (Bs.one _ _ _ trivial (new_one _ _ _)) ?_ ?_ ?_); (simp); (simp only [List.length_append, List.length_cons, List.length_nil]; omega); (have := HT5.out.size; simp only [World.size_alloc]; omega); intro A6 c6 w6 ho6 ht6 hat6; have HO6 := Kp.mk ho6; have HT6 := Kp.mk (HT4.out.strans (app_still2 (W := w4) (HT5.out.alloc _) (fun b hb => (HO5.out.base hb).1) ht6)); have HT46 := Kp.mk (app_still2 (W := w4) (HT5.out.alloc _) (fun b hb => (HO5.out.base hb).1) ht6); clear ho6 ht6 hat6))
    have hc6 := HO6.out.caps
    simp only [List.nil_append, List.length_append, List.length_cons, List.length_nil] at hc6
    refine (get_okn ([] ++ l.enc ++ [u]) A6 c6 _ _ w6 (by simp) (by simp; omega) (by simp; omega) hc6.2 HO6.out.bs).mono ?_
    rintro e w7 ⟨A7, c7, rfl, hs7, ht7⟩
    simp only [List.nil_append]
    rw [HMo.out]
    have HT7 := Kp.mk (HT6.out.strans ht7)
    have HOW7 := Kp.mk (HOW4.out.still (HT46.out.strans ht7))
    have HS7 := Kp.mk (HS3.out.still (HT46.out.strans ht7)); clear hs7 ht7 HS3 HOW4 HO5 HO6 HT46 HT5 hc6
    go_wp2_with fail
    refine (same_ok l l A2 A c2 c (fun _ => True) w7 hl hl HO.out HO.out (HS7.out.weak (fun _ _ => trivial)) ((HS.out.still HT7.out).weak (fun _ _ => trivial))).mono ?_
    rintro e w8 ⟨rfl, ht8⟩
    rw [decide_eq_true (rfl : l = l)]
    have HT8 := Kp.mk (HT7.out.strans ht8)
    have HOW8 := Kp.mk (HOW7.out.still ht8); clear ht8 HS7 HOW7
    go_wp2_with (at_builtin; (refine wpList_appB _ rfl (.tmp 87) (.tmp 88) rfl w8.heap.size _ 0 0 _ [] rfl rfl (OwnB.made (heap_alloc_new _ _) (Nat.le_refl _)) A1 c1 l.enc rfl rfl _ (HOW8.out.bs.still ((Still.refl _).alloc _)) ?_ ?_ ?_); (simp only [List.length_nil]; omega); (simp only [World.size_alloc]; omega); intro A9 c9 w9 ho9 ht9 hat9; have HO9 := Kp.mk ho9; have HT9 := Kp.mk (app_still2 (W := w8) ((Still.refl _).alloc _) (fun b hb => (by obtain ⟨y, hy, e⟩ := hb; simp only [Option.some.injEq] at hy; subst hy; (try dsimp only at e); omega)) ht9); clear ho9 ht9 hat9; obtain ⟨g, rfl, hg, hlt, hfz, hce⟩ := (show OwnB w9 w8.heap.size A9 c9 l.enc from HO9.out).open (by omega); have hck := hce k hkl; have HCE := Kp.mk hce; clear hce; have hlc := (show OwnB w9 w8.heap.size (some ⟨g, 0, none⟩) c9 l.enc from HO9.out).caps)
    have HB10 := Kp.mk (set_byte (k := k) HCE.out (l.enc[k] ^^^ u))
    have hT10 : Still w8 (w9.setCell ⟨g, k, none⟩ (.int .u8 (l.enc[k] ^^^ u).toNat)) := HT9.out.trans ((Tch.refl (· = g) w9).setCell _ _ (fun _ => rfl)) (fun b hb e => by omega)
    have HT10 := Kp.mk (HT8.out.strans hT10)
    rw [← HTU.out] at HB10
    rw [xor_byte]
    clear hck hfz HO9
    generalize w9.setCell ⟨g, k, none⟩ (.int .u8 (l.enc[k] ^^^ u).toNat) = w10 at *
    have hcg := get_okn (turn l.enc k u) (some ⟨g, 0, none⟩) c9 l.enc.length (· = g) w10 HTL.out.symm (by rw [HTL.out]; omega) (by rw [HTL.out]; omega) hlc.2 HB10.out
    refine hcg.mono ?_
    rintro e w11 ⟨A11, c11, rfl, hs11, ht11⟩
    have HT11 := Kp.mk (HT10.out.strans ht11)
    have HB11 := Kp.mk (HB10.out.still ht11)
    have HS11 := Kp.mk hs11
    clear hcg hs11 ht11
    cases hgo : getOk (turn l.enc k u) with
    | false =>
      rw [getE_no hgo]
      have hu := HTF.out hgo
      have hub : ((u.toNat : Int) != 0) = true := by
        rw [bne_iff_ne]
        intro h
        exact hu (UInt8.toNat_inj.1 (by simpa using h))
      clear hgo hu
      go_wp2_with fail
      refine (told17 w11).mono ?_
      rintro e w12 ⟨rfl, ht12⟩
      have HT12 := Kp.mk (HT11.out.strans ht12); clear ht12
      go_wp2_with fail
      go_ret
      exact ⟨rfl, HT12.out⟩
    | true =>
      rw [getE_yes hgo]
      obtain ⟨hpb, hpe⟩ := getL_yes hgo
      have HGL := Kp.mk (getL_ok (turn l.enc k u) (by rw [HTL.out]; omega))
      have HQ := Kp.mk (HTT.out hgo)
      have HPB := Kp.mk hpb; have HPE := Kp.mk hpe
      clear hgo hpb hpe
      generalize getL (turn l.enc k u) = y at *
      generalize turn l.enc k u = t at *
      go_wp2_with fail
      refine (put_ok y A11 c11 _ w11 (by have := HGL.out.2; omega) HGL.out.1 HS11.out).mono ?_
      rintro e w12 ⟨A12, c12, rfl, ho12, ht12⟩
      rw [HPE.out]
      rw [HPB.out] at ho12 ⊢
      have HT12 := Kp.mk (HT11.out.strans ht12)
      have HB12 := Kp.mk (HB11.out.still ht12)
      have HS12 := Kp.mk (HS11.out.still ht12)
      have HO12 := Kp.mk ho12; clear ho12 ht12
      go_wp2_with fail
      refine (told17 w12).mono ?_
      rintro e w13 ⟨rfl, ht13⟩
      have HT13 := Kp.mk (HT12.out.strans ht13)
      have hcv1 := run_conv (c := c12) (HO12.out.bs.still ht13) _ rfl
      have hcv2 := run_conv (c := c9) (HB12.out.still ht13) l.enc.length HTL.out.symm
      have HS13 := Kp.mk (HS12.out.still ht13); clear ht13
      go_wp2_with fail
      refine (same_ok y l A11 A c11 c (fun _ => True) w13 (by have := HGL.out.2; omega) hl HGL.out.1 HO.out (HS13.out.weak (fun _ _ => trivial)) ((HS.out.still HT13.out).weak (fun _ _ => trivial))).mono ?_
      rintro e w14 ⟨rfl, ht14⟩
      have HT14 := Kp.mk (HT13.out.strans ht14); clear ht14
      by_cases hu : u = 0
      · have hub : ((u.toNat : Int) == 0) = true := by rw [hu]; rfl
        rw [decide_eq_true (HQ.out.2 hu)]
        clear hu
        go_wp2_with fail
        go_ret
        exact ⟨rfl, HT14.out⟩
      · have hub : ((u.toNat : Int) == 0) = false := by
          rw [beq_eq_false_iff_ne]
          intro h
          exact hu (UInt8.toNat_inj.1 (by simpa using h))
        rw [decide_eq_false (fun h => hu (HQ.out.1 h))]
        clear hu
        go_wp2_with fail
        go_ret
        exact ⟨rfl, HT14.out⟩
  · have hne : (l.putE == 0) = false := by simpa using hE
    have hne2 : (l.putE != 0) = true := by simp [hE]
    clear ho1
    go_wp2_with fail
    refine (told17 w2).mono ?_
    rintro e w4 ⟨rfl, ht4⟩
    have HT4 := Kp.mk (HT2.out.strans ht4); clear ht4
    go_wp2_with fail
    go_ret
    exact ⟨rfl, HT4.out⟩
end Go.Proofs.Ytaeainkfllfdfaa
/- A8: Calls (chapter 5) as data: their parts, which may be, their bytes. No program in sight. -/
namespace Go.Proofs.Ytaeainkfllfdfaa
open Go.RowKit
set_option linter.unusedVariables false
set_option linter.unusedSimpArgs false

/-- A call. -/
structure M where
  id : Int
  nm : ByteArray
  ty : ByteArray
  ex : ByteArray
  ky : ByteArray
  tx : ByteArray
  co : Int
  cn : Int
  tg : Int
  fl : Bool
  bk : Bool
  ar : L
  deriving DecidableEq

/-- The parts of each call, by its number. -/
def tabP : List (Int × List UInt8) := [(2010, []), (2011, []), (2041, []), (4011, []), (5021, []), (6011, []), (6072, []), (8510, []), (8511, []), (9010, []), (9011, []), (9020, []), (9021, []), (9030, []), (9031, []),
  (2040, [99, 120]), (4010, [110, 121]), (5010, [110]), (6070, [110]), (5011, [110, 117]), (5020, [110, 101, 107, 97]), (6010, [117]), (6020, [110, 120]), (6021, [120]), (6040, [101, 107, 102]), (6050, [99, 120, 101, 107]), (6060, [120, 116, 102, 101, 107]), (6071, [116, 102, 101, 107, 117]),
  (6080, [116, 102]), (6090, [116, 102]), (6120, [116, 102, 98])]
def lookP : List (Int × List UInt8) → Int → List UInt8
  | [], _ => [45]
  | (k, v) :: r, id => if id = k then v else lookP r id
def partsL (id : Int) : List UInt8 := lookP tabP id
theorem lookP_cases : ∀ (t : List (Int × List UInt8)) (id : Int), lookP t id = [45] ∨ ∃ v, (id, v) ∈ t ∧ lookP t id = v
  | [], _ => .inl rfl
  | (k, v) :: r, id => by
    unfold lookP
    by_cases h : id = k
    · rw [if_pos h]; exact .inr ⟨v, by simp [h], rfl⟩
    · rw [if_neg h]
      rcases lookP_cases r id with h1 | ⟨v', h1, h2⟩
      · exact .inl h1
      · exact .inr ⟨v', by simp [h1], h2⟩
/-- To show a thing of a call's number and parts it is enough to show it of those in the table, where there are parts. -/
theorem partsL_ind {Q : Int → List UInt8 → Prop} (h : ∀ p ∈ tabP, Q p.1 p.2) (id : Int) (hn : partsL id ≠ [45]) : Q id (partsL id) := by
  rcases lookP_cases tabP id with h1 | ⟨v, h1, h2⟩
  · exact absurd h1 hn
  · have := h _ h1
    simp only at this
    unfold partsL
    rw [h2]; exact this

/-- All letters. -/
def lettersL : List UInt8 := [110, 121, 101, 107, 120, 99, 117, 116, 102, 98, 97]
/-- A text part. -/
def M.txt (m : M) (c : UInt8) : ByteArray := if c = 110 then m.nm else if c = 121 then m.ty else if c = 101 then m.ex else if c = 107 then m.ky else m.tx
/-- Is a part 0 or empty? -/
def M.emptyB (m : M) (c : UInt8) : Bool :=
  if c = 99 then decide (m.co = 0) else if c = 117 then decide (m.cn = 0) else if c = 116 then decide (m.tg = 0) else if c = 102 then !m.fl else if c = 98 then !m.bk
  else if c = 97 then decide (m.ar.len = 0) else decide ((m.txt c).size = 0)
/-- May a part be? -/
def M.rightB (m : M) (c : UInt8) : Bool :=
  if c = 99 then decide (0 ≤ m.co ∧ m.co ≤ 65535) else if c = 117 then decide (0 ≤ m.cn ∧ m.cn ≤ 4294967295) else if c = 116 ∨ c = 102 ∨ c = 98 then true
  else if c = 97 then m.ar.mayTab 1 else decide ((m.txt c).size ≤ 255)
/-- May a call with these parts be, as to one letter? -/
def M.okAt (m : M) (ps : List UInt8) (c : UInt8) : Bool := (ps.contains c || m.emptyB c) && m.rightB c
def M.mayB (m : M) : Bool := decide (partsL m.id ≠ [45]) && lettersL.all (m.okAt (partsL m.id))
/-- A part's bytes. -/
def M.encP (m : M) (c : UInt8) : List UInt8 :=
  if c = 99 then be (u64w m.co) 2 else if c = 117 then be (u64w m.cn) 4 else if c = 116 then be m.tg.toNat 8 else if c = 102 then [if m.fl then 1 else 0] else if c = 98 then [if m.bk then 1 else 0]
  else if c = 97 then m.ar.enc else UInt8.ofNat (m.txt c).size :: (m.txt c).data.toList
def M.encPs (m : M) : List UInt8 → List UInt8
  | [] => []
  | c :: r => m.encP c ++ m.encPs r
/-- A call's bytes. -/
def M.enc (m : M) : List UInt8 := be (u64w (m.id.tdiv 100)) 2 ++ be (u64w (m.id.tmod 100)) 2 ++ m.encPs (partsL m.id)
/-- Has a call arguments? -/
def hasA (id : Int) : Bool := (partsL id).getLast? == some 97
/-- What Put tells, and the bytes. -/
def M.putE (m : M) : Int := if m.mayB then (if hasA m.id then (if 3000 < m.ar.enc.length then 502 else 0) else 0) else 1
def M.putB (m : M) : List UInt8 := if m.putE = 0 then m.enc else []

/-- Numbers and lengths as Go's kinds and the model's reach have them. -/
structure M.Ok (m : M) : Prop where
  id1 : -9223372036854775808 ≤ m.id
  id2 : m.id ≤ 9223372036854775807
  nm : m.nm.size ≤ 140737488351232
  ty : m.ty.size ≤ 140737488351232
  ex : m.ex.size ≤ 140737488351232
  ky : m.ky.size ≤ 140737488351232
  tx : m.tx.size ≤ 140737488351232
  co1 : -9223372036854775808 ≤ m.co
  co2 : m.co ≤ 9223372036854775807
  cn1 : -9223372036854775808 ≤ m.cn
  cn2 : m.cn ≤ 9223372036854775807
  tg1 : 0 ≤ m.tg
  tg2 : m.tg < 18446744073709551616
  ar : m.ar.Ok
  arl : m.ar.len ≤ 140737488351232

theorem M.encPs_app (m : M) (a b : List UInt8) : m.encPs (a ++ b) = m.encPs a ++ m.encPs b := by
  induction a with
  | nil => rfl
  | cons c r ih => simp [M.encPs, ih]
/-- Only the last part of a call are its arguments. -/
theorem parts_a (id : Int) (hn : partsL id ≠ [45]) : (∀ c ∈ partsL id, c ∈ lettersL) ∧ (partsL id).length ≤ 5 ∧ (hasA id = true → partsL id = [110, 101, 107, 97]) ∧ (hasA id = false → 97 ∉ partsL id) ∧ 2010 ≤ id ∧ id ≤ 9031 ∧ 0 ≤ id.tmod 100 ∧ id.tmod 100 ≤ 99 := by
  have key : ∀ p ∈ tabP, (∀ c ∈ p.2, c ∈ lettersL) ∧ p.2.length ≤ 5 ∧ ((p.2.getLast? == some 97) = true → p.2 = [110, 101, 107, 97]) ∧ ((p.2.getLast? == some 97) = false → 97 ∉ p.2) ∧ 2010 ≤ p.1 ∧ p.1 ≤ 9031 ∧ 0 ≤ p.1.tmod 100 ∧ p.1.tmod 100 ≤ 99 := by decide +kernel
  exact partsL_ind (Q := fun id ps => (∀ c ∈ ps, c ∈ lettersL) ∧ ps.length ≤ 5 ∧ ((ps.getLast? == some 97) = true → ps = [110, 101, 107, 97]) ∧ ((ps.getLast? == some 97) = false → 97 ∉ ps) ∧ 2010 ≤ id ∧ id ≤ 9031 ∧ 0 ≤ id.tmod 100 ∧ id.tmod 100 ≤ 99) key id hn
theorem M.mayB_iff (m : M) : m.mayB = true ↔ partsL m.id ≠ [45] ∧ ∀ c ∈ lettersL, m.okAt (partsL m.id) c = true := by
  unfold M.mayB
  simp [List.all_eq_true]
end Go.Proofs.Ytaeainkfllfdfaa
/- C1: The small functions of method: Parts, part, empty, right, flag, num, and the library's IndexByte and HasSuffix on the letters. -/
namespace Go.Proofs.Ytaeainkfllfdfaa
open Go.RowKit
set_option linter.unusedVariables false
set_option linter.unusedSimpArgs false
set_option maxRecDepth 100000

theorem ret_str {a b : ByteArray} (h : a = b) : Ending.returned (.string a) = .returned (.string b) := by rw [h]
theorem ret_int {k : IntKind} {a b : Int} (h : a = b) : Ending.returned (.int k a) = .returned (.int k b) := by rw [h]
/-- The parts' letters as a text. -/
def ps (l : List UInt8) : ByteArray := ⟨l.toArray⟩
theorem ps_size (l : List UInt8) : (ps l).size = l.length := by simp [ps, ByteArray.size]

set_option maxHeartbeats 4000000 in
theorem parts33 (id : Int) (w : World) : Calls Try.prog 33 #[.int .i64 id] w fun e w' => e = .returned (.string (ps (partsL id))) ∧ w = w' := by
  go_enter Try.func33, Try.ntmps33
  go_wp2_with fail
  all_goals go_ret
  all_goals refine ⟨ret_str (congrArg ps ?_), rfl⟩
  all_goals go_light
  all_goals (try simp only [beq_iff_eq, beq_eq_false_iff_ne, ne_eq] at *)
  all_goals (simp [partsL, tabP, lookP, *])
set_option maxHeartbeats 1000000 in
theorem num63 (A : Option Addr) (c : Nat) (bs : List UInt8) (n : Int) (k : Nat) (K : Int) (base : Nat) (m : Nat) (w : World) (hm : m = bs.length) (hK : K = k) (hk : k ≤ 8) (hn0 : 0 ≤ n) (hn : n < 18446744073709551616) (ho : OwnB w base A c bs) (hb : base ≤ w.heap.size) (hlen : bs.length + k ≤ 140737488355328) :
    Calls Try.prog 63 #[.slice A m c, .int .u64 n, .int .i64 K] w (RetA base A (bs ++ be n.toNat k) w) := by
  subst hK; subst hm
  have HO := Kp.mk ho; clear ho
  have HQ := Kp.mk (fun j => byte_at n hn0 j)
  have hkb := be_length n.toNat k
  have HKB := Kp.mk hkb; clear hkb
  go_enter Try.func63, Try.ntmps63
  go_wp2_with fail
  go_loopw [0, 2] (fun v i wr => ∃ (j : Nat) (A' : Option Addr) (c' : Nat) (ds : List UInt8), j ≤ k ∧ i = .int .i64 ((j : Int) - 1) ∧ v = .slice A' ds.length c' ∧ Kp (ds ++ be n.toNat j = bs ++ be n.toNat k) ∧ Kp (OwnB wr base A' c' ds) ∧ Kp (Tch (blk A) w wr) ∧ Kp (∀ b, blk A' b → blk A b ∨ w.heap.size ≤ b)) (fun _ i _ => (intOf i + 1).toNat)
  case atStart => exact ⟨k, A, c, bs, by omega, by go_num, rfl, ⟨rfl⟩, HO, ⟨Tch.refl _ _⟩, ⟨fun b hb => .inl hb⟩⟩
  case round =>
    obtain ⟨j, A', c', ds, hj, rfl, rfl, HE, HW, HT, HB⟩ := hrel
    cases j with
    | zero =>
      have he := HE.out
      simp only [be, List.append_nil] at he
      subst he
      go_wp2_with fail
      go_ret
      exact ⟨A', c', rfl, HW.out, HT.out, HB.out⟩
    | succ j =>
      have g0 : (0 : Int) ≤ ((j + 1 : Nat) : Int) - 1 := by omega
      have hsz : ds.length + (j + 1) = bs.length + k := by have := congrArg List.length HE.out; simpa [be_length] using this
      have hbr : base ≤ wr.heap.size := Nat.le_trans hb HT.out.size
      go_wp2_with (at_builtin; (refine wpList_appB _ rfl _ _ rfl base A' c' _ 1 ds rfl rfl (HW.out.still ((Still.refl wr).alloc _)) (some ⟨wr.heap.size, 0, none⟩) 1 [UInt8.ofNat (n.toNat / 256 ^ j)] rfl rfl (fun _ => True) ?_ ?_ ?_ ?_); (rw [HQ.out]; exact Bs.one _ _ _ trivial (new_one _ _ _)); (simp only [List.length_cons, List.length_nil]; omega); (simp only [World.size_alloc]; omega); intro A2 c2 w2 ho2 ht2 hat2; have HO2 := Kp.mk ho2; have HT2 := Kp.mk ht2; have HA2 := Kp.mk hat2; clear ho2 ht2 hat2)
      go_roundw
      case rel =>
        refine ⟨j, A2, c2, ds ++ [UInt8.ofNat (n.toNat / 256 ^ j)], by omega, by go_num, by simp, ⟨?_⟩, HO2, ⟨?_⟩, ⟨?_⟩⟩
        · rw [← HE.out]; simp [be]
        · exact (HT.out.alloc _).trans HT2.out (fun b hb e => (HB.out b e).resolve_right (by omega))
        · intro b hb
          rcases HA2.out b hb with h | h
          · exact HB.out b h
          · have := HT.out.size; simp only [World.size_alloc] at h; exact .inr (by omega)
      case measure => go_light; simp only [intOf]; omega

theorem index_neg (l : List UInt8) (c : UInt8) : decide (Lib.indexByte l c < 0) = !l.contains c := by
  induction l with
  | nil => rfl
  | cons b l ih =>
    have hg := Lib.indexByte_ge l c
    unfold Lib.indexByte
    by_cases h : b = c
    · subst h; simp
    · have h2 : (b == c) = false := by simp [h]
      have h3 : ¬ c = b := fun e => h e.symm
      rw [h2]
      simp only [Bool.false_eq_true, if_false, List.contains_cons, show (c == b) = false by simp [h3], Bool.false_or]
      rw [← ih]
      by_cases hm : Lib.indexByte l c = -1
      · rw [hm]; rfl
      · rw [if_neg (by simp [hm])]
        rw [decide_eq_false (by omega), decide_eq_false (by omega)]
set_option maxHeartbeats 1000000 in
theorem idx82 (l : List UInt8) (c : UInt8) (w : World) : Calls Try.prog 82 #[.string (ps l), .int .u8 c.toNat] w fun e w' => e = .returned (.int .i64 (Lib.indexByte l c)) ∧ w = w' := by
  go_enter Try.func82, Try.ntmps82
  go_wp2_with fail
  rw [run_callFunc_extern Try.func92 (by kernel_rfl) (by kernel_rfl) (by kernel_rfl) (e := Extern.BytealgIndexByte.indexByte) (by kernel_rfl), Lib.run_indexByteString]
  simp only [Result.andThen]
  rw [Oper.upon_value]
  go_wp2
  go_ret
  exact ⟨ret_int (by simp [ps]), rfl⟩
theorem idx59 (l : List UInt8) (c : UInt8) (w : World) : Calls Try.prog 59 #[.string (ps l), .int .u8 c.toNat] w fun e w' => e = .returned (.int .i64 (Lib.indexByte l c)) ∧ w = w' := by
  go_enter Try.func59, Try.ntmps59
  go_wp2_with fail
  refine (idx82 l c w).mono ?_
  rintro e w1 ⟨rfl, rfl⟩
  go_wp2_with fail
  go_ret
  exact ⟨rfl, rfl⟩

theorem flag64 (b : Bool) (w : World) : Calls Try.prog 64 #[.bool b] w fun e w' => e = .returned (.int .u8 (((if b then 1 else 0 : UInt8)).toNat : Int)) ∧ w = w' := by
  cases b
  all_goals go_enter Try.func64, Try.ntmps64
  all_goals go_wp2_with fail
  all_goals go_ret
  all_goals exact ⟨rfl, rfl⟩

theorem ps_suffix (l : List UInt8) (x : UInt8) : (ps (l ++ [x])).extract l.length (l.length + 1) = ps [x] := by
  refine ByteArray.ext (Array.ext' ?_)
  simp [ps, ByteArray.data_extract]
set_option maxHeartbeats 1000000 in
theorem suffix83 (l : List UInt8) (w : World) (hl : l.length ≤ 1000) : Calls Try.prog 83 #[.string (ps l), .string ⟨#[97]⟩] w fun e w' => e = .returned (.bool (l.getLast? == some 97)) ∧ w = w' := by
  rcases List.eq_nil_or_concat l with rfl | ⟨m, x, rfl⟩
  · go_enter Try.func83, Try.ntmps83
    go_wp2_with fail
    go_ret
    exact ⟨rfl, rfl⟩
  · have hz : (ps (m.concat x)).size = m.length + 1 := by rw [ps_size]; simp
    have hsf := ps_suffix m x
    have hm : m.length ≤ 1000 := by simp at hl; omega
    simp only [List.concat_eq_append] at *
    have HSF := Kp.mk hsf; clear hsf hl
    go_enter Try.func83, Try.ntmps83
    go_wp2_with fail
    go_ret
    refine ⟨ret_bool ?_, rfl⟩
    show (((ps (m ++ [x])).extract m.length (m.length + 1)).toList == [97]) = _
    rw [HSF.out, ByteArray.toList_eq]
    simp [ps]
theorem suffix62 (l : List UInt8) (w : World) (hl : l.length ≤ 1000) : Calls Try.prog 62 #[.string (ps l), .string ⟨#[97]⟩] w fun e w' => e = .returned (.bool (l.getLast? == some 97)) ∧ w = w' := by
  go_enter Try.func62, Try.ntmps62
  go_wp2_with fail
  refine (suffix83 l w hl).mono ?_
  rintro e w1 ⟨rfl, rfl⟩
  go_wp2_with fail
  go_ret
  exact ⟨rfl, rfl⟩

/-- In which cell a text part lies. -/
def fieldOf (c : UInt8) : Nat := if c = 110 then 1 else if c = 121 then 2 else if c = 101 then 3 else if c = 107 then 4 else 5
theorem part65 (b : Nat) (c : UInt8) (w : World) (hc : c = 110 ∨ c = 121 ∨ c = 101 ∨ c = 107 ∨ c = 120) : Calls Try.prog 65 #[.pointer (some ⟨b, 0, none⟩), .int .u8 c.toNat] w fun e w' => e = .returned (.pointer (some ⟨b, fieldOf c, none⟩)) ∧ w = w' := by
  rcases hc with rfl | rfl | rfl | rfl | rfl
  all_goals go_enter Try.func65, Try.ntmps65
  all_goals go_wp2_with fail
  all_goals go_ret
  all_goals exact ⟨rfl, rfl⟩
end Go.Proofs.Ytaeainkfllfdfaa
/- C2: A call in memory; the contracts of method.empty, right and May. -/
namespace Go.Proofs.Ytaeainkfllfdfaa
open Go.RowKit
set_option linter.unusedVariables false
set_option linter.unusedSimpArgs false
set_option maxRecDepth 100000

/-- A call in block b: its twelve cells. -/
structure MAt (w : World) (S : Nat → Prop) (b : Nat) (A : Option Addr) (c : Nat) (m : M) : Prop where
  id : w.cell? ⟨b, 0, none⟩ = some (.int .i64 m.id)
  nm : w.cell? ⟨b, 1, none⟩ = some (.string m.nm)
  ty : w.cell? ⟨b, 2, none⟩ = some (.string m.ty)
  ex : w.cell? ⟨b, 3, none⟩ = some (.string m.ex)
  ky : w.cell? ⟨b, 4, none⟩ = some (.string m.ky)
  tx : w.cell? ⟨b, 5, none⟩ = some (.string m.tx)
  co : w.cell? ⟨b, 6, none⟩ = some (.int .i64 m.co)
  cn : w.cell? ⟨b, 7, none⟩ = some (.int .i64 m.cn)
  tg : w.cell? ⟨b, 8, none⟩ = some (.int .u64 m.tg)
  fl : w.cell? ⟨b, 9, none⟩ = some (.bool m.fl)
  bk : w.cell? ⟨b, 10, none⟩ = some (.bool m.bk)
  ar : w.cell? ⟨b, 11, none⟩ = some (.slice A m.ar.len c)
  sl : Sl w S A m.ar
theorem MAt.tch {w w' : World} {S T : Nat → Prop} {b : Nat} {A : Option Addr} {c : Nat} {m : M} (h : MAt w S b A c m) (k : Tch T w w') (hb : ¬ T b) (hd : ∀ b, S b → ¬ T b) : MAt w' S b A c m :=
  ⟨k.cell h.id hb, k.cell h.nm hb, k.cell h.ty hb, k.cell h.ex hb, k.cell h.ky hb, k.cell h.tx hb, k.cell h.co hb, k.cell h.cn hb, k.cell h.tg hb, k.cell h.fl hb, k.cell h.bk hb, k.cell h.ar hb, h.sl.tch k hd⟩
theorem MAt.still {w w' : World} {S : Nat → Prop} {b : Nat} {A : Option Addr} {c : Nat} {m : M} (h : MAt w S b A c m) (k : Still w w') : MAt w' S b A c m := h.tch k (fun f => f) (fun _ _ f => f)
theorem MAt.txt {w : World} {S : Nat → Prop} {b : Nat} {A : Option Addr} {c : Nat} {m : M} (h : MAt w S b A c m) (l : UInt8) (hc : l = 110 ∨ l = 121 ∨ l = 101 ∨ l = 107 ∨ l = 120) : w.cell? ⟨b, fieldOf l, none⟩ = some (.string (m.txt l)) := by
  rcases hc with rfl | rfl | rfl | rfl | rfl
  · exact h.nm
  · exact h.ty
  · exact h.ex
  · exact h.ky
  · exact h.tx
/-- A call's value, as a call hands it on. -/
abbrev M.val (m : M) (A : Option Addr) (c : Nat) : Value :=
  .agg #[.int .i64 m.id, .string m.nm, .string m.ty, .string m.ex, .string m.ky, .string m.tx, .int .i64 m.co, .int .i64 m.cn, .int .u64 m.tg, .bool m.fl, .bool m.bk, .slice A m.ar.len c]
theorem MAt.new {w : World} {S : Nat → Prop} {A : Option Addr} {c : Nat} (m : M) (h : Sl w S A m.ar) :
    MAt (w.alloc (.cells #[.int .i64 m.id, .string m.nm, .string m.ty, .string m.ex, .string m.ky, .string m.tx, .int .i64 m.co, .int .i64 m.cn, .int .u64 m.tg, .bool m.fl, .bool m.bk, .slice A m.ar.len c] 42)) S w.heap.size A c m := by
  refine ⟨?_, ?_, ?_, ?_, ?_, ?_, ?_, ?_, ?_, ?_, ?_, ?_, h.still ((Still.refl _).alloc _)⟩ <;> exact cell_new' rfl rfl

theorem letters_five {c : UInt8} (h : c ∈ lettersL) : c = 99 ∨ c = 117 ∨ c = 116 ∨ c = 102 ∨ c = 98 ∨ c = 97 ∨ (c = 110 ∨ c = 121 ∨ c = 101 ∨ c = 107 ∨ c = 120) := by
  simp only [lettersL, List.mem_cons, List.not_mem_nil, or_false] at h
  rcases h with h | h | h | h | h | h | h | h | h | h | h <;> simp [h]
theorem txt_letter {c : UInt8} (h : c = 110 ∨ c = 121 ∨ c = 101 ∨ c = 107 ∨ c = 120) : c ≠ 99 ∧ c ≠ 117 ∧ c ≠ 116 ∧ c ≠ 102 ∧ c ≠ 98 ∧ c ≠ 97 := by
  rcases h with rfl | rfl | rfl | rfl | rfl <;> decide

set_option maxHeartbeats 2000000 in
theorem empty60 (m : M) (b : Nat) (S : Nat → Prop) (A : Option Addr) (n : Nat) (c : UInt8) (w : World) (hc : c ∈ lettersL) (h : MAt w S b A n m) :
    Calls Try.prog 60 #[.pointer (some ⟨b, 0, none⟩), .int .u8 c.toNat] w fun e w' => e = .returned (.bool (m.emptyB c)) ∧ w = w' := by
  rcases letters_five hc with rfl | rfl | rfl | rfl | rfl | rfl | rfl | rfl | rfl | rfl | rfl
  · have h0 := h.co
    go_enter Try.func60, Try.ntmps60
    go_wp2_with fail
    go_ret
    exact ⟨ret_bool (by rw [Bool.eq_iff_iff]; simp [M.emptyB]), rfl⟩
  · have h0 := h.cn
    go_enter Try.func60, Try.ntmps60
    go_wp2_with fail
    go_ret
    exact ⟨ret_bool (by rw [Bool.eq_iff_iff]; simp [M.emptyB]), rfl⟩
  · have h0 := h.tg
    go_enter Try.func60, Try.ntmps60
    go_wp2_with fail
    go_ret
    exact ⟨ret_bool (by rw [Bool.eq_iff_iff]; simp [M.emptyB]), rfl⟩
  · have h0 := h.fl
    go_enter Try.func60, Try.ntmps60
    go_wp2_with fail
    go_ret
    exact ⟨ret_bool (by rw [Bool.eq_iff_iff]; simp [M.emptyB]), rfl⟩
  · have h0 := h.bk
    go_enter Try.func60, Try.ntmps60
    go_wp2_with fail
    go_ret
    exact ⟨ret_bool (by rw [Bool.eq_iff_iff]; simp [M.emptyB]), rfl⟩
  · have h0 := h.ar
    go_enter Try.func60, Try.ntmps60
    go_wp2_with fail
    go_ret
    exact ⟨ret_bool (by rw [Bool.eq_iff_iff]; simp [M.emptyB]), rfl⟩
  · have h0 := h.nm
    have HZ := Kp.mk (size_zero m.nm)
    go_enter Try.func60, Try.ntmps60
    go_wp2_with fail
    refine (part65 b 110 w (by decide)).mono ?_
    rintro e w1 ⟨rfl, rfl⟩
    rw [show fieldOf 110 = 1 from rfl]
    go_wp2_with fail
    go_ret
    exact ⟨ret_bool (by rw [Bool.eq_iff_iff]; simp [M.emptyB, M.txt, HZ.out]), rfl⟩
  · have h0 := h.ty
    have HZ := Kp.mk (size_zero m.ty)
    go_enter Try.func60, Try.ntmps60
    go_wp2_with fail
    refine (part65 b 121 w (by decide)).mono ?_
    rintro e w1 ⟨rfl, rfl⟩
    rw [show fieldOf 121 = 2 from rfl]
    go_wp2_with fail
    go_ret
    exact ⟨ret_bool (by rw [Bool.eq_iff_iff]; simp [M.emptyB, M.txt, HZ.out]), rfl⟩
  · have h0 := h.ex
    have HZ := Kp.mk (size_zero m.ex)
    go_enter Try.func60, Try.ntmps60
    go_wp2_with fail
    refine (part65 b 101 w (by decide)).mono ?_
    rintro e w1 ⟨rfl, rfl⟩
    rw [show fieldOf 101 = 3 from rfl]
    go_wp2_with fail
    go_ret
    exact ⟨ret_bool (by rw [Bool.eq_iff_iff]; simp [M.emptyB, M.txt, HZ.out]), rfl⟩
  · have h0 := h.ky
    have HZ := Kp.mk (size_zero m.ky)
    go_enter Try.func60, Try.ntmps60
    go_wp2_with fail
    refine (part65 b 107 w (by decide)).mono ?_
    rintro e w1 ⟨rfl, rfl⟩
    rw [show fieldOf 107 = 4 from rfl]
    go_wp2_with fail
    go_ret
    exact ⟨ret_bool (by rw [Bool.eq_iff_iff]; simp [M.emptyB, M.txt, HZ.out]), rfl⟩
  · have h0 := h.tx
    have HZ := Kp.mk (size_zero m.tx)
    go_enter Try.func60, Try.ntmps60
    go_wp2_with fail
    refine (part65 b 120 w (by decide)).mono ?_
    rintro e w1 ⟨rfl, rfl⟩
    rw [show fieldOf 120 = 5 from rfl]
    go_wp2_with fail
    go_ret
    exact ⟨ret_bool (by rw [Bool.eq_iff_iff]; simp [M.emptyB, M.txt, HZ.out]), rfl⟩

set_option maxHeartbeats 2000000 in
theorem right61 (m : M) (hO : m.Ok) (b : Nat) (S : Nat → Prop) (A : Option Addr) (n : Nat) (c : UInt8) (w : World) (hc : c ∈ lettersL) (h : MAt w S b A n m) :
    Calls Try.prog 61 #[.pointer (some ⟨b, 0, none⟩), .int .u8 c.toNat] w fun e w' => e = .returned (.bool (m.rightB c)) ∧ Still w w' := by
  rcases letters_five hc with rfl | rfl | rfl | rfl | rfl | rfl | rfl | rfl | rfl | rfl | rfl
  · have h0 := h.co
    go_enter Try.func61, Try.ntmps61
    go_wp2_with fail
    all_goals go_ret
    all_goals go_light
    all_goals refine ⟨ret_bool ?_, Still.refl _⟩
    all_goals (rw [Bool.eq_iff_iff]; simp [M.rightB, *])
    all_goals omega
  · have h0 := h.cn
    go_enter Try.func61, Try.ntmps61
    go_wp2_with fail
    all_goals go_ret
    all_goals go_light
    all_goals refine ⟨ret_bool ?_, Still.refl _⟩
    all_goals (rw [Bool.eq_iff_iff]; simp [M.rightB, *])
    all_goals omega
  · go_enter Try.func61, Try.ntmps61
    go_wp2_with fail
    go_ret
    exact ⟨rfl, Still.refl _⟩
  · go_enter Try.func61, Try.ntmps61
    go_wp2_with fail
    go_ret
    exact ⟨rfl, Still.refl _⟩
  · go_enter Try.func61, Try.ntmps61
    go_wp2_with fail
    go_ret
    exact ⟨rfl, Still.refl _⟩
  · have h0 := h.ar
    have HS := Kp.mk h.sl
    have HO := Kp.mk hO
    clear h hO
    go_enter Try.func61, Try.ntmps61
    go_wp2_with fail
    refine (mayTable_ok m.ar A n S w HO.out.arl HO.out.ar HS.out).mono ?_
    rintro e w1 ⟨rfl, ht⟩
    have HT := Kp.mk ht; clear ht
    go_wp2_with fail
    go_ret
    exact ⟨ret_bool (by simp [M.rightB]), HT.out⟩
  · have h0 := h.nm
    have hb := hO.nm
    clear h hO
    go_enter Try.func61, Try.ntmps61
    go_wp2_with fail
    refine (part65 b 110 w (by decide)).mono ?_
    rintro e w1 ⟨rfl, rfl⟩
    rw [show fieldOf 110 = 1 from rfl]
    go_wp2_with fail
    go_ret
    exact ⟨ret_bool (by rw [Bool.eq_iff_iff]; simp [M.rightB, M.txt]; omega), Still.refl _⟩
  · have h0 := h.ty
    have hb := hO.ty
    clear h hO
    go_enter Try.func61, Try.ntmps61
    go_wp2_with fail
    refine (part65 b 121 w (by decide)).mono ?_
    rintro e w1 ⟨rfl, rfl⟩
    rw [show fieldOf 121 = 2 from rfl]
    go_wp2_with fail
    go_ret
    exact ⟨ret_bool (by rw [Bool.eq_iff_iff]; simp [M.rightB, M.txt]; omega), Still.refl _⟩
  · have h0 := h.ex
    have hb := hO.ex
    clear h hO
    go_enter Try.func61, Try.ntmps61
    go_wp2_with fail
    refine (part65 b 101 w (by decide)).mono ?_
    rintro e w1 ⟨rfl, rfl⟩
    rw [show fieldOf 101 = 3 from rfl]
    go_wp2_with fail
    go_ret
    exact ⟨ret_bool (by rw [Bool.eq_iff_iff]; simp [M.rightB, M.txt]; omega), Still.refl _⟩
  · have h0 := h.ky
    have hb := hO.ky
    clear h hO
    go_enter Try.func61, Try.ntmps61
    go_wp2_with fail
    refine (part65 b 107 w (by decide)).mono ?_
    rintro e w1 ⟨rfl, rfl⟩
    rw [show fieldOf 107 = 4 from rfl]
    go_wp2_with fail
    go_ret
    exact ⟨ret_bool (by rw [Bool.eq_iff_iff]; simp [M.rightB, M.txt]; omega), Still.refl _⟩
  · have h0 := h.tx
    have hb := hO.tx
    clear h hO
    go_enter Try.func61, Try.ntmps61
    go_wp2_with fail
    refine (part65 b 120 w (by decide)).mono ?_
    rintro e w1 ⟨rfl, rfl⟩
    rw [show fieldOf 120 = 5 from rfl]
    go_wp2_with fail
    go_ret
    exact ⟨ret_bool (by rw [Bool.eq_iff_iff]; simp [M.rightB, M.txt]; omega), Still.refl _⟩

theorem letter_at (k : Nat) (hk : k < 11) (w : World) : (Instr.index 9 (.string ⟨#[110, 121, 101, 107, 120, 99, 117, 116, 102, 98, 97]⟩) (.int .i64 (k : Int))).run Try.prog w = .ok (.int .u8 (lettersL.getD k 0).toNat) w := by
  match k, hk with
  | 0, _ => rfl
  | 1, _ => rfl
  | 2, _ => rfl
  | 3, _ => rfl
  | 4, _ => rfl
  | 5, _ => rfl
  | 6, _ => rfl
  | 7, _ => rfl
  | 8, _ => rfl
  | 9, _ => rfl
  | 10, _ => rfl
theorem letter_in (k : Nat) (hk : k < 11) : lettersL.getD k 0 ∈ lettersL := by
  match k, hk with
  | 0, _ | 1, _ | 2, _ | 3, _ | 4, _ | 5, _ | 6, _ | 7, _ | 8, _ | 9, _ | 10, _ => decide
theorem letters_all (P : UInt8 → Bool) : (∀ j, j < 11 → P (lettersL.getD j 0) = true) ↔ ∀ c ∈ lettersL, P c = true := by
  constructor
  · intro h c hc
    obtain ⟨j, hj, rfl⟩ := List.getElem_of_mem hc
    have := h j hj
    simpa [List.getD, hj] using this
  · intro h j hj
    exact h _ (letter_in j hj)
theorem ps_list (l : List UInt8) : (ps l).toList = l := by rw [ByteArray.toList_eq]; rfl

set_option maxHeartbeats 4000000 in
theorem may32 (m : M) (hO : m.Ok) (S : Nat → Prop) (A : Option Addr) (n : Nat) (w : World) (hS : Sl w S A m.ar) :
    Calls Try.prog 32 #[m.val A n] w fun e w' => e = .returned (.bool m.mayB) ∧ Still w w' := by
  have HM := Kp.mk (MAt.new (c := n) m hS)
  have HO := Kp.mk hO; clear hO hS
  by_cases hp : partsL m.id = [45]
  · have hb : ((ps (partsL m.id)).toList == [45]) = true := by rw [ps_list, hp]; rfl
    have HE := Kp.mk (show m.mayB = false by simp [M.mayB, hp])
    clear hp
    go_enter Try.func32, Try.ntmps32
    go_wp2_with fail
    refine (parts33 m.id _).mono ?_
    rintro e w1 ⟨rfl, rfl⟩
    go_wp2_with fail
    go_ret
    exact ⟨ret_bool HE.out.symm, (Still.refl _).alloc _⟩
  · have hb : ((ps (partsL m.id)).toList == [45]) = false := by rw [ps_list]; simpa using hp
    have HF := Kp.mk (show ∀ j, j < 11 → m.okAt (partsL m.id) (lettersL.getD j 0) = false → m.mayB = false from fun j hj h => by
      cases hm : m.mayB with
      | false => rfl
      | true => have := (M.mayB_iff m).1 hm; rw [this.2 _ (letter_in j hj)] at h; cases h)
    have HIF := Kp.mk (show m.mayB = true ↔ ∀ j, j < 11 → m.okAt (partsL m.id) (lettersL.getD j 0) = true by rw [M.mayB_iff, letters_all]; simp [hp])
    clear hp
    go_enter Try.func32, Try.ntmps32
    go_wp2_with fail
    refine (parts33 m.id _).mono ?_
    rintro e w1 ⟨rfl, rfl⟩
    go_wp2_with fail
    go_loopw [11] (fun i wr => ∃ k : Nat, k ≤ 11 ∧ i = .int .i64 k ∧ Kp (∀ j, j < k → m.okAt (partsL m.id) (lettersL.getD j 0) = true) ∧ Kp (MAt wr S w.heap.size A n m) ∧ Kp (Still w wr)) (fun i _ => 11 - (intOf i).toNat)
    case atStart => exact ⟨0, by omega, rfl, ⟨fun j hj => by omega⟩, HM, ⟨(Still.refl _).alloc _⟩⟩
    case round =>
      obtain ⟨k, hk, rfl, HA, HW, HT⟩ := hrel
      by_cases hlt : k < 11
      · have hidx := letter_at k hlt
        have HIN := Kp.mk (letter_in k hlt)
        have HOK := Kp.mk (show m.okAt (partsL m.id) (lettersL.getD k 0) = (((partsL m.id).contains (lettersL.getD k 0) || m.emptyB (lettersL.getD k 0)) && m.rightB (lettersL.getD k 0)) from rfl)
        obtain ⟨c, hcc⟩ : ∃ c, lettersL.getD k 0 = c := ⟨_, rfl⟩
        rw [hcc] at hidx HIN HOK
        have HC := Kp.mk (show m.okAt (partsL m.id) (lettersL.getD k 0) = m.okAt (partsL m.id) c by rw [hcc])
        clear hcc
        go_wp2_with fail
        refine (idx59 (partsL m.id) c wr).mono ?_
        rintro e w1 ⟨rfl, rfl⟩
        have hneg := index_neg (partsL m.id) c
        cases hcn : (partsL m.id).contains c with
        | true =>
          rw [hcn] at hneg HOK
          clear hcn
          simp only [Bool.not_true] at hneg
          have CR := Kp.mk (right61 m HO.out w.heap.size S A n c wr HIN.out HW.out)
          cases hr : m.rightB c with
          | true =>
            rw [hr] at HOK CR
            clear hr
            go_wp2_with fail
            refine CR.out.mono ?_
            rintro e w2 ⟨rfl, ht2⟩
            have HT2 := Kp.mk (HT.out.strans ht2)
            have HW2 := Kp.mk (HW.out.still ht2); clear ht2
            go_wp2_with fail
            go_roundw
            case rel => exact ⟨k + 1, by omega, by go_num, ⟨below_succ HA.out (by rw [HC.out, HOK.out]; rfl)⟩, HW2, HT2⟩
            case measure => go_light; simp only [intOf]; omega
          | false =>
            rw [hr] at HOK CR
            clear hr
            go_wp2_with fail
            refine CR.out.mono ?_
            rintro e w2 ⟨rfl, ht2⟩
            have HT2 := Kp.mk (HT.out.strans ht2); clear ht2
            go_wp2_with fail
            go_ret
            exact ⟨ret_bool (HF.out k hlt (by rw [HC.out, HOK.out]; simp)).symm, HT2.out⟩
        | false =>
          rw [hcn] at hneg HOK
          clear hcn
          simp only [Bool.not_false] at hneg
          have CE := Kp.mk (empty60 m w.heap.size S A n c wr HIN.out HW.out)
          cases he : m.emptyB c with
          | true =>
            rw [he] at HOK CE
            clear he
            go_wp2_with fail
            refine CE.out.mono ?_
            rintro e w2 ⟨rfl, rfl⟩
            go_wp2_with fail
            have CR := Kp.mk (right61 m HO.out w.heap.size S A n c wr HIN.out HW.out)
            cases hr : m.rightB c with
            | true =>
              rw [hr] at HOK CR
              clear hr
              refine CR.out.mono ?_
              rintro e w2 ⟨rfl, ht2⟩
              have HT2 := Kp.mk (HT.out.strans ht2)
              have HW2 := Kp.mk (HW.out.still ht2); clear ht2
              go_wp2_with fail
              go_roundw
              case rel => exact ⟨k + 1, by omega, by go_num, ⟨below_succ HA.out (by rw [HC.out, HOK.out]; rfl)⟩, HW2, HT2⟩
              case measure => go_light; simp only [intOf]; omega
            | false =>
              rw [hr] at HOK CR
              clear hr
              refine CR.out.mono ?_
              rintro e w2 ⟨rfl, ht2⟩
              have HT2 := Kp.mk (HT.out.strans ht2); clear ht2
              go_wp2_with fail
              go_ret
              exact ⟨ret_bool (HF.out k hlt (by rw [HC.out, HOK.out]; simp)).symm, HT2.out⟩
          | false =>
            rw [he] at HOK CE
            clear he
            go_wp2_with fail
            refine CE.out.mono ?_
            rintro e w2 ⟨rfl, rfl⟩
            go_wp2_with fail
            go_ret
            exact ⟨ret_bool (HF.out k hlt (by rw [HC.out, HOK.out]; simp)).symm, HT.out⟩
      · obtain rfl : k = 11 := by omega
        go_wp2_with fail
        go_ret
        exact ⟨ret_bool (HIF.out.2 HA.out).symm, HT.out⟩
end Go.Proofs.Ytaeainkfllfdfaa
