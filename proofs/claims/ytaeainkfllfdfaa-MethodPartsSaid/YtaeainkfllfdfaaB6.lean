/- The contracts of value.table and value.Put: the bytes of a table. -/
import Derived.Test.YtaeainkfllfdfaaB5
namespace Go.Proofs.Ytaeainkfllfdfaa
open Go.RowKit
set_option linter.unusedVariables false
set_option linter.unusedSimpArgs false
set_option maxRecDepth 100000
set_option maxHeartbeats 4000000 in
theorem tabC : ∀ l, TabC l := L.ind fun l ih => by
  intro A c S w hl hO hKd hlen hS
  have hlen' : 4 + l.encI.length ≤ 1099511627776 := by simpa [L.enc, be_length] using hlen
  have HI := Kp.mk ih; clear ih
  have HO := Kp.mk hO; clear hO
  have HKD := Kp.mk hKd; clear hKd
  have HS := Kp.mk hS.old; clear hS
  go_enter Try.func41, Try.ntmps41
  go_wp2_with fail
  go_loopw [3, 8] (fun v i wr => ∃ (k : Nat) (A' : Option Addr) (c' : Nat), k ≤ l.len ∧ i = .int .i64 k ∧ v = .slice A' (l.take k).encI.length c' ∧ Kp (OwnB wr w.heap.size A' c' (l.take k).encI) ∧ Kp (Still w wr)) (fun _ i _ => l.len - (intOf i).toNat)
  case atStart => exact ⟨0, none, 0, by omega, rfl, rfl, ⟨OwnB.nil _ _⟩, ⟨Still.refl w⟩⟩
  case round =>
    obtain ⟨k, A', c', hk, rfl, rfl, HW, HT⟩ := hrel
    by_cases hlt : k < l.len
    · obtain ⟨b, o, rfl, hSb, hat⟩ := (HS.out.still HT.out).at (by omega)
      obtain ⟨B, cB, q0, q1, q2, q3, q4, hs⟩ := hat k hlt
      clear hat
      have Hs := Kp.mk hs; clear hs
      have hle := L.encI_le l (k + 1)
      rw [L.encI_succ l k hlt, List.length_append, It.enc_length] at hle
      generalize hbs : (l.take k).encI = bs at *
      have HBS := Kp.mk hbs; clear hbs
      have hsz := HT.out.size
      go_wp2_with fail
      have f0 : (wr.alloc (Obj.cells #[Value.string (l.get k).nm, Value.int IntKind.i64 (l.get k).k, Value.int IntKind.i64 (l.get k).n, Value.string (l.get k).s, Value.slice B (l.get k).it.len cB] 37)).cell? ⟨wr.heap.size, 0, none⟩ = some (Value.string (l.get k).nm) := by go_simp
      have g0 := fun o => ((Still.refl _).alloc o).scell f0
      have HU8 := Kp.mk (u8_small (l.get k).nm.size)
      have hbk : ∀ b, blk A' b → b < wr.heap.size := fun b hb => (HW.out.base hb).2
      have HBK := Kp.mk hbk; clear hbk
      go_region_held3 (fun W => W.cell? ⟨wr.heap.size, 0, none⟩ = some (.string (l.get k).nm)) (first | exact f0 | exact g0 _ | exact hq2 | exact hq3)
        (first
         | (refine step_appB _ (by rfl) _ _ rfl w.heap.size A' c' _ 1 bs (by rfl) rfl (HW.out.still ((((Still.refl wr).alloc _).alloc _).drew)) (some ⟨wr.heap.size + 1, 0, none⟩) 1 [UInt8.ofNat (l.get k).nm.size] (by rfl) rfl (fun _ => True) ?_ ?_ ?_ ?_; (refine Bs.one _ _ _ trivial ?_); (rw [← HU8.out]); (exact new_at_drew (World.size_alloc _ _)); (simp only [List.length_cons, List.length_nil]; omega); (exact Nat.le_trans hsz ((((Still.refl wr).alloc _).alloc _).drew).size); intro A2 c2 w2 ho2 ht2 hat2; have HO2 := Kp.mk ho2; have hq2 := ht2.cell (g0 _) (fun h => by have := HBK.out _ h; simp at this); have HT2 := Kp.mk ((((Still.refl wr).alloc _).alloc _).drew.of_still.trans ht2 (T := blk A') (S := (w.heap.size ≤ ·)) (fun b _ h => (HW.out.base h).1)); have HC2 := Kp.mk (fun j v (hj : _) => ht2.cell (a := ⟨wr.heap.size, j, none⟩) (v := v) hj (fun h => by have := HBK.out _ h; simp at this)); have hbk2 : ∀ b, blk A2 b → b ≠ wr.heap.size := (fun b hb e => by rcases hat2 b hb with h | h; (have := HBK.out b h; omega); (simp only [World.size_drew, World.size_alloc] at h; omega)); have HBK2 := Kp.mk hbk2; have hz2 : w.heap.size ≤ w2.heap.size := Nat.le_trans hsz HT2.out.size; clear ho2 ht2 hat2 hbk2)
         | (refine step_appS _ (by rfl) _ _ rfl w.heap.size A2 c2 _ (bs ++ [UInt8.ofNat (l.get k).nm.size]) (by rfl) ?_ HO2.out (l.get k).nm (by rfl) ?_ hz2 ?_; (simp); (simp only [List.length_append, List.length_cons, List.length_nil]; omega); intro A3 c3 w3 ho3 ht3 hat3; have HO3 := Kp.mk ho3; have hq3 := ht3.cell (a := ⟨wr.heap.size, 0, none⟩) (v := .string (l.get k).nm) hq2 (fun h => HBK2.out _ h rfl); have HC3 := Kp.mk (fun j v (hj : _) => ht3.cell (a := ⟨wr.heap.size, j, none⟩) (v := v) hj (fun h => HBK2.out _ h rfl)); have HT3 := Kp.mk (HT2.out.trans ht3 (T := blk A2) (S := (w.heap.size ≤ ·)) (fun b _ h => (HO2.out.base h).1)); clear ho3 ht3 hat3))
      have k1 := HC3.out 1 _ (HC2.out 1 (.int .i64 (l.get k).k) (by go_simp))
      have k2 := HC3.out 2 _ (HC2.out 2 (.int .i64 (l.get k).n) (by go_simp))
      have k3 := HC3.out 3 _ (HC2.out 3 (.string (l.get k).s) (by go_simp))
      have k4 := HC3.out 4 _ (HC2.out 4 (.slice B (l.get k).it.len cB) (by go_simp))
      have hz3 : w.heap.size ≤ w3.heap.size := Nat.le_trans hsz HT3.out.size
      clear g0 f0 hq2 hq3 HC2 HC3
      go_wp2_with fail
      refine (putC (l.get k) (HI.out k hlt) (HO.out.get k hlt) (HKD.out.get k hlt) A3 c3 _ (bs ++ [UInt8.ofNat (l.get k).nm.size] ++ (l.get k).nm.data.toList) w.heap.size B cB _ w3 (by simp; omega) HO3.out hz3 (Hs.out.tch HT3.out (fun b hb h => by omega)) (fun b hb => hb.2) ?_).mono ?_
      · simp only [List.length_append, List.length_cons, List.length_nil, Array.length_toList]
        have : (l.get k).nm.data.size = (l.get k).nm.size := rfl
        omega
      rintro e w4 ⟨A4, c4, rfl, ho4, ht4⟩
      have HO4 := Kp.mk ho4
      have HT4 := Kp.mk ((HT.out.of_still.trans HT3.out (S := (w.heap.size ≤ ·)) (T := (w.heap.size ≤ ·)) (fun b _ h => h)).trans ht4 (fun b _ h => h))
      clear ho4 ht4
      go_wp2_with fail
      go_roundw
      case rel =>
        refine ⟨k + 1, A4, c4, by omega, by go_num, ?_, ⟨?_⟩, ⟨HT4.out.mono (fun b hb h => by omega)⟩⟩
        · rw [L.encI_succ l k hlt, HBS.out, It.enc]; simp
        · rw [L.encI_succ l k hlt, HBS.out, It.enc, ← List.append_assoc]; simpa using HO4.out
      case measure => go_light; simp only [intOf]; omega
    · have hkl : k = l.len := by omega
      subst hkl
      have hT := L.take_all l l.len (Nat.le_refl _)
      rw [hT] at HW ⊢
      have hsz := HT.out.size
      have hwr := u64_small l.encI.length (by omega)
      clear hT
      go_wp2_with fail
      refine (num75 none 0 [] _ 4 _ wr.heap.size _ wr (by simp) rfl (by omega) (by omega) (by omega) (OwnB.nil _ _) (Nat.le_refl _) (by simp)).mono ?_
      rintro e w2 ⟨A2, c2, rfl, ho2, ht2, _⟩
      have HO2 := Kp.mk ho2
      have HT2 := Kp.mk (HT.out.trans ht2 (T := blk none) (fun b _ h => by obtain ⟨_, h, _⟩ := h; cases h))
      have HW2 := Kp.mk (HW.out.bs.tch ht2 (fun b _ h => by obtain ⟨_, h, _⟩ := h; cases h))
      have hz2 := ht2.size
      clear ho2 ht2
      go_wp2_with (at_builtin; (refine wpList_appB _ rfl _ _ rfl wr.heap.size A2 c2 _ _ ([] ++ be l.encI.length 4) rfl ?_ HO2.out A' c' l.encI rfl rfl _ HW2.out ?_ hz2 ?_); (simp); (simp [be_length]; omega); intro A3 c3 w3 ho3 ht3 hat3; have HO3 := Kp.mk ho3; have HT3 := Kp.mk (HT2.out.trans ht3 (T := blk A2) (fun b hb h => by have := (HO2.out.base h).1; omega)); clear ho3 ht3 hat3)
      go_ret
      exact ⟨A3, c3, by simp [L.enc, be_length], (by simpa [L.enc] using HO3.out.mono (fun b hb => by have := (HO3.out.base hb).1; omega)), HT3.out⟩

/-- What a call that answers bytes and a code has left. -/
def RetPut (w : World) (bs : List UInt8) (code : Int) (e : Ending) (w' : World) : Prop :=
  ∃ A c, e = .returned (.tuple #[.slice A bs.length c, .int .i64 code]) ∧ OwnB w' w.heap.size A c bs ∧ Still w w'

set_option maxHeartbeats 1000000 in
theorem put_ok (l : L) (A : Option Addr) (c : Nat) (S : Nat → Prop) (w : World) (hl : l.len ≤ 140737488351232) (hO : l.Ok) (hS : Sl w S A l) :
    Calls Try.prog 18 #[.slice A l.len c] w (RetPut w l.putB l.putE) := by
  have CM := Kp.mk (mayTable_ok l A c S w hl hO hS)
  have HO := Kp.mk hO; clear hO
  have HS := Kp.mk hS; clear hS
  cases hm : l.mayTab 1 with
  | false =>
    have e1 : l.putE = 1 := by simp [L.putE, hm]
    have e2 : l.putB = [] := by simp [L.putB, hm]
    rw [e1, e2]
    have HM := Kp.mk hm; clear hm e1 e2
    go_enter Try.func18, Try.ntmps18
    go_wp2_with (refine CM.out.mono ?_; rintro e w1 ⟨rfl, hw1⟩; rw [HM.out])
    go_ret2
    exact ⟨none, 0, rfl, OwnB.nil _ _, hw1⟩
  | true =>
    have hb := L.enc_bnd hm
    have HT := Kp.mk (fun W h => tabC l A c S W hl HO.out (L.mayTab_kinds hm) (by omega) h)
    by_cases hlong : 3000 < l.enc.length
    · have e1 : l.putE = 502 := by simp [L.putE, hm, hlong]
      have e2 : l.putB = [] := by simp [L.putB, hm, hlong]
      rw [e1, e2]
      have HM := Kp.mk hm; clear hm e1 e2
      go_enter Try.func18, Try.ntmps18
      go_wp2_with fail
      refine CM.out.mono ?_
      rintro e w1 ⟨rfl, hw1⟩
      rw [HM.out]
      go_wp2_with fail
      refine (HT.out w1 (HS.out.still hw1)).mono ?_
      rintro e w2 ⟨A2, c2, rfl, ho2, ht2⟩
      have HT2 := Kp.mk (Tch.still hw1 ht2); clear ho2 ht2 hw1
      go_wp2_with fail
      go_ret2
      exact ⟨none, 0, rfl, OwnB.nil _ _, HT2.out⟩
    · have e1 : l.putE = 0 := by simp [L.putE, hm, hlong]
      have e2 : l.putB = l.enc := by simp [L.putB, hm, hlong]
      rw [e1, e2]
      have HM := Kp.mk hm; clear hm e1 e2
      go_enter Try.func18, Try.ntmps18
      go_wp2_with fail
      refine CM.out.mono ?_
      rintro e w1 ⟨rfl, hw1⟩
      rw [HM.out]
      go_wp2_with fail
      refine (HT.out w1 (HS.out.still hw1)).mono ?_
      rintro e w2 ⟨A2, c2, rfl, ho2, ht2⟩
      have HO2 := Kp.mk ho2
      have HT2 := Kp.mk (Tch.still hw1 ht2)
      have hz := hw1.size
      clear ho2 ht2 hw1
      go_wp2_with fail
      go_ret2
      exact ⟨A2, c2, rfl, HO2.out.mono (fun b hb => by have := (HO2.out.base hb).1; omega), HT2.out⟩
end Go.Proofs.Ytaeainkfllfdfaa
