/- How many items: carrefourlaw3.size and Few: they answer, and nothing turns. -/
import Derived.Test.YtaeainkfllfdfaaB14
namespace Go.Proofs.Ytaeainkfllfdfaa
open Go.RowKit
set_option linter.unusedVariables false
set_option linter.unusedSimpArgs false
set_option maxRecDepth 100000

/-- The contract of size at one table. -/
def SizeC (l : L) : Prop := ∀ (D : Int) (A : Option Addr) (c : Nat) (S : Nat → Prop) (w : World), 0 ≤ D → D ≤ 9 → l.len ≤ 140737488351232 → l.Ok → Sl w S A l →
  Calls Try.prog 40 #[.slice A l.len c, .int .i64 D] w fun e w' => (∃ m : Int, e = .returned (.int .i64 m) ∧ 0 ≤ m ∧ m ≤ 201) ∧ Still w w'
theorem SizeC.use {l : L} (h : SizeC l) (D : Int) (A : Option Addr) (c : Nat) (S : Nat → Prop) (w : World) (h1 : 0 ≤ D) (h2 : D ≤ 9) (h3 : l.len ≤ 140737488351232) (h4 : l.Ok) (h5 : Sl w S A l) :
  Calls Try.prog 40 #[.slice A l.len c, .int .i64 D] w fun e w' => (∃ m : Int, e = .returned (.int .i64 m) ∧ 0 ≤ m ∧ m ≤ 201) ∧ Still w w' := h D A c S w h1 h2 h3 h4 h5

set_option maxHeartbeats 8000000 in
theorem sizeC : ∀ l, SizeC l := L.ind fun l ih => by
  intro D A c S w h0 h9 hl hO hS
  have HI := Kp.mk ih; clear ih
  have HO := Kp.mk hO; clear hO
  have HS := Kp.mk hS; clear hS
  by_cases hdp : 8 < D
  · go_enter Try.func40, Try.ntmps40
    go_wp2_with fail
    go_ret
    exact ⟨⟨201, rfl, by omega, by omega⟩, Still.refl _⟩
  · go_enter Try.func40, Try.ntmps40
    go_wp2_with fail
    go_loopw [5, 6] (fun v i wr => ∃ (j : Nat) (x : Int), j ≤ l.len ∧ i = .int .i64 j ∧ v = .int .i64 x ∧ 0 ≤ x ∧ x ≤ 401 ∧ Kp (Still w wr)) (fun _ i _ => (l.len - intOf i).toNat)
    case atStart => exact ⟨0, 1, by omega, rfl, rfl, by omega, by omega, ⟨Still.refl _⟩⟩
    case round =>
      obtain ⟨j, x, hj, rfl, rfl, hx0, hx1, HT⟩ := hrel
      by_cases hlt : j < l.len ∧ x ≤ 200
      · obtain ⟨hjl, hx2⟩ := hlt
        obtain ⟨b, o, rfl, hb, hat⟩ := (HS.out.still HT.out).at (by omega : 0 < l.len)
        obtain ⟨A', ca', p0, p1, p2, p3, p4, hsa⟩ := hat j hjl
        have HSA := Kp.mk hsa
        have hbig : (l.get j).nm.size ≤ 140737488351232 := (HO.out.get j hjl).1.1
        have hbig2 : (l.get j).s.size ≤ 140737488351232 := (HO.out.get j hjl).1.2.1
        clear hat hsa
        by_cases hb1 : 300 < (l.get j).nm.size
        · go_wp2_with fail
          go_ret
          exact ⟨⟨201, rfl, by omega, by omega⟩, HT.out⟩
        by_cases hb2 : 1000 < (l.get j).s.size
        · go_wp2_with fail
          go_ret
          exact ⟨⟨201, rfl, by omega, by omega⟩, HT.out⟩
        go_wp2_with fail
        refine ((HI.out j hjl).use _ A' ca' _ wr (by omega) (by omega) (HO.out.get j hjl).1.2.2.1 (HO.out.get j hjl).2 HSA.out).mono ?_
        rintro e w1 ⟨⟨m, rfl, hm0, hm1⟩, ht1⟩
        have HT1 := Kp.mk (HT.out.strans ht1); clear ht1 p0 p1 p2 p3 p4
        go_wp2_with fail
        go_roundw
        case rel => exact ⟨j + 1, x + m, by omega, by go_num, by go_num, by omega, by omega, HT1⟩
        case measure => go_light; simp only [intOf]; omega
      · by_cases hjl : j < l.len
        · have hx2 : 200 < x := by omega
          by_cases hx3 : x ≤ 201
          · go_wp2_with fail
            go_ret
            exact ⟨⟨x, rfl, by omega, by omega⟩, HT.out⟩
          · go_wp2_with fail
            go_ret
            exact ⟨⟨201, rfl, by omega, by omega⟩, HT.out⟩
        · have hje : j = l.len := by omega
          subst hje
          by_cases hx3 : x ≤ 201
          · go_wp2_with fail
            go_ret
            exact ⟨⟨x, rfl, by omega, by omega⟩, HT.out⟩
          · go_wp2_with fail
            go_ret
            exact ⟨⟨201, rfl, by omega, by omega⟩, HT.out⟩

theorem few16 (l : L) (A : Option Addr) (c : Nat) (S : Nat → Prop) (w : World) (hl : l.len ≤ 140737488351232) (hO : l.Ok) (hS : Sl w S A l) :
    Calls Try.prog 16 #[.slice A l.len c] w fun e w' => (∃ b : Bool, e = .returned (.bool b)) ∧ Still w w' := by
  have C := Kp.mk ((sizeC l).use 1 A c S w (by omega) (by omega) hl hO hS)
  clear hO hS
  go_enter Try.func16, Try.ntmps16
  go_wp2_with (refine C.out.mono ?_; rintro e w1 ⟨⟨m, rfl, hm0, hm1⟩, hw1⟩)
  go_ret
  exact ⟨⟨_, rfl⟩, hw1⟩
end Go.Proofs.Ytaeainkfllfdfaa
