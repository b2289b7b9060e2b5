/- Plain laws of calls: a call comes back from its bytes; cut off, or with a byte behind, it does not; one byte turned. No program in sight. -/
import Derived.Test.YtaeainkfllfdfaaA9
namespace Go.Proofs.Ytaeainkfllfdfaa
open Go.RowKit
set_option linter.unusedVariables false
set_option linter.unusedSimpArgs false

/-- One part taken over. -/
def M.setP (m mk : M) (c : UInt8) : M :=
  if c = 99 then { mk with co := m.co } else if c = 117 then { mk with cn := m.cn } else if c = 116 then { mk with tg := m.tg } else if c = 102 then { mk with fl := m.fl } else if c = 98 then { mk with bk := m.bk }
  else if c = 97 then { mk with ar := m.ar } else if c = 110 then { mk with nm := m.nm } else if c = 121 then { mk with ty := m.ty } else if c = 101 then { mk with ex := m.ex } else if c = 107 then { mk with ky := m.ky } else { mk with tx := m.tx }
/-- These parts taken over. -/
def M.mix (m mk : M) (p : UInt8 → Bool) : M :=
  ⟨mk.id, if p 110 then m.nm else mk.nm, if p 121 then m.ty else mk.ty, if p 101 then m.ex else mk.ex, if p 107 then m.ky else mk.ky, if p 120 then m.tx else mk.tx, if p 99 then m.co else mk.co, if p 117 then m.cn else mk.cn,
    if p 116 then m.tg else mk.tg, if p 102 then m.fl else mk.fl, if p 98 then m.bk else mk.bk, if p 97 then m.ar else mk.ar⟩
theorem M.mix_none (m mk : M) : m.mix mk (fun _ => false) = mk := rfl
theorem M.setP_mix (m mk : M) (p : UInt8 → Bool) {c : UInt8} (hc : c ∈ lettersL) : m.setP (m.mix mk p) c = m.mix mk (fun x => p x || (x == c)) := by
  rcases letters_five hc with rfl | rfl | rfl | rfl | rfl | rfl | rfl | rfl | rfl | rfl | rfl <;> simp [M.setP, M.mix]

theorem u64w_nat {n : Int} (h0 : 0 ≤ n) (h1 : n < 18446744073709551616) : u64w n = n.toNat := by
  have := u64w_mod n
  omega
theorem part_back {m mk : M} (hO : m.Ok) {c : UInt8} (hc : c ∈ lettersL) (hr : m.rightB c = true) (ha : c = 97 → m.ar.enc.length ≤ 3000) (rest : List UInt8) (hl : c = 97 → rest = []) :
    Rd.part mk c ⟨m.encP c ++ rest, false⟩ = (m.setP mk c, ⟨rest, false⟩) := by
  rcases letters_five hc with rfl | rfl | rfl | rfl | rfl | rfl | rfl | rfl | rfl | rfl | rfl
  · have h := of_decide_eq_true (show decide (0 ≤ m.co ∧ m.co ≤ 65535) = true from hr)
    have e := num_be (u64w m.co) 2 rest
    rw [u64w_nat h.1 (by omega)] at e
    simp only [Rd.part, M.encP, M.setP, if_true]
    rw [u64w_nat h.1 (by omega), e]
    simp only [Prod.mk.injEq, M.mk.injEq, true_and, and_true]
    omega
  · have h := of_decide_eq_true (show decide (0 ≤ m.cn ∧ m.cn ≤ 4294967295) = true from hr)
    have e := num_be (u64w m.cn) 4 rest
    rw [u64w_nat h.1 (by omega)] at e
    simp only [Rd.part, M.encP, M.setP, if_true, show (117 : UInt8) ≠ 99 from by decide, if_false]
    rw [u64w_nat h.1 (by omega), e]
    simp only [Prod.mk.injEq, M.mk.injEq, true_and, and_true]
    omega
  · have e := num_be m.tg.toNat 8 rest
    have h1 := hO.tg1; have h2 := hO.tg2
    simp only [Rd.part, M.encP, M.setP, if_true, show (116 : UInt8) ≠ 99 from by decide, show (116 : UInt8) ≠ 117 from by decide, if_false]
    rw [e]
    simp only [Prod.mk.injEq, M.mk.injEq, true_and, and_true]
    omega
  · simp only [Rd.part, M.encP, M.setP, if_true, show (102 : UInt8) ≠ 99 from by decide, show (102 : UInt8) ≠ 117 from by decide, show (102 : UInt8) ≠ 116 from by decide, if_false]
    rw [List.singleton_append, num_one]
    cases m.fl <;> rfl
  · simp only [Rd.part, M.encP, M.setP, if_true, show (98 : UInt8) ≠ 99 from by decide, show (98 : UInt8) ≠ 117 from by decide, show (98 : UInt8) ≠ 116 from by decide, show (98 : UInt8) ≠ 102 from by decide, if_false]
    rw [List.singleton_append, num_one]
    cases m.bk <;> rfl
  · have hm : m.ar.mayTab 1 = true := hr
    obtain ⟨h1, h2⟩ := get_put hO.ar hm (ha rfl)
    have hrest := hl rfl
    subst hrest
    have e : Rd.raw ⟨m.ar.enc ++ [], false⟩ (m.ar.enc ++ []).length = (m.ar.enc, ⟨[], false⟩) := raw_app' _ _ _ (by simp)
    have e2 : m.encP 97 = m.ar.enc := rfl
    have e3 : Rd.part mk 97 ⟨m.encP 97 ++ [], false⟩ = ({ mk with ar := getL (Rd.raw ⟨m.ar.enc ++ [], false⟩ (m.ar.enc ++ []).length).1 }, ⟨(Rd.raw ⟨m.ar.enc ++ [], false⟩ (m.ar.enc ++ []).length).2.b, (Rd.raw ⟨m.ar.enc ++ [], false⟩ (m.ar.enc ++ []).length).2.bad || decide (getE (Rd.raw ⟨m.ar.enc ++ [], false⟩ (m.ar.enc ++ []).length).1 ≠ 0)⟩) := rfl
    rw [e3, e, h1, h2]
    rfl
  all_goals
    simp only [Rd.part, M.encP, M.setP, M.txt, if_true, show ∀ a b : UInt8, (a = b) = (a = b) from fun _ _ => rfl, reduceCtorEq]
    have h := hr
    simp [M.rightB, M.txt] at h
    simp only [show (110 : UInt8) ≠ 99 from by decide, show (110 : UInt8) ≠ 117 from by decide, show (110 : UInt8) ≠ 116 from by decide, show (110 : UInt8) ≠ 102 from by decide, show (110 : UInt8) ≠ 98 from by decide, show (110 : UInt8) ≠ 97 from by decide,
      show (121 : UInt8) ≠ 99 from by decide, show (121 : UInt8) ≠ 117 from by decide, show (121 : UInt8) ≠ 116 from by decide, show (121 : UInt8) ≠ 102 from by decide, show (121 : UInt8) ≠ 98 from by decide, show (121 : UInt8) ≠ 97 from by decide, show (121 : UInt8) ≠ 110 from by decide,
      show (101 : UInt8) ≠ 99 from by decide, show (101 : UInt8) ≠ 117 from by decide, show (101 : UInt8) ≠ 116 from by decide, show (101 : UInt8) ≠ 102 from by decide, show (101 : UInt8) ≠ 98 from by decide, show (101 : UInt8) ≠ 97 from by decide, show (101 : UInt8) ≠ 110 from by decide, show (101 : UInt8) ≠ 121 from by decide,
      show (107 : UInt8) ≠ 99 from by decide, show (107 : UInt8) ≠ 117 from by decide, show (107 : UInt8) ≠ 116 from by decide, show (107 : UInt8) ≠ 102 from by decide, show (107 : UInt8) ≠ 98 from by decide, show (107 : UInt8) ≠ 97 from by decide, show (107 : UInt8) ≠ 110 from by decide, show (107 : UInt8) ≠ 121 from by decide, show (107 : UInt8) ≠ 101 from by decide,
      show (120 : UInt8) ≠ 99 from by decide, show (120 : UInt8) ≠ 117 from by decide, show (120 : UInt8) ≠ 116 from by decide, show (120 : UInt8) ≠ 102 from by decide, show (120 : UInt8) ≠ 98 from by decide, show (120 : UInt8) ≠ 97 from by decide, show (120 : UInt8) ≠ 110 from by decide, show (120 : UInt8) ≠ 121 from by decide, show (120 : UInt8) ≠ 101 from by decide, show (120 : UInt8) ≠ 107 from by decide, if_true, if_false]
    rw [List.cons_append, num_one]
    simp only
    rw [raw_app' _ _ _ (by rw [Array.length_toList, UInt8.toNat_ofNat', Nat.mod_eq_of_lt (by omega)]; rfl)]
end Go.Proofs.Ytaeainkfllfdfaa
