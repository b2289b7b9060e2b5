/- The contracts of method.Same and carrefourlaw5.Few. -/
import Derived.Test.YtaeainkfllfdfaaC6
namespace Go.Proofs.Ytaeainkfllfdfaa
open Go.RowKit
set_option linter.unusedVariables false
set_option linter.unusedSimpArgs false
set_option maxRecDepth 100000

theorem M.eq_iff (m k : M) : m = k ↔ m.id = k.id ∧ m.co = k.co ∧ m.cn = k.cn ∧ m.tg = k.tg ∧ m.fl = k.fl ∧ m.bk = k.bk ∧ m.nm = k.nm ∧ m.ty = k.ty ∧ m.ex = k.ex ∧ m.ky = k.ky ∧ m.tx = k.tx ∧ m.ar = k.ar := by
  cases m; cases k
  simp only [M.mk.injEq]
  constructor
  · rintro ⟨h1, h2, h3, h4, h5, h6, h7, h8, h9, h10, h11, h12⟩; exact ⟨h1, h7, h8, h9, h10, h11, h2, h3, h4, h5, h6, h12⟩
  · rintro ⟨h1, h7, h8, h9, h10, h11, h2, h3, h4, h5, h6, h12⟩; exact ⟨h1, h2, h3, h4, h5, h6, h7, h8, h9, h10, h11, h12⟩

set_option maxHeartbeats 4000000 in
theorem same37 (m k : M) (A B : Option Addr) (n p : Nat) (S : Nat → Prop) (w : World) (hm : m.Ok) (hk : k.Ok) (hA : Sl w S A m.ar) (hB : Sl w S B k.ar) :
    Calls Try.prog 37 #[m.val A n, k.val B p] w fun e w' => e = .returned (.bool (decide (m = k))) ∧ Still w w' := by
  have C := Kp.mk (fun W hs => sameC m.ar k.ar A B n p S W hm.arl hk.arl hm.ar hk.ar (hA.still hs) (hB.still hs))
  have E := Kp.mk (M.eq_iff m k)
  clear hA hB hm hk
  go_enter Try.func37, Try.ntmps37
  go_wp2_with (refine (C.out _ (((Still.refl _).alloc _).alloc _)).mono ?_; rintro e w1 ⟨rfl, hw1⟩)
  all_goals go_ret
  all_goals go_light
  all_goals refine ⟨ret_bool ?_, ?_⟩
  all_goals first | exact ((Still.refl _).alloc _).alloc _ | exact (((Still.refl _).alloc _).alloc _).still ‹_› | skip
  all_goals (try simp only [str_eq] at *)
  all_goals (rw [Bool.eq_iff_iff]; simp [E.out, *])
end Go.Proofs.Ytaeainkfllfdfaa
