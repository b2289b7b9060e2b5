/- 'ContentCutsSaid', proved: the walk behind the row. -/
import Derived.Test.YtaeainkfllfdfaaRows
import Derived.Test.YtaeainkfllfdfaaQ16
import Derived.ProofKit
import Derived.OpenShut
namespace Go.Proofs.Ytaeainkfllfdfaa.contentCuts
open Go.ChangeShapes Go.WideShapes Go.ChangeAt Go.RowKit
open Go.ChangeMaps (open_string shut_string)
set_option linter.unusedVariables false
set_option linter.unusedSimpArgs false

theorem own : ownKnob Try.prog.godebug = none := by kernel_rfl

set_option maxRecDepth 100000 in
theorem lifted (os : Os) (started : os.Started) (H : Type) (enc : TypeId × Value → H) :
    ReturnsInHanded {} Try.checked os 15 .any (Rows.contentCutsSpec.pre6 enc Try.prog Try.f15 Rows.contentCutsRow.domain false) (Rows.contentCutsSpec.post enc Try.prog Try.f15 false true false false) := by
  refine returnsInHanded_of_change_sized (C := Try.checked) own started (by kernel_rfl) Try.func15
    (ChangeSpec.witness6 (enc := enc) (C := Try.checked) false ⟨#[], #[.int .i64 0, .agg #[.int .i64 0, .string ⟨#[]⟩, .string ⟨#[]⟩, .string ⟨#[]⟩, .string ⟨#[]⟩, .string ⟨#[]⟩, .int .i64 0, .int .i64 0, .int .u64 0, .bool false, .bool false, .slice none 0 0], .slice none 0 0, .slice none 0 0, .int .i64 0], []⟩ 8 (by kernel_rfl) (by kernel_rfl) (by kernel_rfl) (by kernel_rfl)) ?_
  intro W base args ds gs before hval0 hW _ hsz0 _
  have hval : ∀ (j : Nat) t v, Try.f15.params[j]? = some t → args[j]? = some v → Value.okWide Try.prog W .any base t v := hval0
  have hsz : (DataW.weightsEach Try.prog (Try.f15.params.toList ++ Rows.contentCutsSpec.plain.varTypes Try.prog) (ds ++ gs)).all (· ≤ reachBytes) = true := hsz0
  have hW' := hW
  obtain ⟨p, q, hA0, hV, rfl, hfz, hnd⟩ := hW
  have hA : DataW.TrodAll enc Try.prog W 0 (fun _ => true) true Try.f15.params.toList args.toList ds p := hA0
  rw [Try.params15] at hA hval
  obtain ⟨v0, vs0, d0, ds0, p0, q0, hargs, rfl, rfl, h0, r0⟩ := trodAll_cons hA
  obtain ⟨v1, vs1, d1, ds1, p1, q1, rfl, rfl, rfl, h1, r1⟩ := trodAll_cons r0
  obtain ⟨v2, vs2, d2, ds2, p2, q2, rfl, rfl, rfl, h2, r2⟩ := trodAll_cons r1
  obtain ⟨v3, vs3, d3, ds3, p3, q3, rfl, rfl, rfl, h3, r3⟩ := trodAll_cons r2
  obtain ⟨v4, vs4, d4, ds4, p4, q4, rfl, rfl, rfl, h4, r4⟩ := trodAll_cons r3
  obtain ⟨rfl, rfl, rfl⟩ := trodAll_nil r4
  obtain rfl : args = #[v0, v1, v2, v3, v4] := by cases args; simp_all
  obtain ⟨rfl, rfl⟩ := trodVars_none hV
  obtain ⟨a0, rfl, rfl, rfl, w0⟩ := open_int Try.underlying3 (hval 0 3 v0 rfl rfl) h0
  obtain ⟨a4, rfl, rfl, rfl, w4⟩ := open_int Try.underlying3 (hval 4 3 v4 rfl rfl) h4
  clear hA0 hval0
  obtain ⟨A1, c1, m1, rfl, hS1, hO1⟩ := open_meth (hval 1 42 v1 rfl rfl) h1 (fun m hm => by
    have := List.all_eq_true.1 (by rw [Try.params15] at hsz; exact hsz) m (by simp [DataW.weightsEach, hm])
    exact of_decide_eq_true this)
  obtain ⟨A2, c2, l2, rfl, hS2, hO2, hl2, hc2, hm2⟩ := open_tab (hval 2 22 v2 rfl rfl) h2 (fun m hm => by
    have := List.all_eq_true.1 (by rw [Try.params15] at hsz; exact hsz) m (by simp [DataW.weightsEach, hm])
    exact of_decide_eq_true this)
  obtain ⟨A3, c3, bs3, rfl, hB3, hl3, hc3, hm3⟩ := open_byt (hval 3 25 v3 rfl rfl) h3 (fun m hm => by
    have := List.all_eq_true.1 (by rw [Try.params15] at hsz; exact hsz) m (by simp [DataW.weightsEach, hm])
    exact of_decide_eq_true this)
  simp only [List.append_nil] at hW'
  refine (cuts15 a0 m1 A1 c1 l2 A2 c2 bs3 A3 c3 a4 W (bounds_i64 w0).1 (bounds_i64 w0).2 hO1 hS1 hO2 hl2 hS2 hB3 hl3 hc3 (bounds_i64 w4).1 (bounds_i64 w4).2).mono fun e W' ⟨he, hg⟩ => ?_
  subst he
  refine ⟨_, rfl, _, _, _, [], ([] ++ (p1 ++ (p2 ++ (p3 ++ ([] ++ []))))), [], hW', ?_, ?_, rfl, hg.below.frame _, fun h => by cases h⟩
  · exact trodAll_cons_mk (shut_bool Try.underlying4 _) trodAll_mk0
  · exact (trodAll_cons_mk (shut_int Try.underlying3 w0) (trodAll_cons_mk (meth_still h1 hg) (trodAll_cons_mk (tab_still h2 hg) (trodAll_cons_mk (byt_still h3 hg) (trodAll_cons_mk (shut_int Try.underlying3 w4) trodAll_mk0)))))

theorem over : Rows.contentCutsRow.holds Try.pinned (OpenSpec.ofChange Rows.contentCutsSpec) :=
  OpenClaim.holds_of_wide 15 Try.f15 rfl rfl rfl rfl rfl rfl rfl ⟨rfl, rfl, rfl, rfl, rfl⟩ rfl rfl rfl rfl rfl (by kernel_rfl) Try.func15 (by kernel_rfl)
    (of_decide_eq_true (by kernel_rfl)) (by unfold Func.isWrapper; first | (rw [if_pos (by decide +kernel)]; kernel_rfl) | (rw [if_neg (by decide +kernel)]; exact ⟨rfl, rfl⟩))
    (fun os started H enc _ => lifted os started H enc)

/-- The statement. -/
theorem proved : Rows.ContentCutsSaid := over
end Go.Proofs.Ytaeainkfllfdfaa.contentCuts
