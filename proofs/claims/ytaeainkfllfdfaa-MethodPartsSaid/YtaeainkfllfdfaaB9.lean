/- Rows of items of the call's own, appending to them, and a loop by goto. -/
import Derived.Test.YtaeainkfllfdfaaB8
import Derived.ScopeJumps
namespace Go.Proofs.Ytaeainkfllfdfaa
open Go.RowKit
set_option linter.unusedVariables false
set_option linter.unusedSimpArgs false
set_option maxRecDepth 100000

/-- A row of items of the call's own, from block base on; what it leads to lies in blocks of which S holds, and not in its own. -/
def OwnI (w : World) (base : Nat) (S : Nat → Prop) (A : Option Addr) (c : Nat) (l : L) : Prop :=
  ∃ us, w.ownsRow base 37 5 (.slice A l.len c) l.len us ∧ Vals w (fun b => S b ∧ ¬ blk A b) l us
theorem OwnI.nil (w : World) (base : Nat) (S : Nat → Prop) : OwnI w base S none 0 .nil := ⟨[], World.ownsRow_nil w base 37 5, rfl⟩
theorem OwnI.base {w : World} {base : Nat} {S : Nat → Prop} {A : Option Addr} {c : Nat} {l : L} (h : OwnI w base S A c l) {b : Nat} (hb : blk A b) : base ≤ b ∧ b < w.heap.size := by
  obtain ⟨us, ho, _⟩ := h
  exact ho.lt b ((ownBlock_iff _ _ _ _).2 hb)
theorem OwnI.tch {w w' : World} {base : Nat} {S T : Nat → Prop} {A : Option Addr} {c : Nat} {l : L} (h : OwnI w base S A c l) (k : Tch T w w') (h1 : ∀ b, blk A b → ¬ T b) (h2 : ∀ b, S b → b < w.heap.size → ¬ T b) : OwnI w' base S A c l := by
  obtain ⟨us, ho, hv⟩ := h
  exact ⟨us, k.own ho (fun g hg => h1 g ((ownBlock_iff _ _ _ _).1 hg)), (hv.old.tch k (fun b hb => h2 b hb.1.1 hb.2)).weak (fun b hb => hb.1)⟩
theorem OwnI.still {w w' : World} {base : Nat} {S : Nat → Prop} {A : Option Addr} {c : Nat} {l : L} (h : OwnI w base S A c l) (k : Still w w') : OwnI w' base S A c l := h.tch k (fun _ _ f => f) (fun _ _ _ f => f)
theorem OwnI.sl {w : World} {base : Nat} {S T : Nat → Prop} {A : Option Addr} {c : Nat} {l : L} (h : OwnI w base S A c l) (h1 : ∀ b, base ≤ b → T b) (h2 : ∀ b, S b → T b) : Sl w T A l := by
  obtain ⟨us, ho, hv⟩ := h
  by_cases hz : l.len = 0
  · exact .inl hz
  · have hlt := ho.lt
    have hcells := @World.ownsRow.cells _ _ _ _ _ _ _ ho
    rcases ho.2 with ⟨hv', hn⟩ | ⟨g, cap, cur, hv', hg, hh, r⟩
    · exact absurd hn hz
    · have hA : A = some ⟨g, 0, none⟩ := by simp at hv'; exact hv'.1
      subst hA
      refine .inr ⟨g, 0, us, rfl, h1 g hg, hv.weak (fun b hb => h2 b hb.1), fun j u hj => ?_⟩
      have := hcells (g := g) rfl j u hj
      rw [Addr.add_lit] at this
      exact this

theorem info37 : (Try.prog.info? 37).map (fun i => (i.zero, i.size, i.bytes)) = some (some (.agg #[.string { data := #[] }, .int .i64 0, .int .i64 0, .string { data := #[] }, .slice none 0 0]), 5, 72) := by kernel_rfl

theorem Vals.oneCell {w : World} {S : Nat → Prop} : ∀ {l : L} {us : List Value}, Vals w S l us → ∀ u ∈ us, u.oneCell' = true
  | .nil, us, h => by cases h; intro u hu; cases hu
  | .cons nm k n s it rest, us, h => by
    obtain ⟨A, c, vs, rfl, _, hr⟩ := h
    intro u hu
    simp only [List.mem_cons] at hu
    rcases hu with rfl | rfl | rfl | rfl | rfl | hu <;> first | rfl | exact Vals.oneCell hr u hu

theorem run_appI_zero {w : World} {base : Nat} {S : Nat → Prop} {A : Option Addr} {c : Nat} {l : L} (h : OwnI w base S A c l) (B : Option Addr) (cB : Nat) (ty : TypeId) :
    (Builtin.append_ #[22, 22] ty #[.slice A l.len c, .slice B 0 cB]).run Try.prog w = .ok (.slice A l.len c) w := by
  obtain ⟨us, ho, _⟩ := h
  obtain ⟨i, hi, hz0, hz1, hz2⟩ := info_parts info37
  have hle : l.len ≤ c := by
    rcases ho.2 with ⟨hv, hn⟩ | ⟨g, cap, cur, hv, hg, hh, hle, _⟩
    · omega
    · simp at hv; omega
  cases A with
  | none => cases B <;> simp [Builtin.append_, run_underlying Try.underlying22, sizeOf, typeInfo, hi, Builtin.lenOf, Builtin.firstCells, loadCells, loadCellsFrom, hle]
  | some a => cases B <;> simp [Builtin.append_, run_underlying Try.underlying22, sizeOf, typeInfo, hi, Builtin.lenOf, Builtin.firstCells, loadCells, loadCellsFrom, storeCells, hle]

/-- 'append(s, x...)', s a row of items of the call's own. -/
theorem wp_appI {o : Oper} {a : Act} {K : Act → World → Prop} {Q : Exit → Act → World → Prop} (w : World) (s x : Operand)
    (hop : o.op = Op.call { callee := Callee.builtin Builtin.append, args := #[s, x], argTypes := #[22, 22] })
    (base : Nat) (S T : Nat → Prop) (A : Option Addr) (c n m : Nat) (l xs : L) (hs : a.eval s = .slice A n c) (hn : n = l.len) (ho : OwnI w base S A c l) (B : Option Addr) (cB : Nat) (vs : List Value)
    (hx : a.eval x = .slice B m cB) (hm : m = xs.len) (hB : xs.len = 0 ∨ ∃ b off, B = some ⟨b, off, none⟩ ∧ ∀ j u, vs[j]? = some u → w.cell? ⟨b, off + j, none⟩ = some u) (hv : Vals w T xs vs) (hT : ∀ b, T b → b < w.heap.size → S b ∧ ¬ blk A b)
    (hlen : l.len + xs.len ≤ 1099511627776) (hbase : base ≤ w.heap.size)
    (hK : ∀ A' c' w', OwnI w' base S A' c' (l.app xs) → Tch (blk A) w w' → (∀ b, blk A' b → blk A b ∨ w.heap.size ≤ b) → K (a.put o.dst (.slice A' (n + m) c')) w') : o.wp Try.prog a w K Q := by
  subst hn; subst hm
  by_cases hz : xs.len = 0
  · have hxs := L.len_zero hz
    subst hxs
    have hrun := run_appI_zero ho B cB o.type
    unfold Oper.wp
    simp only [L.len] at hx
    simp [execOp, hop, resolve, invoke, builtin, hs, hx, hrun, Result.andThen]
    have := hK A c w (by rw [L.app_nil]; exact ho) (Tch.refl _ _) (fun b hb => .inl hb)
    rw [Oper.upon_value]
    simpa [L.len] using this
  · obtain ⟨b, off, rfl, hc⟩ := hB.resolve_left hz
    obtain ⟨us, ho1, hv1⟩ := ho
    obtain ⟨i, hi, hz0, hz1, hz2⟩ := info_parts info37
    obtain ⟨v', w', hrun, hown, hgrow, hat⟩ := run_append_at base 22 o.type 37 i _ 5 72 Try.underlying22 hi hz0 hz1 hz2 rfl (by decide) (.slice A l.len c) l.len us ho1 ⟨b, off, none⟩ xs.len cB vs (by rw [hv.length]) (fun j u hj => by rw [Addr.add_lit]; exact hc j u hj) hv.oneCell (by unfold maxLen; omega) (by omega) hbase
    obtain ⟨A', c', rfl⟩ := own_form hown
    have hT2 : Tch (blk A) w w' := (Tch.refl _ w).grown hgrow (fun k hk _ => (ownBlock_iff _ _ _ _).1 hk)
    have hat' : ∀ b, blk A' b → blk A b ∨ w.heap.size ≤ b := fun b hb => (hat b ((ownBlock_iff _ _ _ _).2 hb)).imp (fun h => (ownBlock_iff _ _ _ _).1 h) id
    unfold Oper.wp
    simp [execOp, hop, resolve, invoke, builtin, hs, hx, hrun, Result.andThen]
    refine hK A' c' w' ⟨us ++ vs, by rw [L.len_app]; exact hown, Vals.app ?_ ?_⟩ hT2 hat'
    · exact (hv1.old.tch hT2 (fun b hb => hb.1.2)).weak (fun b hb => ⟨hb.1.1, fun h => (hat' b h).elim hb.1.2 (fun h => by omega)⟩)
    · exact (hv.old.tch hT2 (fun b hb => (hT b hb.1 hb.2).2)).weak (fun b hb => ⟨(hT b hb.1 hb.2).1, fun h => (hat' b h).elim (hT b hb.1 hb.2).2 (fun h => by omega)⟩)
theorem wpList_appI {ops : Array Oper} {rest : List Oper} {o : Oper} {a : Act} {Q : Exit → Act → World → Prop} (w : World) (hg : o.guard = none) (s x : Operand)
    (hop : o.op = Op.call { callee := Callee.builtin Builtin.append, args := #[s, x], argTypes := #[22, 22] })
    (base : Nat) (S T : Nat → Prop) (A : Option Addr) (c n m : Nat) (l xs : L) (hs : a.eval s = .slice A n c) (hn : n = l.len) (ho : OwnI w base S A c l) (B : Option Addr) (cB : Nat) (vs : List Value)
    (hx : a.eval x = .slice B m cB) (hm : m = xs.len) (hB : xs.len = 0 ∨ ∃ b off, B = some ⟨b, off, none⟩ ∧ ∀ j u, vs[j]? = some u → w.cell? ⟨b, off + j, none⟩ = some u) (hv : Vals w T xs vs) (hT : ∀ b, T b → b < w.heap.size → S b ∧ ¬ blk A b)
    (hlen : l.len + xs.len ≤ 1099511627776) (hbase : base ≤ w.heap.size)
    (hK : ∀ A' c' w', OwnI w' base S A' c' (l.app xs) → Tch (blk A) w w' → (∀ b, blk A' b → blk A b ∨ w.heap.size ≤ b) → wpList Try.prog ops Q rest (a.put o.dst (.slice A' (n + m) c')) w') : wpList Try.prog ops Q (o :: rest) a w :=
  wpList_plain hg fun K' hK' => wp_appI w s x hop base S T A c n m l xs hs hn ho B cB vs hx hm hB hv hT hlen hbase fun A' c' w' h1 h2 h3 => hK' _ _ (hK A' c' w' h1 h2 h3)

/-- A loop by goto: what holds at the label, and a measure. -/
theorem wp_scope_loop {P : Program} {a : Act} {w : World} {Q : Exit → Act → World → Prop} {c C : Code} (l : Nat) (J : Act → World → Prop) (μ : Act → World → Nat) (hf : findLabel c l = some (.seq .skip C))
    (hC : ∀ a w, J a w → C.wp P (Exit.jump l (fun a' w' => J a' w' ∧ μ a' w' < μ a w) Q) a w)
    (first : (∀ a w, J a w → C.wp P (Exit.jump l J Q) a w) → c.wp P (Exit.jump l J Q) a w) : (Code.scope c).wp P Q a w := by
  refine wp_scope_jumps l J μ hf (first fun a w h => ?_) (fun a w h => ?_)
  · exact Code.wp_mono (fun e a' w' q => by cases e <;> first | exact q | exact ⟨q.1, q.2.1⟩) (hC a w h)
  · exact wp_seq (wp_skip (show Exit.then _ _ _ _ _ from hC a w h))
/-- A slice's length. -/
def lenOfV : Value → Nat | .slice _ n _ => n | _ => 0
end Go.Proofs.Ytaeainkfllfdfaa
