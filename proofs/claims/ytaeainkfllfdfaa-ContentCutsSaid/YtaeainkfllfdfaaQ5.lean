/- Contracts of the functions that the statement reaches, each walked once, and the plain laws over them, for every input that their premises name (B9, B10, B11, B12, B13, A4, B14). -/
import Derived.Test.YtaeainkfllfdfaaQ4
import Derived.ScopeJumps
/- B9: Rows of items of the call's own, appending to them, and a loop by goto. -/
namespace Go.Proofs.Ytaeainkfllfdfaa
open Go.RowKit
set_option linter.unusedVariables false
set_option linter.unusedSimpArgs false
set_option maxRecDepth 100000

/-- A row of items of the call's own, from block base on; what it leads to lies in blocks of which S holds, and not in its own. -/
def OwnI (w : World) (base : Nat) (S : Nat → Prop) (A : Option Addr) (c : Nat) (l : L) : Prop :=
  ∃ us, w.ownsRow base 37 5 (.slice A l.len c) l.len us ∧ Vals w (fun b => S b ∧ ¬ blk A b) l us
theorem OwnI.nil (w : World) (base : Nat) (S : Nat → Prop) : OwnI w base S none 0 .nil := ⟨[], World.ownsRow_nil w base 37 5, rfl⟩
theorem OwnI.base {w : World} {base : Nat} {S : Nat → Prop} {A : Option Addr} {c : Nat} {l : L} (h : OwnI w base S A c l) {b : Nat} (hb : blk A b) : base ≤ b ∧ b < w.heap.size := by
  obtain ⟨us, ho, _⟩ := h
  exact ho.lt b ((ownBlock_iff _ _ _ _).2 hb)
theorem OwnI.tch {w w' : World} {base : Nat} {S T : Nat → Prop} {A : Option Addr} {c : Nat} {l : L} (h : OwnI w base S A c l) (k : Tch T w w') (h1 : ∀ b, blk A b → ¬ T b) (h2 : ∀ b, S b → b < w.heap.size → ¬ T b) : OwnI w' base S A c l := by
  obtain ⟨us, ho, hv⟩ := h
  exact ⟨us, k.own ho (fun g hg => h1 g ((ownBlock_iff _ _ _ _).1 hg)), (hv.old.tch k (fun b hb => h2 b hb.1.1 hb.2)).weak (fun b hb => hb.1)⟩
theorem OwnI.still {w w' : World} {base : Nat} {S : Nat → Prop} {A : Option Addr} {c : Nat} {l : L} (h : OwnI w base S A c l) (k : Still w w') : OwnI w' base S A c l := h.tch k (fun _ _ f => f) (fun _ _ _ f => f)
theorem OwnI.sl {w : World} {base : Nat} {S T : Nat → Prop} {A : Option Addr} {c : Nat} {l : L} (h : OwnI w base S A c l) (h1 : ∀ b, base ≤ b → T b) (h2 : ∀ b, S b → T b) : Sl w T A l := by
  obtain ⟨us, ho, hv⟩ := h
  by_cases hz : l.len = 0
  · exact .inl hz
  · have hlt := ho.lt
    have hcells := @World.ownsRow.cells _ _ _ _ _ _ _ ho
    rcases ho.2 with ⟨hv', hn⟩ | ⟨g, cap, cur, hv', hg, hh, r⟩
    · exact absurd hn hz
    · have hA : A = some ⟨g, 0, none⟩ := by simp at hv'; exact hv'.1
      subst hA
      refine .inr ⟨g, 0, us, rfl, h1 g hg, hv.weak (fun b hb => h2 b hb.1), fun j u hj => ?_⟩
      have := hcells (g := g) rfl j u hj
      rw [Addr.add_lit] at this
      exact this

theorem info37 : (Try.prog.info? 37).map (fun i => (i.zero, i.size, i.bytes)) = some (some (.agg #[.string { data := #[] }, .int .i64 0, .int .i64 0, .string { data := #[] }, .slice none 0 0]), 5, 72) := by kernel_rfl

theorem Vals.oneCell {w : World} {S : Nat → Prop} : ∀ {l : L} {us : List Value}, Vals w S l us → ∀ u ∈ us, u.oneCell' = true
  | .nil, us, h => by cases h; intro u hu; cases hu
  | .cons nm k n s it rest, us, h => by
    obtain ⟨A, c, vs, rfl, _, hr⟩ := h
    intro u hu
    simp only [List.mem_cons] at hu
    rcases hu with rfl | rfl | rfl | rfl | rfl | hu <;> first | rfl | exact Vals.oneCell hr u hu

theorem run_appI_zero {w : World} {base : Nat} {S : Nat → Prop} {A : Option Addr} {c : Nat} {l : L} (h : OwnI w base S A c l) (B : Option Addr) (cB : Nat) (ty : TypeId) :
    (Builtin.append_ #[22, 22] ty #[.slice A l.len c, .slice B 0 cB]).run Try.prog w = .ok (.slice A l.len c) w := by
  obtain ⟨us, ho, _⟩ := h
  obtain ⟨i, hi, hz0, hz1, hz2⟩ := info_parts info37
  have hle : l.len ≤ c := by
    rcases ho.2 with ⟨hv, hn⟩ | ⟨g, cap, cur, hv, hg, hh, hle, _⟩
    · omega
    · simp at hv; omega
  cases A with
  | none => cases B <;> simp [Builtin.append_, run_underlying Try.underlying22, sizeOf, typeInfo, hi, Builtin.lenOf, Builtin.firstCells, loadCells, loadCellsFrom, hle]
  | some a => cases B <;> simp [Builtin.append_, run_underlying Try.underlying22, sizeOf, typeInfo, hi, Builtin.lenOf, Builtin.firstCells, loadCells, loadCellsFrom, storeCells, hle]

/-- 'append(s, x...)', s a row of items of the call's own. -/
theorem wp_appI {o : Oper} {a : Act} {K : Act → World → Prop} {Q : Exit → Act → World → Prop} (w : World) (s x : Operand)
    (hop : o.op = Op.call { callee := Callee.builtin Builtin.append, args := #[s, x], argTypes := #[22, 22] })
    (base : Nat) (S T : Nat → Prop) (A : Option Addr) (c n m : Nat) (l xs : L) (hs : a.eval s = .slice A n c) (hn : n = l.len) (ho : OwnI w base S A c l) (B : Option Addr) (cB : Nat) (vs : List Value)
    (hx : a.eval x = .slice B m cB) (hm : m = xs.len) (hB : xs.len = 0 ∨ ∃ b off, B = some ⟨b, off, none⟩ ∧ ∀ j u, vs[j]? = some u → w.cell? ⟨b, off + j, none⟩ = some u) (hv : Vals w T xs vs) (hT : ∀ b, T b → b < w.heap.size → S b ∧ ¬ blk A b)
    (hlen : l.len + xs.len ≤ 1099511627776) (hbase : base ≤ w.heap.size)
    (hK : ∀ A' c' w', OwnI w' base S A' c' (l.app xs) → Tch (blk A) w w' → (∀ b, blk A' b → blk A b ∨ w.heap.size ≤ b) → K (a.put o.dst (.slice A' (n + m) c')) w') : o.wp Try.prog a w K Q := by
  subst hn; subst hm
  by_cases hz : xs.len = 0
  · have hxs := L.len_zero hz
    subst hxs
    have hrun := run_appI_zero ho B cB o.type
    unfold Oper.wp
    simp only [L.len] at hx
    simp [execOp, hop, resolve, invoke, builtin, hs, hx, hrun, Result.andThen]
    have := hK A c w (by rw [L.app_nil]; exact ho) (Tch.refl _ _) (fun b hb => .inl hb)
    rw [Oper.upon_value]
    simpa [L.len] using this
  · obtain ⟨b, off, rfl, hc⟩ := hB.resolve_left hz
    obtain ⟨us, ho1, hv1⟩ := ho
    obtain ⟨i, hi, hz0, hz1, hz2⟩ := info_parts info37
    obtain ⟨v', w', hrun, hown, hgrow, hat⟩ := run_append_at base 22 o.type 37 i _ 5 72 Try.underlying22 hi hz0 hz1 hz2 rfl (by decide) (.slice A l.len c) l.len us ho1 ⟨b, off, none⟩ xs.len cB vs (by rw [hv.length]) (fun j u hj => by rw [Addr.add_lit]; exact hc j u hj) hv.oneCell (by unfold maxLen; omega) (by omega) hbase
    obtain ⟨A', c', rfl⟩ := own_form hown
    have hT2 : Tch (blk A) w w' := (Tch.refl _ w).grown hgrow (fun k hk _ => (ownBlock_iff _ _ _ _).1 hk)
    have hat' : ∀ b, blk A' b → blk A b ∨ w.heap.size ≤ b := fun b hb => (hat b ((ownBlock_iff _ _ _ _).2 hb)).imp (fun h => (ownBlock_iff _ _ _ _).1 h) id
    unfold Oper.wp
    simp [execOp, hop, resolve, invoke, builtin, hs, hx, hrun, Result.andThen]
    refine hK A' c' w' ⟨us ++ vs, by rw [L.len_app]; exact hown, Vals.app ?_ ?_⟩ hT2 hat'
    · exact (hv1.old.tch hT2 (fun b hb => hb.1.2)).weak (fun b hb => ⟨hb.1.1, fun h => (hat' b h).elim hb.1.2 (fun h => by omega)⟩)
    · exact (hv.old.tch hT2 (fun b hb => (hT b hb.1 hb.2).2)).weak (fun b hb => ⟨(hT b hb.1 hb.2).1, fun h => (hat' b h).elim (hT b hb.1 hb.2).2 (fun h => by omega)⟩)
theorem wpList_appI {ops : Array Oper} {rest : List Oper} {o : Oper} {a : Act} {Q : Exit → Act → World → Prop} (w : World) (hg : o.guard = none) (s x : Operand)
    (hop : o.op = Op.call { callee := Callee.builtin Builtin.append, args := #[s, x], argTypes := #[22, 22] })
    (base : Nat) (S T : Nat → Prop) (A : Option Addr) (c n m : Nat) (l xs : L) (hs : a.eval s = .slice A n c) (hn : n = l.len) (ho : OwnI w base S A c l) (B : Option Addr) (cB : Nat) (vs : List Value)
    (hx : a.eval x = .slice B m cB) (hm : m = xs.len) (hB : xs.len = 0 ∨ ∃ b off, B = some ⟨b, off, none⟩ ∧ ∀ j u, vs[j]? = some u → w.cell? ⟨b, off + j, none⟩ = some u) (hv : Vals w T xs vs) (hT : ∀ b, T b → b < w.heap.size → S b ∧ ¬ blk A b)
    (hlen : l.len + xs.len ≤ 1099511627776) (hbase : base ≤ w.heap.size)
    (hK : ∀ A' c' w', OwnI w' base S A' c' (l.app xs) → Tch (blk A) w w' → (∀ b, blk A' b → blk A b ∨ w.heap.size ≤ b) → wpList Try.prog ops Q rest (a.put o.dst (.slice A' (n + m) c')) w') : wpList Try.prog ops Q (o :: rest) a w :=
  wpList_plain hg fun K' hK' => wp_appI w s x hop base S T A c n m l xs hs hn ho B cB vs hx hm hB hv hT hlen hbase fun A' c' w' h1 h2 h3 => hK' _ _ (hK A' c' w' h1 h2 h3)

/-- A loop by goto: what holds at the label, and a measure. -/
theorem wp_scope_loop {P : Program} {a : Act} {w : World} {Q : Exit → Act → World → Prop} {c C : Code} (l : Nat) (J : Act → World → Prop) (μ : Act → World → Nat) (hf : findLabel c l = some (.seq .skip C))
    (hC : ∀ a w, J a w → C.wp P (Exit.jump l (fun a' w' => J a' w' ∧ μ a' w' < μ a w) Q) a w)
    (first : (∀ a w, J a w → C.wp P (Exit.jump l J Q) a w) → c.wp P (Exit.jump l J Q) a w) : (Code.scope c).wp P Q a w := by
  refine wp_scope_jumps l J μ hf (first fun a w h => ?_) (fun a w h => ?_)
  · exact Code.wp_mono (fun e a' w' q => by cases e <;> first | exact q | exact ⟨q.1, q.2.1⟩) (hC a w h)
  · exact wp_seq (wp_skip (show Exit.then _ _ _ _ _ from hC a w h))
/-- A slice's length. -/
def lenOfV : Value → Nat | .slice _ n _ => n | _ => 0
end Go.Proofs.Ytaeainkfllfdfaa
/- B10: The contract of value.reader's table. -/
namespace Go.Proofs.Ytaeainkfllfdfaa
open Go.RowKit
set_option linter.unusedVariables false
set_option linter.unusedSimpArgs false
set_option maxRecDepth 100000

/-- What holds of the loop of reader.table at its label. -/
structure TabInv (w : World) (R N base deep : Nat) (S : Nat → Prop) (tab : Rd → L × Rd) (r2 : Rd) (q : L × Rd) (acc : L) (inn : Rd) (A : Option Addr) (c : Nat) (wr : World) : Prop where
  fuel : Rd.items tab (33 - acc.len) acc inn = q
  le : acc.len ≤ 33
  own : OwnI wr base (base ≤ ·) A c acc
  dp : inn.bad = false → deep ≤ 4
  inn : RdAt wr N S inn
  out : RdAt wr R S r2
  tch : Tch (· = R) w wr
  hN : N < base
  hN2 : w.heap.size ≤ N
  hB : base ≤ wr.heap.size

/-- The frame there. -/
def TabJ (w : World) (R deep : Nat) (S : Nat → Prop) (tab : Rd → L × Rd) (r2 : Rd) (q : L × Rd) (a' : Act) (wr : World) : Prop :=
  ∃ (N base : Nat) (acc : L) (inn : Rd) (A : Option Addr) (c : Nat) (u6 u7 u9 u10 u11 u12 u13 u14 u15 u16 u17 u18 u19 u20 u21 u22 u23 u24 u25 u26 u27 u28 u29 u30 u31 u32 u33 u34 u35 u36 u37 u38 u39 u40 u41 u42 u43 u44 u45 u46 u47 u48 u49 u50 u51 u52 u53 u54 u55 u56 u57 u58 u59 u60 u61 u62 u63 u64 u65 u66 u67 u68 u69 u70 u71 : Value), Kp (TabInv w R N base deep S tab r2 q acc inn A c wr) ∧
    a' = { tmps := #[.pointer (some ⟨R, 0, none⟩), .int .i64 deep, undef, undef, .slice none 0 0, .slice A acc.len c, u6, u7, .pointer (some ⟨N, 0, none⟩), u9, u10, u11, u12, u13, u14, u15, u16, u17, u18, u19, u20, u21, u22, u23, u24, u25, u26, u27, u28, u29, u30, u31, u32, u33, u34, u35, u36, u37, u38, u39, u40, u41, u42, u43, u44, u45, u46, u47, u48, u49, u50, u51, u52, u53, u54, u55, u56, u57, u58, u59, u60, u61, u62, u63, u64, u65, u66, u67, u68, u69, u70, u71], defers := [] }

theorem Rd.items_stop {tab : Rd → L × Rd} {f : Nat} {l : L} {r : Rd} (h : ¬ (r.bad = false ∧ r.b ≠ [] ∧ l.len ≤ 32)) : Rd.items tab f l r = (l, r) := by
  cases f with
  | zero => rfl
  | succ f => simp only [Rd.items, if_neg h]

set_option maxHeartbeats 8000000 in
theorem table_loop (j deep : Nat) (hC : deep ≤ 4 → TabRC j (deep + 1)) (hdp : deep ≤ 5) (R : Nat) (S : Nat → Prop) (r : Rd) (w : World) (hr : RdAt w R S r) (hS : ¬ S R) (hR : R < w.heap.size) (hSo : ∀ b, S b → b < w.heap.size) :
    Calls Try.prog 42 #[.pointer (some ⟨R, 0, none⟩), .int .i64 deep] w (RetTab w R S (Rd.table (j + 1) deep r)) := by
  have HR := Kp.mk hr; clear hr
  have HS := Kp.mk hS; clear hS
  have HC := Kp.mk hC; clear hC
  have HSO := Kp.mk hSo; clear hSo
  rw [show Rd.table (j + 1) deep r = ((Rd.items (Rd.table j (deep + 1)) 33 .nil ⟨((r.num 4).2.raw (r.num 4).1).1, ((r.num 4).2.raw (r.num 4).1).2.bad || decide (4 < deep)⟩).1, ⟨((r.num 4).2.raw (r.num 4).1).2.b, ((r.num 4).2.raw (r.num 4).1).2.bad || (Rd.items (Rd.table j (deep + 1)) 33 .nil ⟨((r.num 4).2.raw (r.num 4).1).1, ((r.num 4).2.raw (r.num 4).1).2.bad || decide (4 < deep)⟩).2.bad⟩) from rfl]
  go_enter Try.func42, Try.ntmps42
  go_wp2_with fail
  refine wp_scope_loop 0 (TabJ w R deep S (Rd.table j (deep + 1)) ((r.num 4).2.raw (r.num 4).1).2 (Rd.items (Rd.table j (deep + 1)) 33 .nil ⟨((r.num 4).2.raw (r.num 4).1).1, ((r.num 4).2.raw (r.num 4).1).2.bad || decide (4 < deep)⟩)) (fun a' _ => 40 - lenOfV (a'.tmps.getD 5 undef)) rfl ?_ ?_
  · rintro a' wr ⟨N, base, acc, inn, A, c, u6, u7, u9, u10, u11, u12, u13, u14, u15, u16, u17, u18, u19, u20, u21, u22, u23, u24, u25, u26, u27, u28, u29, u30, u31, u32, u33, u34, u35, u36, u37, u38, u39, u40, u41, u42, u43, u44, u45, u46, u47, u48, u49, u50, u51, u52, u53, u54, u55, u56, u57, u58, u59, u60, u61, u62, u63, u64, u65, u66, u67, u68, u69, u70, u71, ⟨HI⟩, rfl⟩
    generalize ((r.num 4).2.raw (r.num 4).1).2 = r2 at *
    by_cases hcond : inn.bad = false ∧ inn.b ≠ [] ∧ acc.len ≤ 32
    · obtain ⟨hb1, hbe, hal⟩ := hcond
      have hbl : 0 < inn.b.length := List.length_pos_iff.2 hbe
      have hb3 := HI.inn
      have hd4 := HI.dp hb1
      have hC1 := HC.out hd4
      obtain ⟨AI, cI, i0, i1, fi0, fi1, _, _, _⟩ := HI.inn
      rw [hb1] at i1
      have HB1 := Kp.mk hb1
      have HBE := Kp.mk hbe; clear hb1 hbe hb3 HC
      have hNS : ¬ S N := fun h => by have := HSO.out N h; have := HI.hN2; omega
      have HNS := Kp.mk hNS; clear hNS
      have hNN := HI.hN; have hNN2 := HI.hN2; have hBB := HI.hB
      have HII := Kp.mk HI; clear HI
      have HC1 := Kp.mk hC1; clear hC1
      go_wp2_with fail
      refine (rnum76 N S inn 1 _ _ rfl (by omega) HII.out.inn HNS.out).mono ?_
      rintro e w1 ⟨rfl, hr1, ht1⟩
      have hl4 := num_lt inn 1 (by omega)
      go_wp2_with fail
      refine (raw77 N S (inn.num 1).2 _ _ w1 rfl hl4 hr1 HNS.out).mono ?_
      rintro e w2 ⟨AX, cX, rfl, hbx, hr2, ht2, hc1, hc2⟩
      have HT2 := Kp.mk (ht1.trans ht2 (S := (· = N)) (fun b _ h => h))
      have hsz := HT2.out.size
      have HR2 := Kp.mk hr2
      have hcv := run_conv (c := cX) hbx _ rfl
      clear ht1 ht2 hr1 hl4 hr2 hbx
      go_wp2_with fail
      refine (value78 j deep HC1.out hdp N S ((inn.num 1).2.raw (inn.num 1).1).2 _ _ rfl (HR2.out.still ((Still.refl _).alloc _)) HNS.out (by simp only [World.size_alloc]; omega) (fun b hb => by have := HSO.out b hb; simp only [World.size_alloc]; omega)).mono ?_
      rintro e w3 ⟨AV, cV, rfl, hsv, hr3, ht3⟩
      have hit : inn.item (Rd.table j (deep + 1)) = ({ (((inn.num 1).2.raw (inn.num 1).1).2.value (Rd.table j (deep + 1))).1 with nm := ⟨((inn.num 1).2.raw (inn.num 1).1).1.toArray⟩ }, (((inn.num 1).2.raw (inn.num 1).1).2.value (Rd.table j (deep + 1))).2) := rfl
      generalize ((inn.num 1).2.raw (inn.num 1).1).2.value (Rd.table j (deep + 1)) = V at *
      have hnb : N ≠ w2.heap.size := by omega
      have z0 := ht3.cell (a := ⟨w2.heap.size, 0, none⟩) (v := .string ⟨((inn.num 1).2.raw (inn.num 1).1).1.toArray⟩) (by go_simp) (by simp; omega)
      have z1 := ht3.cell (a := ⟨w2.heap.size, 1, none⟩) (v := .int .i64 0) (by go_simp) (by simp; omega)
      have z2 := ht3.cell (a := ⟨w2.heap.size, 2, none⟩) (v := .int .i64 0) (by go_simp) (by simp; omega)
      have z3 := ht3.cell (a := ⟨w2.heap.size, 3, none⟩) (v := .string { data := #[] }) (by go_simp) (by simp; omega)
      have z4 := ht3.cell (a := ⟨w2.heap.size, 4, none⟩) (v := .slice none 0 0) (by go_simp) (by simp; omega)
      have zf : ∀ o, w3.frozen? ⟨w2.heap.size, o, none⟩ = false := fun o => (ht3.frozen (a := ⟨w2.heap.size, o, none⟩) (by simp) (by simp; omega)).trans (by go_simp)
      have hsz3 := ht3.size
      simp only [World.size_alloc] at hsz3
      have HT3 := Kp.mk ((HT2.out.alloc _).trans ht3 (S := (· = N)) (fun b _ h => h))
      have HSV := Kp.mk hsv; have HR3 := Kp.mk hr3; have HIT := Kp.mk hit; clear hsv hr3 ht3 hit hcv HR2 HT2
      have hown : ∀ w4, Tch (· = w2.heap.size) w3 w4 → OwnI w4 base (base ≤ ·) A c acc := fun w4 h4 =>
        (HII.out.own.tch (HT3.out.trans h4 (S := fun b => b = N) (fun b hb e => by omega)) (fun b hb e => by have := (HII.out.own.base hb).1; omega) (fun b hb _ e => by omega))
      have hvs : ∀ w4, Tch (· = w2.heap.size) w3 w4 → Vals w4 (fun b => wr.heap.size ≤ b) (L.one (inn.item (Rd.table j (deep + 1))).1) [.string ⟨((inn.num 1).2.raw (inn.num 1).1).1.toArray⟩, .int .i64 V.1.k, .int .i64 V.1.n, .string V.1.s, .slice AV V.1.it.len cV] := fun w4 h4 => by
        rw [HIT.out]
        exact ⟨AV, cV, [], rfl, (HSV.out.tch h4 (fun b hb e => by simp only [World.size_alloc] at hb; omega)).weak (fun b hb => by simp only [World.size_alloc] at hb; omega), rfl⟩
      have HO := Kp.mk hown; have HVS := Kp.mk hvs; clear hown hvs
      have hW4 : Tch (· = w2.heap.size) w3 (((((w3.setCell ⟨w2.heap.size, 1, none⟩ (.int .i64 V.1.k)).setCell ⟨w2.heap.size, 2, none⟩ (.int .i64 V.1.n)).setCell ⟨w2.heap.size, 3, none⟩ (.string V.1.s)).setCell ⟨w2.heap.size, 4, none⟩ (.slice AV V.1.it.len cV)).alloc (.cells #[.string ⟨((inn.num 1).2.raw (inn.num 1).1).1.toArray⟩, .int .i64 V.1.k, .int .i64 V.1.n, .string V.1.s, .slice AV V.1.it.len cV] 37)) := by
        refine Tch.alloc ?_ _
        iterate 4 refine Tch.setCell ?_ _ _ (fun _ => rfl)
        exact Tch.refl _ _
      have HW4 := Kp.mk hW4; clear hW4
      go_wp2_with (at_builtin; (refine wpList_appI _ rfl _ _ rfl base (base ≤ ·) (wr.heap.size ≤ ·) A c _ 1 acc (L.one (inn.item (Rd.table j (deep + 1))).1) rfl rfl (HO.out _ ?_) (some ⟨w3.heap.size, 0, none⟩) 1 _ rfl rfl (.inr ⟨_, 0, rfl, ?_⟩) (HVS.out _ ?_) ?_ ?_ ?_ ?_); rotate_right; intro A1 c1 w5 ho1 ht1 hat1; have HO1 := Kp.mk ho1; have HT1 := Kp.mk ht1; clear ho1 ht1 hat1)
      · have hlen : (acc.app (L.one (inn.item (Rd.table j (deep + 1))).1)).len = acc.len + 1 := by rw [L.len_app, L.len_one]
        rw [← hlen]
        go_step3
        simp only [Exit.then]
        have hTT : Tch (fun b => b = N ∨ blk A b) wr w5 := by
          refine (HT3.out.mono (T := fun b => b = N ∨ blk A b) (fun b _ h => .inl h)).trans ((HW4.out.mono (T := fun b => b = w2.heap.size ∨ blk A b) (fun b _ h => .inl h)).trans HT1.out (fun b _ h => .inr h)) (fun b hb e => ?_)
          rcases e with e | e
          · omega
          · exact .inr e
        have hbA : ∀ b, blk A b → base ≤ b := fun b hb => (HII.out.own.base hb).1
        have hfu : Rd.items (Rd.table j (deep + 1)) (33 - acc.len) acc inn = Rd.items (Rd.table j (deep + 1)) (33 - (acc.len + 1)) (acc.app (L.one (inn.item (Rd.table j (deep + 1))).1)) (inn.item (Rd.table j (deep + 1))).2 := by
          rw [show 33 - acc.len = (33 - (acc.len + 1)) + 1 by omega]
          rw [Rd.items, if_pos ⟨HB1.out, HBE.out, hal⟩]
        show _ ∧ _
        refine ⟨rfl, ⟨N, base, _, (inn.item (Rd.table j (deep + 1))).2, A1, c1, _, _, _, _, _, _, _, _, _, _, _, _, _, _, _, _, _, _, _, _, _, _, _, _, _, _, _, _, _, _, _, _, _, _, _, _, _, _, _, _, _, _, _, _, _, _, _, _, _, _, _, _, _, _, _, _, _, _, _, _, _, _, _, _, _, ⟨⟨?_, by rw [hlen]; omega, HO1.out, fun _ => hd4, ?_, HII.out.out.tch hTT (fun e => ?_) (fun b hb e => ?_), HII.out.tch.trans hTT (fun b hb e => ?_), hNN, hNN2, ?_⟩⟩, rfl⟩, ?_⟩
        · rw [hlen, ← hfu]; exact HII.out.fuel
        · rw [HIT.out]
          refine (HR3.out.tch HW4.out (by omega) (fun b hb e => ?_)).tch HT1.out (fun e => ?_) (fun b hb e => ?_)
          · have := HSO.out b hb; omega
          · have := hbA _ e; omega
          · have := HSO.out b hb; have := hbA _ e; omega
        · rcases e with e | e
          · omega
          · have := hbA _ e; omega
        · have := HSO.out b hb
          rcases e with e | e
          · omega
          · have := hbA _ e; omega
        · rcases e with e | e
          · omega
          · have := hbA _ e; omega
        · have := hTT.size; omega
        · show 40 - (acc.app (L.one (inn.item (Rd.table j (deep + 1))).1)).len < 40 - acc.len
          rw [hlen]; omega
      · exact HW4.out
      · intro j u hj
        rw [Nat.zero_add]
        exact cell_new' (by simp) (by rw [← hj]; simp only [List.getElem?_toArray])
      · exact HW4.out
      · intro b hb hlt
        refine ⟨by omega, fun h => ?_⟩
        have := (HII.out.own.base h).2; omega
      · simp only [L.len_one]; omega
      · have := HW4.out.size; omega
    · have hit := HI.fuel
      rw [Rd.items_stop hcond] at hit
      generalize Rd.items (Rd.table j (deep + 1)) 33 .nil _ = q at *
      subst hit
      obtain ⟨AI, cI, i0, i1, fi0, fi1, _, _, _⟩ := HI.inn
      obtain ⟨AO, cO, o0, o1, fo0, fo1, _, _, _⟩ := HI.out
      have hfin : ∀ b, (r2.bad || inn.bad) = b → RetTab w R S (acc, ⟨r2.b, b⟩) (.returned (.slice A acc.len c)) (wr.setCell ⟨R, 1, none⟩ (.bool b)) := fun b hb => by
        subst hb
        have hN := HI.hN; have hN2 := HI.hN2
        refine ⟨A, c, rfl, (HI.own.tch (T := (· = R)) ((Tch.refl _ wr).setCell _ _ (fun _ => rfl)) (fun b hb e => ?_) (fun b hb _ e => ?_)).sl (fun b hb => ?_) (fun b hb => Nat.le_of_lt (Nat.lt_of_le_of_lt hN2 (Nat.lt_of_lt_of_le hN hb))), HI.out.setBit HS.out _, HI.tch.setCell _ _ (fun _ => rfl)⟩
        · have := (HI.own.base hb).1; omega
        · omega
        · omega
      have HF := Kp.mk hfin; clear hfin HI
      cases hr2 : r2.bad with
      | true =>
        rw [hr2] at o1
        have HR2 := Kp.mk hr2; clear hr2
        cases hb1 : inn.bad with
        | true =>
          rw [hb1] at i1
          have HB1 := Kp.mk hb1; clear hb1 hcond
          go_wp2_with fail
          simp only [Exit.jump]
          go_ret
          exact HF.out true (by rw [HR2.out, HB1.out]; rfl)
        | false =>
          rw [hb1] at i1
          by_cases hbe : inn.b = []
          · have hbl : (inn.b.length : Int) = 0 := by rw [hbe]; rfl
            have hbn : inn.b.length = 0 := by omega
            rw [hbn] at i0
            have HB1 := Kp.mk hb1; clear hb1 hcond hbe hbl hbn
            go_wp2_with fail
            simp only [Exit.jump]
            go_ret
            exact HF.out true (by rw [HR2.out, HB1.out]; rfl)
          · have hal : ¬ acc.len ≤ 32 := fun h => hcond ⟨hb1, hbe, h⟩
            have hbl : 0 < inn.b.length := List.length_pos_iff.2 hbe
            have HB1 := Kp.mk hb1; clear hb1 hcond hbe
            go_wp2_with fail
            simp only [Exit.jump]
            go_ret
            exact HF.out true (by rw [HR2.out, HB1.out]; rfl)
      | false =>
        rw [hr2] at o1
        have HR2 := Kp.mk hr2; clear hr2
        cases hb1 : inn.bad with
        | true =>
          rw [hb1] at i1
          have HB1 := Kp.mk hb1; clear hb1 hcond
          go_wp2_with fail
          simp only [Exit.jump]
          go_ret
          exact HF.out true (by rw [HR2.out, HB1.out]; rfl)
        | false =>
          rw [hb1] at i1
          by_cases hbe : inn.b = []
          · have hbl : (inn.b.length : Int) = 0 := by rw [hbe]; rfl
            have hbn : inn.b.length = 0 := by omega
            rw [hbn] at i0
            have HB1 := Kp.mk hb1; clear hb1 hcond hbe hbl hbn
            go_wp2_with fail
            simp only [Exit.jump]
            go_ret
            exact HF.out false (by rw [HR2.out, HB1.out]; rfl)
          · have hal : ¬ acc.len ≤ 32 := fun h => hcond ⟨hb1, hbe, h⟩
            have hbl : 0 < inn.b.length := List.length_pos_iff.2 hbe
            have HB1 := Kp.mk hb1; clear hb1 hcond hbe
            go_wp2_with fail
            simp only [Exit.jump]
            go_ret
            exact HF.out false (by rw [HR2.out, HB1.out]; rfl)
  · intro hJ
    have HJ := Kp.mk hJ; clear hJ
    go_wp2_with fail
    refine (rnum76 R S r 4 _ _ rfl (by omega) HR.out HS.out).mono ?_
    rintro e w1 ⟨rfl, hr1, ht1⟩
    have hl4 := num_lt r 4 (by omega)
    go_wp2_with fail
    refine (raw77 R S (r.num 4).2 _ _ w1 rfl hl4 hr1 HS.out).mono ?_
    rintro e w2 ⟨AX, cX, rfl, hbx, hr2, ht2, hc1, hc2⟩
    have HT2 := Kp.mk (ht1.trans ht2 (S := (· = R)) (fun b _ h => h))
    clear ht1 ht2 hr1 hl4
    have hini : ∀ bad, RdAt (w2.alloc (.cells #[.slice AX ((r.num 4).2.raw (r.num 4).1).1.length cX, .bool bad] 77)) w2.heap.size S ⟨((r.num 4).2.raw (r.num 4).1).1, bad⟩ := fun bad => RdAt.new bad rfl hbx hc1 hc2
    have HINI := Kp.mk hini; clear hini hbx
    have HR2 := Kp.mk hr2
    obtain ⟨AR, cR, k0, k1, f0, f1, _, _, _⟩ := hr2
    have hsz := HT2.out.size
    cases hbad : ((r.num 4).2.raw (r.num 4).1).2.bad with
    | true =>
      rw [hbad] at k1
      have HBD := Kp.mk hbad; clear hbad
      go_wp2_with fail
      go_step3
      simp only [Exit.then]
      refine ‹∀ (a : Act) (w : World), Code.wp _ _ _ a w → _› _ _ (HJ.out _ _ ?_)
      clear HJ
      refine ⟨w2.heap.size, w2.heap.size + 1, .nil, ⟨((r.num 4).2.raw (r.num 4).1).1, ((r.num 4).2.raw (r.num 4).1).2.bad || decide (4 < deep)⟩, none, 0, _, _, _, _, _, _, _, _, _, _, _, _, _, _, _, _, _, _, _, _, _, _, _, _, _, _, _, _, _, _, _, _, _, _, _, _, _, _, _, _, _, _, _, _, _, _, _, _, _, _, _, _, _, _, _, _, _, _, _, _, _, _, _, _, _, ⟨⟨rfl, by simp [L.len], OwnI.nil _ _ _, fun h => by simp at h; omega, ?_, HR2.out.still ((Still.refl _).alloc _), HT2.out.alloc _, by omega, hsz, by simp⟩⟩, rfl⟩
      have h := HINI.out true
      go_light
      rw [HBD.out]
      simpa using h
    | false =>
      rw [hbad] at k1
      have HBD := Kp.mk hbad; clear hbad
      go_wp2_with fail
      go_step3
      simp only [Exit.then]
      refine ‹∀ (a : Act) (w : World), Code.wp _ _ _ a w → _› _ _ (HJ.out _ _ ?_)
      clear HJ
      refine ⟨w2.heap.size, w2.heap.size + 1, .nil, ⟨((r.num 4).2.raw (r.num 4).1).1, ((r.num 4).2.raw (r.num 4).1).2.bad || decide (4 < deep)⟩, none, 0, _, _, _, _, _, _, _, _, _, _, _, _, _, _, _, _, _, _, _, _, _, _, _, _, _, _, _, _, _, _, _, _, _, _, _, _, _, _, _, _, _, _, _, _, _, _, _, _, _, _, _, _, _, _, _, _, _, _, _, _, _, _, _, _, _, ⟨⟨rfl, by simp [L.len], OwnI.nil _ _ _, fun h => by simp at h; omega, ?_, HR2.out.still ((Still.refl _).alloc _), HT2.out.alloc _, by omega, hsz, by simp⟩⟩, rfl⟩
      have h := HINI.out (decide (4 < deep))
      go_light
      rw [HBD.out]
      have e : decide ((4 : Int) < (deep : Int)) = decide (4 < deep) := by rw [Bool.eq_iff_iff]; simp; omega
      rw [e]
      simpa using h

theorem TabRC_all : ∀ (j deep : Nat), deep ≤ 5 → 5 ≤ deep + j → TabRC (j + 1) deep
  | 0, deep, h1, h2 => fun R S r D w hD hr hS hR hSo => by
    subst hD
    exact table_loop 0 deep (fun h => by omega) h1 R S r w hr hS hR hSo
  | j + 1, deep, h1, h2 => fun R S r D w hD hr hS hR hSo => by
    subst hD
    exact table_loop (j + 1) deep (fun _ => TabRC_all j (deep + 1) (by omega) (by omega)) h1 R S r w hr hS hR hSo
end Go.Proofs.Ytaeainkfllfdfaa
/- B11: What the reader makes is within Go's kinds; bytes.Equal; the contract of value.Get. -/
namespace Go.Proofs.Ytaeainkfllfdfaa
open Go.RowKit
set_option linter.unusedVariables false
set_option linter.unusedSimpArgs false
set_option maxRecDepth 100000

theorem wrap64_in (n : Int) : -9223372036854775808 ≤ wrap64 n ∧ wrap64 n ≤ 9223372036854775807 := by unfold wrap64; omega
theorem kindOf_in (n : Nat) : -1 ≤ kindOf n ∧ kindOf n ≤ 5 := by
  unfold kindOf
  split; omega
  split; omega
  split; omega
  split; omega
  split; omega
  split <;> omega
theorem Rd.num_le (r : Rd) (k : Nat) : (r.num k).2.b.length ≤ r.b.length := (r.raw_le k).2

/-- What a reader of tables gives: within Go's kinds, no longer than what it had. -/
def TabOk (M : Nat) (tab : Rd → L × Rd) : Prop := ∀ r : Rd, r.b.length ≤ M → (tab r).1.Ok ∧ (tab r).1.len ≤ 33 ∧ (tab r).2.b.length ≤ r.b.length
theorem ba_size (x : List UInt8) : (ByteArray.mk x.toArray).size = x.length := by simp [ByteArray.size]
theorem Rd.value_ok {tab : Rd → L × Rd} (M : Nat) (hM : M ≤ 140737488351232) (hT : TabOk M tab) (r : Rd) (hr : r.b.length ≤ M) :
    (r.value tab).1.s.size ≤ 140737488351232 ∧ (r.value tab).1.it.len ≤ 140737488351232 ∧ (-1 ≤ (r.value tab).1.k ∧ (r.value tab).1.k ≤ 5) ∧ (-9223372036854775808 ≤ (r.value tab).1.n ∧ (r.value tab).1.n ≤ 9223372036854775807) ∧ (r.value tab).1.it.Ok ∧ (r.value tab).2.b.length ≤ r.b.length := by
  have hk := kindOf_in (r.num 1).1
  have h1 := r.num_le 1
  unfold Rd.value
  simp only
  split
  · exact ⟨Nat.zero_le _, Nat.zero_le _, hk, wrap64_in _, trivial, Nat.le_trans (Rd.num_le _ _) h1⟩
  split
  · exact ⟨Nat.zero_le _, Nat.zero_le _, hk, wrap64_in _, trivial, Nat.le_trans (Rd.num_le _ _) h1⟩
  split
  · exact ⟨Nat.zero_le _, Nat.zero_le _, hk, wrap64_in _, trivial, Nat.le_trans (Rd.num_le _ _) h1⟩
  split
  · have h2 := (r.num 1).2.num_le 4
    have h3 := ((r.num 1).2.num 4).2.raw_le ((r.num 1).2.num 4).1
    refine ⟨?_, Nat.zero_le _, hk, by simp, trivial, by simp only; omega⟩
    rw [ba_size]; omega
  split
  · have h2 := hT (r.num 1).2 (by omega)
    exact ⟨Nat.zero_le _, by simp only; omega, hk, by simp, h2.1, by simp only; omega⟩
  · exact ⟨Nat.zero_le _, Nat.zero_le _, hk, by simp, trivial, h1⟩
theorem Rd.item_ok {tab : Rd → L × Rd} (M : Nat) (hM : M ≤ 140737488351232) (hT : TabOk M tab) (r : Rd) (hr : r.b.length ≤ M) : (r.item tab).1.Ok ∧ (r.item tab).2.b.length ≤ r.b.length := by
  have h1 := r.num_le 1
  have h2 := (r.num 1).2.raw_le (r.num 1).1
  obtain ⟨v1, v2, v3, v4, v5, v6⟩ := Rd.value_ok M hM hT ((r.num 1).2.raw (r.num 1).1).2 (by omega)
  unfold Rd.item
  refine ⟨⟨⟨?_, v1, v2, by simp only; omega, by simp only; omega, v4.1, v4.2⟩, v5⟩, by simp only; omega⟩
  simp only
  rw [ba_size]; omega
theorem Rd.items_ok {tab : Rd → L × Rd} (M : Nat) (hM : M ≤ 140737488351232) (hT : TabOk M tab) : ∀ (f : Nat) (l : L) (r : Rd), r.b.length ≤ M → l.Ok → l.len ≤ 33 →
    (Rd.items tab f l r).1.Ok ∧ (Rd.items tab f l r).1.len ≤ 33 ∧ (Rd.items tab f l r).2.b.length ≤ r.b.length
  | 0, l, r, _, hl, hn => ⟨hl, hn, Nat.le_refl _⟩
  | f + 1, l, r, hr, hl, hn => by
    unfold Rd.items
    split
    · rename_i h
      have h1 := Rd.item_ok M hM hT r hr
      have h2 := Rd.items_ok M hM hT f (l.app (L.one (r.item tab).1)) (r.item tab).2 (by omega) (hl.app ⟨h1.1.1, h1.1.2, trivial⟩) (by rw [L.len_app, L.len_one]; omega)
      exact ⟨h2.1, h2.2.1, by omega⟩
    · exact ⟨hl, hn, Nat.le_refl _⟩
theorem Rd.table_ok (M : Nat) (hM : M ≤ 140737488351232) : ∀ (j deep : Nat), TabOk M (Rd.table j deep)
  | 0, deep => fun r hr => ⟨trivial, Nat.zero_le _, Nat.le_refl _⟩
  | j + 1, deep => fun r hr => by
    have h1 := r.num_le 4
    have h2 := (r.num 4).2.raw_le (r.num 4).1
    have h3 := Rd.items_ok M hM (Rd.table_ok M hM j (deep + 1)) 33 .nil ⟨((r.num 4).2.raw (r.num 4).1).1, ((r.num 4).2.raw (r.num 4).1).2.bad || decide (4 < deep)⟩ (by simp only; omega) trivial (by simp [L.len])
    unfold Rd.table
    exact ⟨h3.1, h3.2.1, by simp only; omega⟩

theorem Bs.old {w : World} {S : Nat → Prop} {A : Option Addr} {bs : List UInt8} (h : Bs w S A bs) : Bs w (fun b => S b ∧ b < w.heap.size) A bs := by
  cases bs with
  | nil => exact .inl rfl
  | cons c cs =>
    rcases h with h | ⟨b, o, rfl, hb, hc⟩
    · cases h
    · exact .inr ⟨b, o, rfl, ⟨hb, World.block_lt_of_cell? w _ (hc 0 (by simp))⟩, hc⟩

theorem bytes_eq (x y : List UInt8) : (ByteArray.mk x.toArray).toList = (ByteArray.mk y.toArray).toList ↔ x = y := by
  rw [ByteArray.toList_eq, ByteArray.toList_eq]

/-- bytes.Equal. -/
theorem equal43 (x y : List UInt8) (A B : Option Addr) (ca cb n m : Nat) (S T : Nat → Prop) (w : World) (hn : n = x.length) (hm : m = y.length) (hx : Bs w S A x) (hy : Bs w T B y) :
    Calls Try.prog 43 #[.slice A n ca, .slice B m cb] w fun e w' => e = .returned (.bool (decide (x = y))) ∧ Still w w' := by
  subst hn; subst hm
  have c1 := run_conv (c := ca) hx _ rfl
  have c2 := run_conv (c := cb) hy _ rfl
  clear hx hy
  go_enter Try.func43, Try.ntmps43
  go_wp2_with fail
  go_ret
  exact ⟨ret_bool (by rw [Bool.eq_iff_iff]; simp [bytes_eq]), Still.refl _⟩

/-- What Get makes of bytes before it looks at them. -/
def getR (b : List UInt8) : L × Rd := Rd.table 5 1 ⟨b, false⟩
/-- Do the bytes hold a table: what was read was not bad, may be put, and is put so. -/
def getOk (b : List UInt8) : Bool := !(getR b).2.bad && (decide ((getR b).1.putE = 0) && decide ((getR b).1.putB = b))
def getL (b : List UInt8) : L := if getOk b then (getR b).1 else .nil
def getE (b : List UInt8) : Int := if getOk b then 0 else 502

/-- What Get leaves. -/
def RetGet (w : World) (b : List UInt8) (e : Ending) (w' : World) : Prop :=
  ∃ A c, e = .returned (.tuple #[.slice A (getL b).len c, .int .i64 (getE b)]) ∧ Sl w' (fun k => w.heap.size ≤ k) A (getL b) ∧ Still w w'

set_option maxHeartbeats 4000000 in
theorem get_ok (b : List UInt8) (A : Option Addr) (c n : Nat) (S : Nat → Prop) (w : World) (hn : n = b.length) (h0 : b.length ≤ 140737488351232) (h1 : b.length ≤ c) (h2 : c ≤ 9223372036854775807) (hB : Bs w S A b) :
    Calls Try.prog 19 #[.slice A n c] w (RetGet w b) := by
  subst hn
  unfold RetGet
  have hG : getL b = if getOk b then (getR b).1 else .nil := rfl
  have hE : getE b = if getOk b then 0 else 502 := rfl
  have hO : getOk b = (!(getR b).2.bad && (decide ((getR b).1.putE = 0) && decide ((getR b).1.putB = b))) := rfl
  obtain ⟨k1, k2, k3⟩ := Rd.table_ok 140737488351232 (by omega) 5 1 ⟨b, false⟩ (by simp only; omega)
  have hT := fun w' (hh : RdAt w' w.heap.size (fun k => k < w.heap.size) ⟨b, false⟩) (hs : w'.heap.size = w.heap.size + 1) => (TabRC_all 4 1 (by omega) (by omega)).use w.heap.size (fun k => k < w.heap.size) ⟨b, false⟩ 1 w' rfl hh (by omega) (by omega) (fun b hb => by omega)
  change ∀ w' _ _, Calls _ _ _ _ (RetTab w' w.heap.size _ (getR b)) at hT
  change (getR b).1.Ok at k1
  change (getR b).1.len ≤ 33 at k2
  generalize getL b = gl at *
  generalize getE b = ge at *
  generalize getOk b = go at *
  have HB := Kp.mk hB; clear hB
  have HT := Kp.mk hT; clear hT
  have HK := Kp.mk k1; clear k1 k3
  have HGG := Kp.mk hG; have HEE := Kp.mk hE; have HOO := Kp.mk hO; clear hG hE hO
  generalize getR b = x at *
  go_enter Try.func19, Try.ntmps19
  go_wp2_with fail
  refine (HT.out _ (RdAt.new false rfl (HB.out.old.weak (fun b hb => hb.2)) h1 h2) (by simp)).mono ?_
  rintro e w1 ⟨AT, cT, rfl, hs1, hr1, ht1⟩
  have HT1 := Kp.mk ((Still.refl w).alloc _ |>.trans ht1 (S := fun _ => False) (fun b hb e => by omega))
  have HS1 := Kp.mk hs1; have HR1 := Kp.mk hr1; clear hs1 hr1 ht1
  go_wp2_with fail
  refine (put_ok x.1 AT cT _ w1 (by omega) HK.out HS1.out).mono ?_
  rintro e w2 ⟨AP, cP, rfl, ho2, ht2⟩
  have HO2 := Kp.mk ho2; have HT2 := Kp.mk ht2; clear ho2 ht2
  obtain ⟨AR, cR, k0, k1, f0, f1, _, _, _⟩ := HR1.out.still HT2.out
  have HW := Kp.mk (HT1.out.strans HT2.out)
  cases hbad : x.2.bad with
  | true =>
    rw [hbad] at k1
    have hgo : go = false := by rw [HOO.out, hbad]; rfl
    subst hgo
    clear hbad
    go_wp2_with fail
    go_ret2
    rw [HGG.out, HEE.out]
    exact ⟨none, 0, rfl, Sl.nil _ _ _, HW.out⟩
  | false =>
    rw [hbad] at k1
    by_cases hpe : x.1.putE = 0
    · have HPE := Kp.mk hpe
      have HBD := Kp.mk hbad; clear hbad
      rw [hpe]
      clear hpe
      have hS1 : ∀ w3, Still w2 w3 → Sl w3 (fun b => w.heap.size ≤ b) AT x.1 := fun w3 h3 => (HS1.out.still (HT2.out.strans h3)).weak (fun b hb => by simp only [World.size_alloc] at hb; omega)
      have HS2 := Kp.mk hS1; clear hS1
      go_wp2_with fail
      refine (equal43 x.1.putB b AP A cP c _ _ _ S w2 rfl rfl HO2.out.bs (HB.out.still HW.out)).mono ?_
      rintro e w3 ⟨rfl, ht3⟩
      have HT3 := Kp.mk ht3; clear ht3
      by_cases he : x.1.putB = b
      · have hgo : go = true := by rw [HOO.out, HBD.out, HPE.out]; simp [he]
        have hd : decide (x.1.putB = b) = true := decide_eq_true he
        rw [hd]
        clear he hd
        subst hgo
        go_wp2_with fail
        go_ret2
        rw [HGG.out, HEE.out]
        exact ⟨AT, cT, rfl, HS2.out _ HT3.out, HW.out.strans HT3.out⟩
      · have hgo : go = false := by rw [HOO.out, HBD.out, HPE.out]; simp [he]
        have hd : decide (x.1.putB = b) = false := decide_eq_false he
        rw [hd]
        clear he hd
        subst hgo
        go_wp2_with fail
        go_ret2
        rw [HGG.out, HEE.out]
        exact ⟨none, 0, rfl, Sl.nil _ _ _, HW.out.strans HT3.out⟩
    · have hgo : go = false := by rw [HOO.out]; simp [hpe]
      subst hgo
      clear hbad
      go_wp2_with fail
      go_ret2
      rw [HGG.out, HEE.out]
      exact ⟨none, 0, rfl, Sl.nil _ _ _, HW.out⟩
end Go.Proofs.Ytaeainkfllfdfaa
/- B12: What the document says of a few tables: carrefourlaw3.told. -/
namespace Go.Proofs.Ytaeainkfllfdfaa
open Go.RowKit
set_option linter.unusedVariables false
set_option linter.unusedSimpArgs false
set_option maxRecDepth 100000

theorem OwnB.caps {w : World} {base : Nat} {A : Option Addr} {c : Nat} {bs : List UInt8} (h : OwnB w base A c bs) : bs.length ≤ c ∧ c ≤ 9223372036854775807 := by
  rcases h.2 with ⟨hv, hn⟩ | ⟨g, cap, cur, hv, hg, hh, hle, hm, _⟩
  · simp at hv; obtain ⟨-, -, rfl⟩ := hv; exact ⟨by omega, by omega⟩
  · simp at hv; obtain ⟨rfl, rfl⟩ := hv; unfold maxLen at hm; omega

/-- A row of items that was just laid. -/
theorem Sl.new {W : World} {S : Nat → Prop} {b n : Nat} {l : L} {us : List Value} (hb : W.heap.size = b) (hn : n = l.len) (hv : Vals (W.alloc (.cells us.toArray 37)) S l us) (hS : S b) : Sl (W.alloc (.cells us.toArray 37)) S (some ⟨b, 0, none⟩) l := by
  refine .inr ⟨b, 0, us, rfl, hS, hv, fun j u hj => ?_⟩
  rw [Nat.zero_add]
  exact cell_new' hb (by rw [← hj]; simp only [List.getElem?_toArray])

/-- The table that told tries. -/
def tl : L := .cons ⟨#[97]⟩ 1 1 .empty .nil (.cons ⟨#[98]⟩ 5 0 .empty .nil .nil)
def t0 : L := .cons .empty 0 0 .empty .nil .nil
theorem tl_putE : tl.putE = 0 := by decide +kernel
theorem tl_putB : tl.putB = [0, 0, 0, 11, 1, 97, 116, 1, 1, 98, 70, 0, 0, 0, 0] := by decide +kernel
theorem tl_getE : getE [0, 0, 0, 11, 1, 97, 116, 1, 1, 98, 70, 0, 0, 0, 0] = 0 := by decide +kernel
theorem tl_getL : getL [0, 0, 0, 11, 1, 97, 116, 1, 1, 98, 70, 0, 0, 0, 0] = tl := by decide +kernel
theorem nil_getE : getE [] = 502 := by decide +kernel
theorem nil_getL : getL [] = .nil := by decide +kernel
theorem t0_putE : t0.putE = 1 := by decide +kernel
theorem t0_putB : t0.putB = [] := by decide +kernel
theorem tl_a : tl.find ⟨#[97]⟩ = ⟨⟨#[97]⟩, 1, 1, .empty, .nil⟩ := by decide +kernel
theorem tl_c : tl.find ⟨#[99]⟩ = It.zero := by decide +kernel
theorem tl_ok : tl.Ok := by refine ⟨by decide, trivial, by decide, trivial, trivial⟩
theorem t0_ok : t0.Ok := by refine ⟨by decide, trivial, trivial⟩

theorem field34_1 (k n : Int) (s : ByteArray) (A : Option Addr) (m c : Nat) (w : World) : (Instr.field 34 (.agg #[.int .i64 k, .int .i64 n, .string s, .slice A m c]) 1).run Try.prog w = .ok (.int .i64 n) w := by kernel_rfl
theorem field34_0 (k n : Int) (s : ByteArray) (A : Option Addr) (m c : Nat) (w : World) : (Instr.field 34 (.agg #[.int .i64 k, .int .i64 n, .string s, .slice A m c]) 0).run Try.prog w = .ok (.int .i64 k) w := by kernel_rfl

set_option maxHeartbeats 4000000 in
theorem told17 (w : World) : Calls Try.prog 17 #[] w fun e w' => e = .returned (.bool true) ∧ Still w w' := by
  go_enter Try.func17, Try.ntmps17
  go_wp2_with fail
  have hA : Sl (w.alloc (.cells #[.string ⟨#[97]⟩, .int .i64 1, .int .i64 1, .string ⟨#[]⟩, .slice none 0 0, .string ⟨#[98]⟩, .int .i64 5, .int .i64 0, .string ⟨#[]⟩, .slice none 0 0] 37)) (· = w.heap.size) (some ⟨w.heap.size, 0, none⟩) tl :=
    Sl.new (l := tl) (n := 2) rfl rfl ⟨none, 0, _, rfl, Sl.nil _ _ _, ⟨none, 0, _, rfl, Sl.nil _ _ _, rfl⟩⟩ rfl
  have HA := Kp.mk hA; clear hA
  refine (put_ok tl (some ⟨w.heap.size, 0, none⟩) 2 _ _ (by decide) tl_ok HA.out).mono ?_
  rintro e w1 ⟨A1, c1, rfl, ho1, ht1⟩
  rw [tl_putE]
  rw [tl_putB] at ho1 ⊢
  have HO1 := Kp.mk ho1
  have hc1 := ho1.caps
  clear ho1
  have HT1 := Kp.mk ht1
  clear ht1
  go_wp2_with fail
  refine (get_ok _ A1 c1 _ _ w1 rfl (by simp) hc1.1 hc1.2 HO1.out.bs).mono ?_
  rintro e w2 ⟨A2, c2, rfl, hs2, ht2⟩
  rw [tl_getE]
  rw [tl_getL] at hs2 ⊢
  have HS2 := Kp.mk hs2; have HT2 := Kp.mk ht2; clear hs2 ht2
  go_wp2_with fail
  refine (get_ok [] none 0 _ (fun _ => True) w2 rfl (by simp) (by simp) (by simp) (Bs.nil _ _ _)).mono ?_
  rintro e w3 ⟨A3, c3, rfl, hs3, ht3⟩
  rw [nil_getE, nil_getL]
  have HT3 := Kp.mk ht3; clear hs3 ht3
  go_wp2_with fail
  have h4 : Sl (w3.alloc (.cells #[.string ⟨#[]⟩, .int .i64 0, .int .i64 0, .string ⟨#[]⟩, .slice none 0 0] 37)) (· = w3.heap.size) (some ⟨w3.heap.size, 0, none⟩) t0 :=
    Sl.new (l := t0) (n := 1) rfl rfl ⟨none, 0, _, rfl, Sl.nil _ _ _, rfl⟩ rfl
  refine (put_ok t0 (some ⟨w3.heap.size, 0, none⟩) 1 _ _ (by decide) t0_ok h4).mono ?_
  rintro e w4 ⟨A4, c4, rfl, ho4, ht4⟩
  rw [t0_putE]
  rw [t0_putB]
  have HT4 := Kp.mk ((Still.refl w3).alloc _ |>.strans ht4); clear ho4 ht4 h4
  have HS4 := Kp.mk (HS2.out.still (HT3.out.strans HT4.out))
  have HA4 := Kp.mk (HA.out.still (HT1.out.strans (HT2.out.strans (HT3.out.strans HT4.out))))
  have HW4 := Kp.mk (((Still.refl w).alloc _).strans (HT1.out.strans (HT2.out.strans (HT3.out.strans HT4.out))))
  have hcv := run_conv (c := c1) (HO1.out.bs.still (HT2.out.strans (HT3.out.strans HT4.out))) 15 rfl
  clear HS2 HA HO1 HT1 HT2 HT3 HT4
  go_wp2_with fail
  refine (same_ok tl tl A2 _ c2 _ (fun _ => True) w4 (by decide) (by decide) tl_ok tl_ok (HS4.out.weak (fun _ _ => trivial)) (HA4.out.weak (fun _ _ => trivial))).mono ?_
  rintro e w5 ⟨rfl, ht5⟩
  rw [show decide (tl = tl) = true from decide_eq_true rfl]
  have HW5 := Kp.mk (HW4.out.strans ht5)
  have HA5 := Kp.mk (HA4.out.still ht5); clear ht5 hcv
  clear HW4 HA4 HS4
  go_wp2_with fail
  refine (find_ok tl ⟨#[97]⟩ _ 2 _ w5 (by decide) HA5.out).mono ?_
  rintro e w6 ⟨A6, c6, rfl, hs6, ht6⟩
  rw [tl_a]
  have HW6 := Kp.mk (HW5.out.strans ht6)
  have HA6 := Kp.mk (HA5.out.still ht6); clear ht6 hs6 HA5 HW5
  have hf1 := field34_1 1 1 .empty A6 L.nil.len c6 w6
  go_wp2_with fail
  refine (find_ok tl ⟨#[99]⟩ _ 2 _ w6 (by decide) HA6.out).mono ?_
  rintro e w7 ⟨A7, c7, rfl, hs7, ht7⟩
  rw [tl_c]
  have HW7 := Kp.mk (HW6.out.strans ht7)
  clear ht7 hs7 HA6 HW6
  have hf2 := field34_0 It.zero.k It.zero.n It.zero.s A7 It.zero.it.len c7 w7
  go_wp2_with fail
  refine (may_ok .nil 0 0 .empty none 0 (fun _ => True) w7 (by decide) (by decide) trivial (Sl.nil _ _ _)).mono ?_
  rintro e w8 ⟨rfl, ht8⟩
  rw [show kindOk 0 0 ByteArray.empty.size L.nil.len (L.nil.mayTab 1) = true from by decide]
  have HW8 := Kp.mk (HW7.out.strans ht8)
  clear ht8 HW7
  go_wp2_with fail
  refine (may_ok .nil 9 0 .empty none 0 (fun _ => True) w8 (by decide) (by decide) trivial (Sl.nil _ _ _)).mono ?_
  rintro e w9 ⟨rfl, ht9⟩
  rw [show kindOk 9 0 ByteArray.empty.size L.nil.len (L.nil.mayTab 1) = false from by decide]
  have HW9 := Kp.mk (HW8.out.strans ht9)
  clear ht9 HW8
  go_wp2_with fail
  go_ret
  exact ⟨rfl, HW9.out⟩
end Go.Proofs.Ytaeainkfllfdfaa
/- B13: The walk of ValueKinds. -/
namespace Go.Proofs.Ytaeainkfllfdfaa
open Go.RowKit
set_option linter.unusedVariables false
set_option linter.unusedSimpArgs false
set_option maxRecDepth 100000

theorem kindOk_num (K n : Int) (h : 0 ≤ K) : kindOk K n ByteArray.empty.size L.nil.len (L.mayTab 1 .nil) = decide (K = 3 ∨ (n = 0 ∧ K ≤ 5) ∨ (K = 1 ∧ n = 1) ∨ (K = 2 ∧ -2147483648 ≤ n ∧ n < 2147483648)) := by
  rw [Bool.eq_iff_iff, show L.mayTab 1 .nil = true from by decide, show ByteArray.empty.size = 0 from rfl, show L.nil.len = 0 from rfl]
  unfold kindOk
  simp only [decide_eq_true_eq]
  split
  · simp; omega
  split
  · simp only [decide_eq_true_eq]; omega
  split
  · simp only [decide_eq_true_eq]; omega
  split
  · simp only [true_iff]; omega
  split
  · simp only [decide_eq_true_eq]; omega
  split
  · simp only [decide_eq_true_eq]; omega
  split
  · simp only [Bool.and_true, decide_eq_true_eq]; omega
  · simp only [Bool.false_eq_true, false_iff]; omega
theorem kindOk_txt (K : Int) (s : ByteArray) (h : 0 ≤ K) : kindOk K 0 s.size L.nil.len (L.mayTab 1 .nil) = decide (K ≤ 5 ∧ (s.size = 0 ∨ (K = 4 ∧ s.size ≤ 200))) := by
  rw [Bool.eq_iff_iff, show L.mayTab 1 .nil = true from by decide, show L.nil.len = 0 from rfl]
  unfold kindOk
  generalize s.size = m
  simp only [decide_eq_true_eq]
  split
  · simp only [Bool.false_eq_true, false_iff]; omega
  split
  · simp only [true_or, decide_true, true_iff]; omega
  split
  · simp only [show ((-2147483648 : Int) ≤ 0 ∧ (0 : Int) ≤ 2147483647) = True from by simp, decide_true, true_iff]; omega
  split
  · simp only [true_iff]; omega
  split
  · simp only [decide_true, true_iff]; omega
  split
  · simp only [true_and, decide_eq_true_eq]; omega
  split
  · simp only [decide_true, Bool.and_true, true_iff]; omega
  · simp only [Bool.false_eq_true, false_iff]; omega
theorem rem7 (kind : Int) : 0 ≤ wrap64 ((IntKind.u64.wrap kind).tmod 7) ∧ wrap64 ((IntKind.u64.wrap kind).tmod 7) ≤ 6 := by
  have h0 : 0 ≤ IntKind.u64.wrap kind := by simp only [IntKind.wrap]; exact Int.emod_nonneg _ (by decide)
  rw [Int.tmod_eq_emod_of_nonneg h0]
  unfold wrap64
  omega

set_option maxHeartbeats 8000000 in
theorem kinds8 (kind n : Int) (s : ByteArray) (w : World) (hs : s.size ≤ 140737488351232) : Calls Try.prog 8 #[.int .i64 kind, .int .i64 n, .string s] w fun e w' => e = .returned (.bool true) ∧ Still w w' := by
  by_cases hlong : 300 < s.size
  · go_enter Try.func8, Try.ntmps8
    go_wp2_with fail
    refine (told17 w).mono ?_
    rintro e w1 ⟨rfl, ht1⟩
    have HT1 := Kp.mk ht1; clear ht1
    go_wp2_with fail
    go_ret
    exact ⟨rfl, HT1.out⟩
  · have hz0 := size_zero s
    have hr := rem7 kind
    have HR := Kp.mk hr; clear hr
    have HZ := Kp.mk hz0; clear hz0
    go_enter Try.func8, Try.ntmps8
    go_wp2_with fail
    all_goals refine (told17 _).mono ?_
    all_goals rintro e w1 ⟨rfl, ht1⟩
    all_goals have x0 := ht1.scell (a := ⟨w.heap.size, 0, none⟩) (by go_simp; exact rfl)
    all_goals have x1 := ht1.scell (a := ⟨w.heap.size, 1, none⟩) (by go_simp; exact rfl)
    all_goals have x2 := ht1.scell (a := ⟨w.heap.size, 2, none⟩) (by go_simp; exact rfl)
    all_goals have x3 := ht1.scell (a := ⟨w.heap.size, 3, none⟩) (by go_simp; exact rfl)
    all_goals have y0 := ht1.scell (a := ⟨w.heap.size + 1, 0, none⟩) (by go_simp; exact rfl)
    all_goals have y1 := ht1.scell (a := ⟨w.heap.size + 1, 1, none⟩) (by go_simp; exact rfl)
    all_goals have y2 := ht1.scell (a := ⟨w.heap.size + 1, 2, none⟩) (by go_simp; exact rfl)
    all_goals have y3 := ht1.scell (a := ⟨w.heap.size + 1, 3, none⟩) (by go_simp; exact rfl)
    all_goals have HT1 := Kp.mk (((Still.refl w).alloc _).alloc _ |>.strans ht1)
    all_goals clear ht1
    all_goals go_wp2_with fail
    all_goals refine (may_ok .nil _ _ .empty none 0 (fun _ => True) _ (by decide) (by decide) trivial (Sl.nil _ _ _)).mono ?_
    all_goals rintro e w2 ⟨rfl, ht2⟩
    all_goals have y0 := ht2.scell y0
    all_goals have y1 := ht2.scell y1
    all_goals have y2 := ht2.scell y2
    all_goals have y3 := ht2.scell y3
    all_goals have HT2 := Kp.mk (HT1.out.strans ht2)
    all_goals clear x0 x1 x2 x3 ht2
    all_goals rw [kindOk_num _ _ (by first | exact HR.out.1 | omega)]
    all_goals (obtain ⟨HR⟩ := HR; obtain ⟨HZ⟩ := HZ)
    all_goals first | rw [decide_eq_true (by omega)] | rw [decide_eq_false (by omega)] | (by_cases hh : n < 2147483648 <;> first | rw [decide_eq_true (by omega)] | rw [decide_eq_false (by omega)])
    all_goals have HR := Kp.mk HR
    all_goals have HZ := Kp.mk HZ
    all_goals go_wp2_with fail
    all_goals refine (may_ok .nil _ 0 s none 0 (fun _ => True) _ hs (by decide) trivial (Sl.nil _ _ _)).mono ?_
    all_goals rintro e w3 ⟨rfl, ht3⟩
    all_goals have HT3 := Kp.mk (HT2.out.strans ht3)
    all_goals clear ht3
    all_goals rw [kindOk_txt _ _ (by first | exact HR.out.1 | omega)]
    all_goals (obtain ⟨HR⟩ := HR; obtain ⟨HZ⟩ := HZ)
    all_goals first | rw [decide_eq_true (by first | omega | (simp only [HZ] at *; omega))] | rw [decide_eq_false (by first | omega | (simp only [HZ] at *; omega))] | (by_cases hh : s.size ≤ 200 <;> first | rw [decide_eq_true (by first | omega | (simp only [HZ] at *; omega))] | rw [decide_eq_false (by first | omega | (simp only [HZ] at *; omega))])
    all_goals have HR := Kp.mk HR
    all_goals have HZ := Kp.mk HZ
    all_goals go_wp2_with fail
    all_goals go_ret
    all_goals first | exact ⟨rfl, HT3.out⟩ | (refine ⟨ret_bool ?_, HT3.out⟩; go_light; simp; first | assumption | omega | ((repeat' apply And.intro) <;> first | assumption | omega | (intros; omega)))
end Go.Proofs.Ytaeainkfllfdfaa
/- A4: A table that may be comes back from its bytes: the plain reader reads what the plain writer wrote. No program in sight. -/
namespace Go.Proofs.Ytaeainkfllfdfaa
open Go.RowKit
set_option linter.unusedVariables false
set_option linter.unusedSimpArgs false

theorem val_cons (c : UInt8) (bs : List UInt8) : val (c :: bs) = c.toNat * 256 ^ bs.length + val bs := by
  have key : ∀ (l : List UInt8) (n : Nat), l.foldl (fun n c => n * 256 + c.toNat) n = n * 256 ^ l.length + l.foldl (fun n c => n * 256 + c.toNat) 0 := by
    intro l
    induction l with
    | nil => intro n; simp
    | cons d l ih =>
      intro n
      simp only [List.foldl_cons, List.length_cons]
      rw [ih (n * 256 + d.toNat), ih (0 * 256 + d.toNat)]
      rw [Nat.pow_succ, Nat.add_mul, Nat.add_mul, Nat.mul_assoc, Nat.mul_comm 256]
      omega
  unfold val
  rw [List.foldl_cons, key]
  simp
theorem val_be (n : Nat) : ∀ k, val (be n k) = n % 256 ^ k
  | 0 => by simp [be, val, Nat.mod_one]
  | k + 1 => by
    have e : n % 256 ^ (k + 1) = n % 256 ^ k + 256 ^ k * (n / 256 ^ k % 256) := by rw [Nat.pow_succ, Nat.mod_mul]
    rw [be, val_cons, be_length, val_be n k, UInt8.toNat_ofNat', e]
    rw [Nat.add_comm, Nat.mul_comm]
theorem raw_app (xs rest : List UInt8) : Rd.raw ⟨xs ++ rest, false⟩ xs.length = (xs, ⟨rest, false⟩) := by
  unfold Rd.raw
  rw [if_neg (by simp)]
  simp
theorem raw_app' (xs rest : List UInt8) (n : Nat) (h : xs.length = n) : Rd.raw ⟨xs ++ rest, false⟩ n = (xs, ⟨rest, false⟩) := by subst h; exact raw_app xs rest
theorem num_be (n k : Nat) (rest : List UInt8) : Rd.num ⟨be n k ++ rest, false⟩ k = (n % 256 ^ k, ⟨rest, false⟩) := by
  unfold Rd.num
  rw [raw_app' _ _ _ (be_length n k), val_be]
theorem num_one (c : UInt8) (rest : List UInt8) : Rd.num ⟨c :: rest, false⟩ 1 = (c.toNat, ⟨rest, false⟩) := by
  unfold Rd.num
  rw [show c :: rest = [c] ++ rest from rfl, raw_app' [c] rest 1 rfl]
  simp [val]
theorem ba_eta (s : ByteArray) : (⟨s.data.toList.toArray⟩ : ByteArray) = s := by cases s; simp
theorem ba_nil {s : ByteArray} (h : s.size = 0) : s = .empty := ByteArray.ext (Array.eq_empty_of_size_eq_zero h)
theorem letter_kind (k : Int) (h0 : 0 ≤ k) (h5 : k ≤ 5) : kindOf (letter k).toNat = k := by
  have : k = 0 ∨ k = 1 ∨ k = 2 ∨ k = 3 ∨ k = 4 ∨ k = 5 := by omega
  rcases this with rfl | rfl | rfl | rfl | rfl | rfl <;> decide
theorem u64w_mod (n : Int) : ((u64w n : Nat) : Int) = n % 18446744073709551616 := by
  rw [← u64w_eq]
  simp only [IntKind.wrap, IntKind.signed, Bool.false_and]; rfl

theorem value_back {tab : Rd → L × Rd} (k n : Int) (s : ByteArray) (it : L) (sub : Bool) (rest : List UInt8) (hk : kindOk k n s.size it.len sub = true) (hn1 : -9223372036854775808 ≤ n) (hn2 : n ≤ 9223372036854775807)
    (htab : k = 5 → sub = true → tab ⟨it.enc ++ rest, false⟩ = (it, ⟨rest, false⟩)) :
    Rd.value tab ⟨encBody k n s it.enc ++ rest, false⟩ = (⟨.empty, k, n, s, it⟩, ⟨rest, false⟩) := by
  obtain ⟨k0, k5⟩ := kindOk_kind hk
  unfold encBody Rd.value
  rw [List.cons_append, num_one]
  simp only
  rw [letter_kind k k0 k5]
  unfold kindOk at hk
  by_cases hbad : k ≠ 4 ∧ s.size ≠ 0 ∨ k ≠ 5 ∧ 0 < it.len
  · rw [if_pos hbad] at hk; cases hk
  rw [if_neg hbad] at hk
  have hs : k ≠ 4 → s = .empty := fun h => ba_nil (by omega)
  have hit : k ≠ 5 → it = .nil := fun h => L.len_zero (by omega)
  by_cases h1 : k = 1
  · subst h1
    rw [hs (by omega), hit (by omega)]
    simp only [if_true, decide_eq_true_eq] at hk ⊢
    rw [List.singleton_append, num_one]
    rcases hk with rfl | rfl
    · simp only [Prod.mk.injEq, It.mk.injEq, true_and, and_true]; decide +kernel
    · simp only [Prod.mk.injEq, It.mk.injEq, true_and, and_true]; decide +kernel
  by_cases h2 : k = 2
  · subst h2
    rw [hs (by omega), hit (by omega)]
    simp at hk
    simp only [if_true, show (2 : Int) ≠ 1 from by decide, if_false]
    rw [num_be]
    simp only [Prod.mk.injEq, and_true, It.mk.injEq, true_and]
    have hu := u64w_mod n
    unfold wrap32 wrap64
    have e : ((u64w n % 256 ^ 4 : Nat) : Int) = ((u64w n : Nat) : Int) % 4294967296 := by rw [Int.natCast_emod]; rfl
    rw [e, hu]
    omega
  by_cases h3 : k = 3
  · subst h3
    rw [hs (by omega), hit (by omega)]
    simp only [if_true, show (3 : Int) ≠ 1 from by decide, show (3 : Int) ≠ 2 from by decide, if_false]
    rw [num_be]
    simp only [Prod.mk.injEq, and_true, It.mk.injEq, true_and]
    have hu := u64w_mod n
    unfold wrap64
    have e : ((u64w n % 256 ^ 8 : Nat) : Int) = ((u64w n : Nat) : Int) % 18446744073709551616 := by rw [Int.natCast_emod]; rfl
    rw [e, hu]
    omega
  by_cases h4 : k = 4
  · subst h4
    rw [hit (by omega)]
    simp at hk
    obtain ⟨rfl, hsz⟩ := hk
    simp only [if_true, show (4 : Int) ≠ 1 from by decide, show (4 : Int) ≠ 2 from by decide, show (4 : Int) ≠ 3 from by decide, if_false]
    rw [List.append_assoc, num_be]
    simp only
    rw [raw_app' _ _ _ (by rw [Array.length_toList, Nat.mod_eq_of_lt (by omega)]; rfl)]
  by_cases h5 : k = 5
  · subst h5
    rw [hs (by omega)]
    simp at hk
    obtain ⟨rfl, rfl⟩ := hk
    simp only [if_true, show (5 : Int) ≠ 1 from by decide, show (5 : Int) ≠ 2 from by decide, show (5 : Int) ≠ 3 from by decide, show (5 : Int) ≠ 4 from by decide, if_false]
    rw [htab rfl rfl]
  · have h0 : k = 0 := by omega
    subst h0
    rw [hs (by omega), hit (by omega)]
    simp at hk
    subst hk
    rfl

theorem item_back {tab : Rd → L × Rd} (d : Nat) (seen : List ByteArray) (x : It) (hO : x.Ok) (h : x.ok d seen = true) (rest : List UInt8) (htab : x.it.mayTab (d + 1) = true → x.k = 5 → tab ⟨x.it.enc ++ rest, false⟩ = (x.it, ⟨rest, false⟩)) :
    Rd.item tab ⟨x.enc ++ rest, false⟩ = (x, ⟨rest, false⟩) := by
  unfold It.ok It.may at h
  simp only [Bool.and_eq_true, decide_eq_true_eq] at h
  obtain ⟨⟨⟨h1, h2⟩, _⟩, h3⟩ := h
  unfold Rd.item It.enc
  rw [List.cons_append, List.cons_append, num_one]
  simp only
  rw [List.append_assoc, raw_app' _ _ _ (by rw [Array.length_toList, UInt8.toNat_ofNat', Nat.mod_eq_of_lt (by omega)]; rfl)]
  simp only
  unfold It.encV
  rw [value_back x.k x.n x.s x.it (x.it.mayTab (d + 1)) rest h3 hO.1.2.2.2.2.2.1 hO.1.2.2.2.2.2.2 (fun a b => htab b a)]

theorem items_back {tab : Rd → L × Rd} (d : Nat) : ∀ (l : L) (seen : List ByteArray) (f : Nat) (acc : L), l.Ok → l.mayIts d seen = true → l.len ≤ f → acc.len + l.len ≤ 32 →
    (∀ i, i < l.len → (l.get i).it.mayTab (d + 1) = true → (l.get i).k = 5 → ∀ rest, tab ⟨(l.get i).it.enc ++ rest, false⟩ = ((l.get i).it, ⟨rest, false⟩)) →
    Rd.items tab f acc ⟨l.encI, false⟩ = (acc.app l, ⟨[], false⟩)
  | .nil, _, f, acc, _, _, _, _, _ => by
    rw [L.app_nil]
    exact Rd.items_stop (fun h => h.2.1 rfl)
  | .cons nm k n s it rest, seen, f, acc, hO, hm, hf, hl, ht => by
    obtain ⟨f, rfl⟩ : ∃ g, f = g + 1 := ⟨f - 1, by simp only [L.len] at hf; omega⟩
    simp only [L.mayIts, Bool.and_eq_true] at hm
    have hx : (⟨nm, k, n, s, it⟩ : It).ok d seen = true := by
      unfold It.ok It.may L.mayTab
      simp only [Bool.and_eq_true]
      exact hm.1
    have e1 : (L.cons nm k n s it rest).encI = (⟨nm, k, n, s, it⟩ : It).enc ++ rest.encI := by simp only [L.encI, It.enc, It.encV, L.enc]
    have hi := item_back (tab := tab) d seen ⟨nm, k, n, s, it⟩ ⟨hO.1, hO.2.1⟩ hx rest.encI (fun a b => ht 0 (by simp only [L.len]; omega) a b rest.encI)
    rw [Rd.items, if_pos ⟨rfl, by rw [e1]; simp [It.enc], by simp only [L.len] at hl; omega⟩]
    rw [e1, hi]
    have hr := items_back (tab := tab) d rest (nm :: seen) f (acc.app (L.one ⟨nm, k, n, s, it⟩)) hO.2.2 hm.2 (by simp only [L.len] at hf; omega) (by rw [L.len_app, L.len_one]; simp only [L.len] at hl; omega)
      (fun i hi a b r => ht (i + 1) (by simp only [L.len]; omega) a b r)
    simp only
    rw [hr, L.app_assoc]
    rfl

theorem table_back : ∀ (j : Nat) (d : Nat) (l : L) (rest : List UInt8), 5 ≤ d + j → l.Ok → l.mayTab d = true → l.encI.length < 4294967296 → Rd.table j d ⟨l.enc ++ rest, false⟩ = (l, ⟨rest, false⟩)
  | 0, d, l, rest, hj, hO, hm, hb => by
    simp only [L.mayTab, Bool.and_eq_true, decide_eq_true_eq] at hm
    omega
  | j + 1, d, l, rest, hj, hO, hm, hb => by
    have hm0 := hm
    simp only [L.mayTab, Bool.and_eq_true, decide_eq_true_eq] at hm
    unfold Rd.table L.enc
    rw [List.append_assoc, num_be]
    simp only
    rw [raw_app' _ _ _ (by rw [Nat.mod_eq_of_lt (by omega)])]
    simp only [show decide (4 < d) = false from decide_eq_false (by omega), Bool.or_false]
    rw [items_back d l [] 33 .nil hO hm.2 (by omega) (by simp only [L.len]; omega) (fun i hi a b r => table_back j (d + 1) (l.get i).it r (by omega) (hO.get i hi).2 a ?_)]
    · rfl
    · have h1 := L.encI_le l (i + 1)
      rw [L.encI_succ l i hi, List.length_append] at h1
      have h2 := It.enc_length (l.get i)
      have h3 : (l.get i).it.encI.length ≤ (l.get i).encV.length := by
        unfold It.encV encBody
        rw [b]
        simp [L.enc]
        omega
      omega

theorem get_put {l : L} (hO : l.Ok) (hm : l.mayTab 1 = true) (hb : l.enc.length ≤ 3000) : getL l.enc = l ∧ getE l.enc = 0 := by
  have h1 := table_back 5 1 l [] (by omega) hO hm (by have : l.encI.length ≤ l.enc.length := by simp [L.enc]
                                                      omega)
  rw [List.append_nil] at h1
  have h2 : getR l.enc = (l, ⟨[], false⟩) := h1
  have h3 : getOk l.enc = true := by
    unfold getOk
    rw [h2]
    simp [L.putE, L.putB, hm, show ¬ 3000 < l.enc.length by omega]
  unfold getL getE
  rw [h3, h2]
  exact ⟨rfl, rfl⟩
end Go.Proofs.Ytaeainkfllfdfaa
/- B14: The walk of ValueDeep. -/
namespace Go.Proofs.Ytaeainkfllfdfaa
open Go.RowKit
set_option linter.unusedVariables false
set_option linter.unusedSimpArgs false
set_option maxRecDepth 100000

/-- Tables within tables. -/
def nest (name : ByteArray) : Nat → L
  | 0 => .nil
  | j + 1 => .cons name 5 0 .empty (nest name j) .nil
theorem nest_ok (name : ByteArray) (h : name.size ≤ 40) : ∀ j, (nest name j).Ok
  | 0 => trivial
  | j + 1 => ⟨⟨by omega, Nat.zero_le _, by cases j <;> simp [nest, L.len], by decide, by decide, by decide, by decide⟩, nest_ok name h j, trivial⟩
theorem nest_len (name : ByteArray) (j : Nat) : (nest name j).len ≤ 1 := by cases j <;> simp [nest, L.len]
theorem nest_may (name : ByteArray) (h1 : 1 ≤ name.size) (h2 : name.size ≤ 40) : ∀ j d, (nest name j).mayTab d = decide (d + j ≤ 4)
  | 0, d => by
    rw [Bool.eq_iff_iff]
    simp [nest, L.mayTab, L.mayIts, L.len]
  | j + 1, d => by
    have h := nest_may name h1 h2 j (d + 1)
    unfold L.mayTab at h
    unfold L.mayTab nest L.mayIts
    rw [h]
    have hl := nest_len name j
    rw [Bool.eq_iff_iff]
    simp [L.mayIts, L.len, seenB, kindOk, h1, h2]
    omega
theorem nest_encI (name : ByteArray) (h2 : name.size ≤ 40) : ∀ j, (nest name j).encI.length ≤ 46 * j
  | 0 => by simp [nest, L.encI]
  | j + 1 => by
    have h := nest_encI name h2 j
    simp [nest, L.encI, encBody, be_length]
    have : name.data.size = name.size := rfl
    omega

set_option maxHeartbeats 8000000 in
theorem deep5 (n : Int) (name : ByteArray) (w : World) (hs : name.size ≤ 140737488351232) : Calls Try.prog 5 #[.int .i64 n, .string name] w fun e w' => e = .returned (.bool true) ∧ Still w w' := by
  by_cases hbad : name.size < 1 ∨ 40 < name.size
  · by_cases h1 : name.size < 1
    · go_enter Try.func5, Try.ntmps5
      go_wp2_with fail
      refine (told17 w).mono ?_
      rintro e w1 ⟨rfl, ht1⟩
      have HT1 := Kp.mk ht1; clear ht1
      go_wp2_with fail
      go_ret
      exact ⟨rfl, HT1.out⟩
    · have h2 : 40 < name.size := by omega
      go_enter Try.func5, Try.ntmps5
      go_wp2_with fail
      refine (told17 w).mono ?_
      rintro e w1 ⟨rfl, ht1⟩
      have HT1 := Kp.mk ht1; clear ht1
      go_wp2_with fail
      go_ret
      exact ⟨rfl, HT1.out⟩
  have h1 : 1 ≤ name.size := by omega
  have h2 : name.size ≤ 40 := by omega
  clear hbad
  obtain ⟨m, hm, hm6⟩ : ∃ m : Nat, wrap64 ((IntKind.u64.wrap n).tmod 7) = m ∧ m ≤ 6 := by
    have := rem7 n
    exact ⟨(wrap64 ((IntKind.u64.wrap n).tmod 7)).toNat, by omega, by omega⟩
  have HOK := Kp.mk (nest_ok name h2)
  have HMAY := Kp.mk (nest_may name h1 h2)
  have HENC := Kp.mk (nest_encI name h2)
  go_enter Try.func5, Try.ntmps5
  go_wp2_with fail
  go_loopw [6, 7] (fun v i wr => ∃ (j : Nat) (A : Option Addr) (c : Nat), j ≤ m ∧ i = .int .i64 ((j : Int) + 1) ∧ v = .slice A (nest name j).len c ∧ Kp (Sl wr (fun b => w.heap.size ≤ b) A (nest name j)) ∧ Kp (Still w wr)) (fun _ i _ => (m + 2 - intOf i).toNat)
  case atStart => exact ⟨0, none, 0, by omega, rfl, rfl, ⟨Sl.nil _ _ _⟩, ⟨Still.refl _⟩⟩
  case round =>
    obtain ⟨j, A, c, hj, rfl, rfl, HS, HT⟩ := hrel
    by_cases hlt : j < m
    · go_wp2_with fail
      go_roundw
      case rel =>
        refine ⟨j + 1, _, _, by omega, by go_num, rfl, ⟨?_⟩, ⟨HT.out.alloc _⟩⟩
        exact Sl.new (l := nest name (j + 1)) (n := 1) rfl rfl ⟨A, c, _, rfl, HS.out.still ((Still.refl _).alloc _), rfl⟩ HT.out.size
      case measure => go_light; simp only [intOf]; omega
    · have : j = m := by omega
      subst this
      clear hlt
      go_wp2_with fail
      have hl1 := nest_len name j
      have hmt := HMAY.out j 1
      by_cases hj3 : j ≤ 3
      · have hen := HENC.out j
        have e1 : (nest name j).putE = 0 := by
          unfold L.putE
          rw [hmt, if_pos (decide_eq_true (by omega)), if_neg (by simp [L.enc, be_length]; omega)]
        have e2 : (nest name j).putB = (nest name j).enc := by
          unfold L.putB
          rw [hmt, if_pos (decide_eq_true (by omega)), if_neg (by simp [L.enc, be_length]; omega)]
        obtain ⟨g1, g2⟩ := get_put (HOK.out j) (hmt.trans (decide_eq_true (by omega))) (by simp [L.enc, be_length]; omega)
        have hle : (nest name j).enc.length ≤ 140737488351232 := by simp [L.enc, be_length]; omega
        have HG := Kp.mk g1; have HG2 := Kp.mk g2; have HLE := Kp.mk hle; clear g1 g2 hmt hen hle
        refine (put_ok (nest name j) A c _ wr (by omega) (HOK.out j) HS.out).mono ?_
        rintro e w1 ⟨A1, c1, rfl, ho1, ht1⟩
        rw [e2] at ho1 ⊢
        rw [e1]
        clear e1 e2
        have HO1 := Kp.mk ho1
        have hc1 := ho1.caps
        have HT1 := Kp.mk (HT.out.strans ht1)
        have HS1 := Kp.mk (HS.out.still ht1); clear ho1 ht1 HS HT
        go_wp2_with fail
        refine (get_ok _ A1 c1 _ _ w1 rfl HLE.out hc1.1 hc1.2 HO1.out.bs).mono ?_
        rintro e w2 ⟨A2, c2, rfl, hs2, ht2⟩
        rw [HG2.out]
        rw [HG.out] at hs2 ⊢
        have HS2 := Kp.mk hs2
        have HT2 := Kp.mk (HT1.out.strans ht2)
        have HS3 := Kp.mk (HS1.out.still ht2); clear hs2 ht2 HS1 HT1
        go_wp2_with fail
        refine (told17 w2).mono ?_
        rintro e w3 ⟨rfl, ht3⟩
        have HS4 := Kp.mk (HS2.out.still ht3)
        have HT4 := Kp.mk (HT2.out.strans ht3)
        have HS5 := Kp.mk (HS3.out.still ht3); clear ht3 HS2 HS3 HT2
        go_wp2_with fail
        refine (same_ok (nest name j) (nest name j) A2 A c2 c (fun _ => True) w3 (by omega) (by omega) (HOK.out j) (HOK.out j) (HS4.out.weak (fun _ _ => trivial)) (HS5.out.weak (fun _ _ => trivial))).mono ?_
        rintro e w4 ⟨rfl, ht4⟩
        rw [decide_eq_true (rfl : nest name j = nest name j)]
        have HT5 := Kp.mk (HT4.out.strans ht4); clear ht4
        go_wp2_with fail
        go_ret
        exact ⟨rfl, HT5.out⟩
      · have e1 : (nest name j).putE = 1 := by
          unfold L.putE
          rw [hmt, if_neg (by simp; omega)]
        have e2 : (nest name j).putB = [] := by
          unfold L.putB
          rw [hmt, if_neg (by simp; omega)]
        clear hmt
        refine (put_ok (nest name j) A c _ wr (by omega) (HOK.out j) HS.out).mono ?_
        rintro e w1 ⟨A1, c1, rfl, ho1, ht1⟩
        rw [e2, e1]
        clear e1 e2 ho1
        have HT1 := Kp.mk (HT.out.strans ht1); clear ht1 HS HT
        go_wp2_with fail
        refine (told17 w1).mono ?_
        rintro e w3 ⟨rfl, ht3⟩
        have HT4 := Kp.mk (HT1.out.strans ht3); clear ht3
        go_wp2_with fail
        go_ret
        exact ⟨rfl, HT4.out⟩
end Go.Proofs.Ytaeainkfllfdfaa
