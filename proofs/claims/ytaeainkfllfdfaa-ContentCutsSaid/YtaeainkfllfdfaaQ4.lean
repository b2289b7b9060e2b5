/- Contracts of the functions that the statement reaches, each walked once, and the plain laws over them, for every input that their premises name (B8). -/
import Derived.Test.YtaeainkfllfdfaaQ3
import Derived.Lib.BytesEntry
import Derived.Lib.SlBytesConst
/- B8: Bytes turned to texts, the letters' places, and the contract of value.reader's value. -/
namespace Go.Proofs.Ytaeainkfllfdfaa
open Go.RowKit
set_option linter.unusedVariables false
set_option linter.unusedSimpArgs false
set_option maxRecDepth 100000

/-- 'string(b)'. -/
theorem run_conv {W : World} {S : Nat → Prop} {A : Option Addr} {c : Nat} {bs : List UInt8} (h : Bs W S A bs) (n : Nat) (hn : n = bs.length) :
    (convert 25 9 (.slice A n c)).run Try.prog W = .ok (.string ⟨bs.toArray⟩) W := by
  subst hn
  cases A with
  | none =>
    rcases h with rfl | ⟨b, o, e, _⟩
    · rw [run_convert_bytes_nil (P := Try.prog) W 25 5 Try.underlying25 Try.underlying5 _ c 9 Try.underlying9]; rfl
    · cases e
  | some a =>
    rcases h with rfl | ⟨b, o, e, hb, hc⟩
    · rw [run_convert_bytes_string (P := Try.prog) W 25 9 5 (some a) _ c Try.underlying25 Try.underlying5 Try.underlying9]
      have := run_bytesToString (P := Try.prog) W a 0 c [] (by simp [loadCells, loadCellsFrom])
      simp only [List.length_nil] at this ⊢
      rw [this]; rfl
    · cases e
      have hnum : (bs.map fun c => (c.toNat : Int)).length = bs.length := by simp
      rw [run_convert_bytes_arg (P := Try.prog) W 25 5 Try.underlying25 Try.underlying5 b o bs.length c (bs.map fun c => (c.toNat : Int)) hnum (fun i hi => by rw [hc i hi]; simp [List.getD, hi]) 9 Try.underlying9]
      have : (strOfNums (bs.map fun c => (c.toNat : Int))) = ⟨bs.toArray⟩ := by
        simp [strOfNums, Function.comp_def]
      rw [this]

theorem kindOf_all : ∀ m : Fin 256, Lib.indexByte [86, 116, 73, 108, 83, 70] (UInt8.ofNat m.val) = kindOf m.val := by decide
theorem kindOf_mod (n : Nat) : kindOf (n % 256) = kindOf n := by simp [kindOf]
theorem u8_mod (n : Nat) : IntKind.u8.wrap (n : Int) = ((n % 256 : Nat) : Int) := by
  simp only [IntKind.wrap, IntKind.signed, Bool.false_and]; rfl

set_option maxHeartbeats 1000000 in
theorem index91 (b m : Nat) (M : Int) (w : World) (hM : M = m) (hm : m < 256) (h : ∀ i, i < 6 → w.cell? ⟨b, 0 + i, none⟩ = some (.int .u8 (([86, 116, 73, 108, 83, 70] : List Int).getD i 0))) :
    Calls Try.prog 91 #[.slice (some ⟨b, 0, none⟩) 6 6, .int .u8 M] w fun e w' => e = .returned (.int .i64 (kindOf m)) ∧ w = w' := by
  subst hM
  have HK := Kp.mk (kindOf_all ⟨m, hm⟩)
  go_enter Try.func91, Try.ntmps91
  go_wp2_with fail
  rw [run_callFunc_extern Try.func94 (by kernel_rfl) (by kernel_rfl) (by kernel_rfl) (e := Extern.BytealgIndexByte.indexByte) (by kernel_rfl), Lib.run_indexByteSlice w b 0 6 6 _ rfl h _]
  simp only [Result.andThen]
  rw [Oper.upon_value]
  go_wp2
  go_ret
  refine ⟨?_, rfl⟩
  have e1 : Lib.bytesOf [86, 116, 73, 108, 83, 70] = [86, 116, 73, 108, 83, 70] := rfl
  rw [← HK.out]
  rfl

theorem RdAt.tch {w w1 : World} {R : Nat} {S T : Nat → Prop} {r : Rd} (h : RdAt w R S r) (k : Tch T w w1) (hR : ¬ T R) (hS : ∀ b, S b → ¬ T b) : RdAt w1 R S r := by
  obtain ⟨A, c, h0, h1, f0, f1, hB, hc, hc2⟩ := h
  have hlt := World.block_lt_of_cell? w _ h0
  exact ⟨A, c, k.cell h0 hR, k.cell h1 hR, (k.frozen (a := ⟨R, 0, none⟩) hlt hR).trans f0, (k.frozen (a := ⟨R, 1, none⟩) hlt hR).trans f1, hB.tch k hS, hc, hc2⟩
theorem RdAt.still {w w1 : World} {R : Nat} {S : Nat → Prop} {r : Rd} (h : RdAt w R S r) (k : Still w w1) : RdAt w1 R S r := h.tch k (fun f => f) (fun _ _ f => f)

/-- What the table reader leaves. -/
def RetTab (w : World) (R : Nat) (S : Nat → Prop) (x : L × Rd) (e : Ending) (w' : World) : Prop :=
  ∃ A c, e = .returned (.slice A x.1.len c) ∧ Sl w' (fun b => w.heap.size ≤ b) A x.1 ∧ RdAt w' R S x.2 ∧ Tch (· = R) w w'
/-- The contract of a reader of tables, at one depth. -/
def TabRC (j deep : Nat) : Prop := ∀ (R : Nat) (S : Nat → Prop) (r : Rd) (D : Int) (w : World), D = deep → RdAt w R S r → ¬ S R → R < w.heap.size → (∀ b, S b → b < w.heap.size) →
  Calls Try.prog 42 #[.pointer (some ⟨R, 0, none⟩), .int .i64 D] w (RetTab w R S (Rd.table j deep r))
theorem TabRC.use {j deep : Nat} (h : TabRC j deep) (R : Nat) (S : Nat → Prop) (r : Rd) (D : Int) (w : World) (h1 : D = deep) (h2 : RdAt w R S r) (h3 : ¬ S R) (h4 : R < w.heap.size) (h5 : ∀ b, S b → b < w.heap.size) :
  Calls Try.prog 42 #[.pointer (some ⟨R, 0, none⟩), .int .i64 D] w (RetTab w R S (Rd.table j deep r)) := h R S r D w h1 h2 h3 h4 h5
/-- What the value reader leaves. -/
def RetVal2 (w : World) (R : Nat) (S : Nat → Prop) (x : It × Rd) (e : Ending) (w' : World) : Prop :=
  ∃ A c, e = .returned (.agg #[.int .i64 x.1.k, .int .i64 x.1.n, .string x.1.s, .slice A x.1.it.len c]) ∧ Sl w' (fun b => w.heap.size ≤ b) A x.1.it ∧ RdAt w' R S x.2 ∧ Tch (· = R) w w'

theorem cell_new' {W : World} {cs : Array Value} {e : TypeId} {fr : Nat × Nat} {b j : Nat} {v : Value} (hb : W.heap.size = b) (hj : cs[j]? = some v) : (W.alloc (.cells cs e fr)).cell? ⟨b, j, none⟩ = some v := by
  subst hb
  rw [cell_of_row _ W.heap.size j cs e fr (heap_alloc_new W _)]; exact hj
theorem conv_const (w : World) (O : Obj) (C : Array Value) (n c : Nat) : (convert 25 25 (.slice (some ⟨w.heap.size + 1, 0, none⟩) n c)).run Try.prog ((w.alloc O).alloc (.cells C 5)) =
    .ok (.slice (some ⟨w.heap.size + 1, 0, none⟩) n c) ((w.alloc O).alloc (.cells C 5 (C.size, C.size + 1))) := by
  have h := Lib.run_convert_bytes_const (P := Try.prog) (w.alloc O) 25 5 C n c Try.underlying25 Try.underlying5
  simp only [World.size_alloc] at h
  exact h

set_option maxHeartbeats 2000000 in
theorem value78_1 (deep : Nat) (tab : Rd → L × Rd) (R : Nat) (S : Nat → Prop) (r : Rd) (w : World) (hr : RdAt w R S r) (hS : ¬ S R) (hR : R < w.heap.size) (hSo : ∀ b, S b → b < w.heap.size) (hk : kindOf (r.num 1).1 = 1) :
    Calls Try.prog 78 #[.pointer (some ⟨R, 0, none⟩), .int .i64 deep] w (RetVal2 w R S (r.value tab)) := by
  have e : r.value tab = (⟨.empty, 1, wrap64 ((r.num 1).2.num 1).1, .empty, .nil⟩, ((r.num 1).2.num 1).2) := by simp [Rd.value, hk]
  rw [e]; clear e
  have HR := Kp.mk hr; clear hr
  have HS := Kp.mk hS; clear hS
  have HSO := Kp.mk hSo; clear hSo
  have HK := Kp.mk hk; clear hk
  have hcc := conv_const w
  go_enter Try.func78, Try.ntmps78
  go_wp2_with fail
  refine (rnum76 R S r 1 _ _ rfl (by omega) (HR.out.still (((Still.refl _).alloc _).alloc _)) HS.out).mono ?_
  rintro e w1 ⟨rfl, hr1, ht1⟩
  have hl : ∀ i, i < 6 → w1.cell? ⟨w.heap.size + 1, 0 + i, none⟩ = some (.int .u8 (([86, 116, 73, 108, 83, 70] : List Int).getD i 0)) := fun i hi => by
    have : i = 0 ∨ i = 1 ∨ i = 2 ∨ i = 3 ∨ i = 4 ∨ i = 5 := by omega
    rcases this with rfl | rfl | rfl | rfl | rfl | rfl <;> exact ht1.cell (cell_new' (by simp) rfl) (by simp; omega)
  have z0 := ht1.cell (a := ⟨w.heap.size, 0, none⟩) (v := .int .i64 0) (by go_simp) (by simp; omega)
  have z1 := ht1.cell (a := ⟨w.heap.size, 1, none⟩) (v := .int .i64 0) (by go_simp) (by simp; omega)
  have z2 := ht1.cell (a := ⟨w.heap.size, 2, none⟩) (v := .string { data := #[] }) (by go_simp) (by simp; omega)
  have z3 := ht1.cell (a := ⟨w.heap.size, 3, none⟩) (v := .slice none 0 0) (by go_simp) (by simp; omega)
  have zf : ∀ o, w1.frozen? ⟨w.heap.size, o, none⟩ = false := fun o => (ht1.frozen (a := ⟨w.heap.size, o, none⟩) (by simp; omega) (by simp; omega)).trans (by go_simp)
  have HT1 := Kp.mk ((((Still.refl w).alloc _).alloc _).of_still.trans ht1 (S := (· = R)) (fun b _ h => h))
  have hsz := ht1.size
  simp only [World.size_alloc] at hsz
  have HR1 := Kp.mk hr1
  have HL := Kp.mk hl
  clear hr1 ht1 hl hcc
  go_wp2_with fail
  refine (index91 (w.heap.size + 1) ((r.num 1).1 % 256) _ w1 (u8_mod _) (Nat.mod_lt _ (by omega)) HL.out).mono ?_
  rintro e w' ⟨rfl, rfl⟩
  rw [kindOf_mod, HK.out]
  go_wp2_with fail
  refine (rnum76 R S (r.num 1).2 1 _ _ rfl (by omega) (HR1.out.still ((Still.refl _).alloc _)) HS.out).mono ?_
  rintro e w2 ⟨rfl, hr2, ht2⟩
  have y0 := ht2.cell (a := ⟨w1.heap.size, 0, none⟩) (v := .int .i64 1) (by go_simp) (by simp; omega)
  have y1 := ht2.cell (a := ⟨w1.heap.size, 1, none⟩) (v := .int .i64 0) (by go_simp) (by simp; omega)
  have y2 := ht2.cell (a := ⟨w1.heap.size, 2, none⟩) (v := .string { data := #[] }) (by go_simp) (by simp; omega)
  have y3 := ht2.cell (a := ⟨w1.heap.size, 3, none⟩) (v := .slice none 0 0) (by go_simp) (by simp; omega)
  have yf : ∀ o, w2.frozen? ⟨w1.heap.size, o, none⟩ = false := fun o => (ht2.frozen (a := ⟨w1.heap.size, o, none⟩) (by simp) (by simp; omega)).trans (by go_simp)
  have x0 := ht2.cell (a := ⟨w.heap.size, 0, none⟩) (((Still.refl _).alloc _).scell z0) (by simp; omega)
  have x1 := ht2.cell (a := ⟨w.heap.size, 1, none⟩) (((Still.refl _).alloc _).scell z1) (by simp; omega)
  have x2 := ht2.cell (a := ⟨w.heap.size, 2, none⟩) (((Still.refl _).alloc _).scell z2) (by simp; omega)
  have x3 := ht2.cell (a := ⟨w.heap.size, 3, none⟩) (((Still.refl _).alloc _).scell z3) (by simp; omega)
  have xf : ∀ o, w2.frozen? ⟨w.heap.size, o, none⟩ = false := fun o => (ht2.frozen (a := ⟨w.heap.size, o, none⟩) (by simp; omega) (by simp; omega)).trans ((((Still.refl w1).alloc _).frozen (a := ⟨w.heap.size, o, none⟩) (by simp; omega) (fun f => f)).trans (zf o))
  have HT2 := Kp.mk ((HT1.out.alloc _).trans ht2 (S := (· = R)) (fun b _ h => h))
  have HR2 := Kp.mk hr2
  have hsz2 := ht2.size
  simp only [World.size_alloc] at hsz2
  clear hr2 ht2 z0 z1 z2 z3 zf
  have hfin : ∀ w3, Tch (fun b => b = w.heap.size ∨ b = w1.heap.size) w2 w3 → RetVal2 w R S (⟨.empty, 1, wrap64 ((r.num 1).2.num 1).1, .empty, .nil⟩, ((r.num 1).2.num 1).2) (.returned (.agg #[.int .i64 1, .int .i64 (wrap64 ((r.num 1).2.num 1).1), .string { data := #[] }, .slice none 0 0])) w3 := fun w3 h3 =>
    ⟨_, _, rfl, Sl.nil _ _ _, HR2.out.tch h3 (by omega) (fun b hb => by have := HSO.out b hb; omega), HT2.out.trans h3 (fun b hb h => by omega)⟩
  have HF := Kp.mk hfin; clear hfin
  go_wp2_with fail
  refine bodyPost_ret (v := .agg #[.int .i64 1, .int .i64 (wrap64 ((r.num 1).2.num 1).1), .string { data := #[] }, .slice none 0 0]) (by simp [results, Try.results78, go_sem, x0, x1, x2, x3]) rfl (HF.out _ ?_)
  iterate 5 refine Tch.setCell ?_ _ _ (fun _ => by first | exact .inl rfl | exact .inr rfl | exact rfl)
  exact Tch.refl _ _
set_option maxHeartbeats 2000000 in
theorem value78_2 (deep : Nat) (tab : Rd → L × Rd) (R : Nat) (S : Nat → Prop) (r : Rd) (w : World) (hr : RdAt w R S r) (hS : ¬ S R) (hR : R < w.heap.size) (hSo : ∀ b, S b → b < w.heap.size) (hk : kindOf (r.num 1).1 = 2) :
    Calls Try.prog 78 #[.pointer (some ⟨R, 0, none⟩), .int .i64 deep] w (RetVal2 w R S (r.value tab)) := by
  have e : r.value tab = (⟨.empty, 2, wrap64 (wrap32 ((r.num 1).2.num 4).1), .empty, .nil⟩, ((r.num 1).2.num 4).2) := by simp [Rd.value, hk]
  rw [e]; clear e
  have HR := Kp.mk hr; clear hr
  have HS := Kp.mk hS; clear hS
  have HSO := Kp.mk hSo; clear hSo
  have HK := Kp.mk hk; clear hk
  have hcc := conv_const w
  go_enter Try.func78, Try.ntmps78
  go_wp2_with fail
  refine (rnum76 R S r 1 _ _ rfl (by omega) (HR.out.still (((Still.refl _).alloc _).alloc _)) HS.out).mono ?_
  rintro e w1 ⟨rfl, hr1, ht1⟩
  have hl : ∀ i, i < 6 → w1.cell? ⟨w.heap.size + 1, 0 + i, none⟩ = some (.int .u8 (([86, 116, 73, 108, 83, 70] : List Int).getD i 0)) := fun i hi => by
    have : i = 0 ∨ i = 1 ∨ i = 2 ∨ i = 3 ∨ i = 4 ∨ i = 5 := by omega
    rcases this with rfl | rfl | rfl | rfl | rfl | rfl <;> exact ht1.cell (cell_new' (by simp) rfl) (by simp; omega)
  have z0 := ht1.cell (a := ⟨w.heap.size, 0, none⟩) (v := .int .i64 0) (by go_simp) (by simp; omega)
  have z1 := ht1.cell (a := ⟨w.heap.size, 1, none⟩) (v := .int .i64 0) (by go_simp) (by simp; omega)
  have z2 := ht1.cell (a := ⟨w.heap.size, 2, none⟩) (v := .string { data := #[] }) (by go_simp) (by simp; omega)
  have z3 := ht1.cell (a := ⟨w.heap.size, 3, none⟩) (v := .slice none 0 0) (by go_simp) (by simp; omega)
  have zf : ∀ o, w1.frozen? ⟨w.heap.size, o, none⟩ = false := fun o => (ht1.frozen (a := ⟨w.heap.size, o, none⟩) (by simp; omega) (by simp; omega)).trans (by go_simp)
  have HT1 := Kp.mk ((((Still.refl w).alloc _).alloc _).of_still.trans ht1 (S := (· = R)) (fun b _ h => h))
  have hsz := ht1.size
  simp only [World.size_alloc] at hsz
  have HR1 := Kp.mk hr1
  have HL := Kp.mk hl
  clear hr1 ht1 hl hcc
  go_wp2_with fail
  refine (index91 (w.heap.size + 1) ((r.num 1).1 % 256) _ w1 (u8_mod _) (Nat.mod_lt _ (by omega)) HL.out).mono ?_
  rintro e w' ⟨rfl, rfl⟩
  rw [kindOf_mod, HK.out]
  go_wp2_with fail
  refine (rnum76 R S (r.num 1).2 4 _ _ rfl (by omega) (HR1.out.still ((Still.refl _).alloc _)) HS.out).mono ?_
  rintro e w2 ⟨rfl, hr2, ht2⟩
  have y0 := ht2.cell (a := ⟨w1.heap.size, 0, none⟩) (v := .int .i64 2) (by go_simp) (by simp; omega)
  have y1 := ht2.cell (a := ⟨w1.heap.size, 1, none⟩) (v := .int .i64 0) (by go_simp) (by simp; omega)
  have y2 := ht2.cell (a := ⟨w1.heap.size, 2, none⟩) (v := .string { data := #[] }) (by go_simp) (by simp; omega)
  have y3 := ht2.cell (a := ⟨w1.heap.size, 3, none⟩) (v := .slice none 0 0) (by go_simp) (by simp; omega)
  have yf : ∀ o, w2.frozen? ⟨w1.heap.size, o, none⟩ = false := fun o => (ht2.frozen (a := ⟨w1.heap.size, o, none⟩) (by simp) (by simp; omega)).trans (by go_simp)
  have x0 := ht2.cell (a := ⟨w.heap.size, 0, none⟩) (((Still.refl _).alloc _).scell z0) (by simp; omega)
  have x1 := ht2.cell (a := ⟨w.heap.size, 1, none⟩) (((Still.refl _).alloc _).scell z1) (by simp; omega)
  have x2 := ht2.cell (a := ⟨w.heap.size, 2, none⟩) (((Still.refl _).alloc _).scell z2) (by simp; omega)
  have x3 := ht2.cell (a := ⟨w.heap.size, 3, none⟩) (((Still.refl _).alloc _).scell z3) (by simp; omega)
  have xf : ∀ o, w2.frozen? ⟨w.heap.size, o, none⟩ = false := fun o => (ht2.frozen (a := ⟨w.heap.size, o, none⟩) (by simp; omega) (by simp; omega)).trans ((((Still.refl w1).alloc _).frozen (a := ⟨w.heap.size, o, none⟩) (by simp; omega) (fun f => f)).trans (zf o))
  have HT2 := Kp.mk ((HT1.out.alloc _).trans ht2 (S := (· = R)) (fun b _ h => h))
  have HR2 := Kp.mk hr2
  have hsz2 := ht2.size
  simp only [World.size_alloc] at hsz2
  clear hr2 ht2 z0 z1 z2 z3 zf
  have hfin : ∀ w3, Tch (fun b => b = w.heap.size ∨ b = w1.heap.size) w2 w3 → RetVal2 w R S (⟨.empty, 2, wrap64 (wrap32 ((r.num 1).2.num 4).1), .empty, .nil⟩, ((r.num 1).2.num 4).2) (.returned (.agg #[.int .i64 2, .int .i64 (wrap64 (wrap32 ((r.num 1).2.num 4).1)), .string { data := #[] }, .slice none 0 0])) w3 := fun w3 h3 =>
    ⟨_, _, rfl, Sl.nil _ _ _, HR2.out.tch h3 (by omega) (fun b hb => by have := HSO.out b hb; omega), HT2.out.trans h3 (fun b hb h => by omega)⟩
  have HF := Kp.mk hfin; clear hfin
  go_wp2_with fail
  refine bodyPost_ret (v := .agg #[.int .i64 2, .int .i64 (wrap64 (wrap32 ((r.num 1).2.num 4).1)), .string { data := #[] }, .slice none 0 0]) (by simp [results, Try.results78, go_sem, x0, x1, x2, x3]) rfl (HF.out _ ?_)
  iterate 5 refine Tch.setCell ?_ _ _ (fun _ => by first | exact .inl rfl | exact .inr rfl | exact rfl)
  exact Tch.refl _ _
set_option maxHeartbeats 2000000 in
theorem value78_3 (deep : Nat) (tab : Rd → L × Rd) (R : Nat) (S : Nat → Prop) (r : Rd) (w : World) (hr : RdAt w R S r) (hS : ¬ S R) (hR : R < w.heap.size) (hSo : ∀ b, S b → b < w.heap.size) (hk : kindOf (r.num 1).1 = 3) :
    Calls Try.prog 78 #[.pointer (some ⟨R, 0, none⟩), .int .i64 deep] w (RetVal2 w R S (r.value tab)) := by
  have e : r.value tab = (⟨.empty, 3, wrap64 ((r.num 1).2.num 8).1, .empty, .nil⟩, ((r.num 1).2.num 8).2) := by simp [Rd.value, hk]
  rw [e]; clear e
  have HR := Kp.mk hr; clear hr
  have HS := Kp.mk hS; clear hS
  have HSO := Kp.mk hSo; clear hSo
  have HK := Kp.mk hk; clear hk
  have hcc := conv_const w
  go_enter Try.func78, Try.ntmps78
  go_wp2_with fail
  refine (rnum76 R S r 1 _ _ rfl (by omega) (HR.out.still (((Still.refl _).alloc _).alloc _)) HS.out).mono ?_
  rintro e w1 ⟨rfl, hr1, ht1⟩
  have hl : ∀ i, i < 6 → w1.cell? ⟨w.heap.size + 1, 0 + i, none⟩ = some (.int .u8 (([86, 116, 73, 108, 83, 70] : List Int).getD i 0)) := fun i hi => by
    have : i = 0 ∨ i = 1 ∨ i = 2 ∨ i = 3 ∨ i = 4 ∨ i = 5 := by omega
    rcases this with rfl | rfl | rfl | rfl | rfl | rfl <;> exact ht1.cell (cell_new' (by simp) rfl) (by simp; omega)
  have z0 := ht1.cell (a := ⟨w.heap.size, 0, none⟩) (v := .int .i64 0) (by go_simp) (by simp; omega)
  have z1 := ht1.cell (a := ⟨w.heap.size, 1, none⟩) (v := .int .i64 0) (by go_simp) (by simp; omega)
  have z2 := ht1.cell (a := ⟨w.heap.size, 2, none⟩) (v := .string { data := #[] }) (by go_simp) (by simp; omega)
  have z3 := ht1.cell (a := ⟨w.heap.size, 3, none⟩) (v := .slice none 0 0) (by go_simp) (by simp; omega)
  have zf : ∀ o, w1.frozen? ⟨w.heap.size, o, none⟩ = false := fun o => (ht1.frozen (a := ⟨w.heap.size, o, none⟩) (by simp; omega) (by simp; omega)).trans (by go_simp)
  have HT1 := Kp.mk ((((Still.refl w).alloc _).alloc _).of_still.trans ht1 (S := (· = R)) (fun b _ h => h))
  have hsz := ht1.size
  simp only [World.size_alloc] at hsz
  have HR1 := Kp.mk hr1
  have HL := Kp.mk hl
  clear hr1 ht1 hl hcc
  go_wp2_with fail
  refine (index91 (w.heap.size + 1) ((r.num 1).1 % 256) _ w1 (u8_mod _) (Nat.mod_lt _ (by omega)) HL.out).mono ?_
  rintro e w' ⟨rfl, rfl⟩
  rw [kindOf_mod, HK.out]
  go_wp2_with fail
  refine (rnum76 R S (r.num 1).2 8 _ _ rfl (by omega) (HR1.out.still ((Still.refl _).alloc _)) HS.out).mono ?_
  rintro e w2 ⟨rfl, hr2, ht2⟩
  have y0 := ht2.cell (a := ⟨w1.heap.size, 0, none⟩) (v := .int .i64 3) (by go_simp) (by simp; omega)
  have y1 := ht2.cell (a := ⟨w1.heap.size, 1, none⟩) (v := .int .i64 0) (by go_simp) (by simp; omega)
  have y2 := ht2.cell (a := ⟨w1.heap.size, 2, none⟩) (v := .string { data := #[] }) (by go_simp) (by simp; omega)
  have y3 := ht2.cell (a := ⟨w1.heap.size, 3, none⟩) (v := .slice none 0 0) (by go_simp) (by simp; omega)
  have yf : ∀ o, w2.frozen? ⟨w1.heap.size, o, none⟩ = false := fun o => (ht2.frozen (a := ⟨w1.heap.size, o, none⟩) (by simp) (by simp; omega)).trans (by go_simp)
  have x0 := ht2.cell (a := ⟨w.heap.size, 0, none⟩) (((Still.refl _).alloc _).scell z0) (by simp; omega)
  have x1 := ht2.cell (a := ⟨w.heap.size, 1, none⟩) (((Still.refl _).alloc _).scell z1) (by simp; omega)
  have x2 := ht2.cell (a := ⟨w.heap.size, 2, none⟩) (((Still.refl _).alloc _).scell z2) (by simp; omega)
  have x3 := ht2.cell (a := ⟨w.heap.size, 3, none⟩) (((Still.refl _).alloc _).scell z3) (by simp; omega)
  have xf : ∀ o, w2.frozen? ⟨w.heap.size, o, none⟩ = false := fun o => (ht2.frozen (a := ⟨w.heap.size, o, none⟩) (by simp; omega) (by simp; omega)).trans ((((Still.refl w1).alloc _).frozen (a := ⟨w.heap.size, o, none⟩) (by simp; omega) (fun f => f)).trans (zf o))
  have HT2 := Kp.mk ((HT1.out.alloc _).trans ht2 (S := (· = R)) (fun b _ h => h))
  have HR2 := Kp.mk hr2
  have hsz2 := ht2.size
  simp only [World.size_alloc] at hsz2
  clear hr2 ht2 z0 z1 z2 z3 zf
  have hfin : ∀ w3, Tch (fun b => b = w.heap.size ∨ b = w1.heap.size) w2 w3 → RetVal2 w R S (⟨.empty, 3, wrap64 ((r.num 1).2.num 8).1, .empty, .nil⟩, ((r.num 1).2.num 8).2) (.returned (.agg #[.int .i64 3, .int .i64 (wrap64 ((r.num 1).2.num 8).1), .string { data := #[] }, .slice none 0 0])) w3 := fun w3 h3 =>
    ⟨_, _, rfl, Sl.nil _ _ _, HR2.out.tch h3 (by omega) (fun b hb => by have := HSO.out b hb; omega), HT2.out.trans h3 (fun b hb h => by omega)⟩
  have HF := Kp.mk hfin; clear hfin
  go_wp2_with fail
  refine bodyPost_ret (v := .agg #[.int .i64 3, .int .i64 (wrap64 ((r.num 1).2.num 8).1), .string { data := #[] }, .slice none 0 0]) (by simp [results, Try.results78, go_sem, x0, x1, x2, x3]) rfl (HF.out _ ?_)
  iterate 5 refine Tch.setCell ?_ _ _ (fun _ => by first | exact .inl rfl | exact .inr rfl | exact rfl)
  exact Tch.refl _ _
set_option maxHeartbeats 2000000 in
theorem value78_4 (deep : Nat) (tab : Rd → L × Rd) (R : Nat) (S : Nat → Prop) (r : Rd) (w : World) (hr : RdAt w R S r) (hS : ¬ S R) (hR : R < w.heap.size) (hSo : ∀ b, S b → b < w.heap.size) (hk : kindOf (r.num 1).1 = 4) :
    Calls Try.prog 78 #[.pointer (some ⟨R, 0, none⟩), .int .i64 deep] w (RetVal2 w R S (r.value tab)) := by
  have e : r.value tab = (⟨.empty, 4, 0, ⟨(((r.num 1).2.num 4).2.raw ((r.num 1).2.num 4).1).1.toArray⟩, .nil⟩, (((r.num 1).2.num 4).2.raw ((r.num 1).2.num 4).1).2) := by simp [Rd.value, hk]
  rw [e]; clear e
  have HR := Kp.mk hr; clear hr
  have HS := Kp.mk hS; clear hS
  have HSO := Kp.mk hSo; clear hSo
  have HK := Kp.mk hk; clear hk
  have hcc := conv_const w
  go_enter Try.func78, Try.ntmps78
  go_wp2_with fail
  refine (rnum76 R S r 1 _ _ rfl (by omega) (HR.out.still (((Still.refl _).alloc _).alloc _)) HS.out).mono ?_
  rintro e w1 ⟨rfl, hr1, ht1⟩
  have hl : ∀ i, i < 6 → w1.cell? ⟨w.heap.size + 1, 0 + i, none⟩ = some (.int .u8 (([86, 116, 73, 108, 83, 70] : List Int).getD i 0)) := fun i hi => by
    have : i = 0 ∨ i = 1 ∨ i = 2 ∨ i = 3 ∨ i = 4 ∨ i = 5 := by omega
    rcases this with rfl | rfl | rfl | rfl | rfl | rfl <;> exact ht1.cell (cell_new' (by simp) rfl) (by simp; omega)
  have z0 := ht1.cell (a := ⟨w.heap.size, 0, none⟩) (v := .int .i64 0) (by go_simp) (by simp; omega)
  have z1 := ht1.cell (a := ⟨w.heap.size, 1, none⟩) (v := .int .i64 0) (by go_simp) (by simp; omega)
  have z2 := ht1.cell (a := ⟨w.heap.size, 2, none⟩) (v := .string { data := #[] }) (by go_simp) (by simp; omega)
  have z3 := ht1.cell (a := ⟨w.heap.size, 3, none⟩) (v := .slice none 0 0) (by go_simp) (by simp; omega)
  have zf : ∀ o, w1.frozen? ⟨w.heap.size, o, none⟩ = false := fun o => (ht1.frozen (a := ⟨w.heap.size, o, none⟩) (by simp; omega) (by simp; omega)).trans (by go_simp)
  have HT1 := Kp.mk ((((Still.refl w).alloc _).alloc _).of_still.trans ht1 (S := (· = R)) (fun b _ h => h))
  have hsz := ht1.size
  simp only [World.size_alloc] at hsz
  have HR1 := Kp.mk hr1
  have HL := Kp.mk hl
  clear hr1 ht1 hl hcc
  go_wp2_with fail
  refine (index91 (w.heap.size + 1) ((r.num 1).1 % 256) _ w1 (u8_mod _) (Nat.mod_lt _ (by omega)) HL.out).mono ?_
  rintro e w' ⟨rfl, rfl⟩
  rw [kindOf_mod, HK.out]
  go_wp2_with fail
  refine (rnum76 R S (r.num 1).2 4 _ _ rfl (by omega) (HR1.out.still ((Still.refl _).alloc _)) HS.out).mono ?_
  rintro e wm ⟨rfl, hrm, htm⟩
  have hlt4 : ((r.num 1).2.num 4).1 < 18446744073709551616 := num_lt _ 4 (by omega)
  go_wp2_with fail
  refine (raw77 R S ((r.num 1).2.num 4).2 _ _ wm rfl hlt4 hrm HS.out).mono ?_
  rintro e w2 ⟨AX, cX, rfl, hbx, hr2, htx, _⟩
  have ht2 := htm.trans htx (S := (· = R)) (fun b _ h => h)
  have HBX := Kp.mk hbx; clear hbx hrm htm htx hlt4
  have y0 := ht2.cell (a := ⟨w1.heap.size, 0, none⟩) (v := .int .i64 4) (by go_simp) (by simp; omega)
  have y1 := ht2.cell (a := ⟨w1.heap.size, 1, none⟩) (v := .int .i64 0) (by go_simp) (by simp; omega)
  have y2 := ht2.cell (a := ⟨w1.heap.size, 2, none⟩) (v := .string { data := #[] }) (by go_simp) (by simp; omega)
  have y3 := ht2.cell (a := ⟨w1.heap.size, 3, none⟩) (v := .slice none 0 0) (by go_simp) (by simp; omega)
  have yf : ∀ o, w2.frozen? ⟨w1.heap.size, o, none⟩ = false := fun o => (ht2.frozen (a := ⟨w1.heap.size, o, none⟩) (by simp) (by simp; omega)).trans (by go_simp)
  have x0 := ht2.cell (a := ⟨w.heap.size, 0, none⟩) (((Still.refl _).alloc _).scell z0) (by simp; omega)
  have x1 := ht2.cell (a := ⟨w.heap.size, 1, none⟩) (((Still.refl _).alloc _).scell z1) (by simp; omega)
  have x2 := ht2.cell (a := ⟨w.heap.size, 2, none⟩) (((Still.refl _).alloc _).scell z2) (by simp; omega)
  have x3 := ht2.cell (a := ⟨w.heap.size, 3, none⟩) (((Still.refl _).alloc _).scell z3) (by simp; omega)
  have xf : ∀ o, w2.frozen? ⟨w.heap.size, o, none⟩ = false := fun o => (ht2.frozen (a := ⟨w.heap.size, o, none⟩) (by simp; omega) (by simp; omega)).trans ((((Still.refl w1).alloc _).frozen (a := ⟨w.heap.size, o, none⟩) (by simp; omega) (fun f => f)).trans (zf o))
  have HT2 := Kp.mk ((HT1.out.alloc _).trans ht2 (S := (· = R)) (fun b _ h => h))
  have HR2 := Kp.mk hr2
  have hsz2 := ht2.size
  simp only [World.size_alloc] at hsz2
  clear hr2 ht2 z0 z1 z2 z3 zf
  have hfin : ∀ w3, Tch (fun b => b = w.heap.size ∨ b = w1.heap.size) w2 w3 → RetVal2 w R S (⟨.empty, 4, 0, ⟨(((r.num 1).2.num 4).2.raw ((r.num 1).2.num 4).1).1.toArray⟩, .nil⟩, (((r.num 1).2.num 4).2.raw ((r.num 1).2.num 4).1).2) (.returned (.agg #[.int .i64 4, .int .i64 0, .string ⟨(((r.num 1).2.num 4).2.raw ((r.num 1).2.num 4).1).1.toArray⟩, .slice none 0 0])) w3 := fun w3 h3 =>
    ⟨_, _, rfl, Sl.nil _ _ _, HR2.out.tch h3 (by omega) (fun b hb => by have := HSO.out b hb; omega), HT2.out.trans h3 (fun b hb h => by omega)⟩
  have HF := Kp.mk hfin; clear hfin
  have hcv := run_conv (c := cX) HBX.out _ rfl
  go_wp2_with fail
  refine bodyPost_ret (v := .agg #[.int .i64 4, .int .i64 0, .string ⟨(((r.num 1).2.num 4).2.raw ((r.num 1).2.num 4).1).1.toArray⟩, .slice none 0 0]) (by simp [results, Try.results78, go_sem, x0, x1, x2, x3]) rfl (HF.out _ ?_)
  iterate 5 refine Tch.setCell ?_ _ _ (fun _ => by first | exact .inl rfl | exact .inr rfl | exact rfl)
  exact Tch.refl _ _
set_option maxHeartbeats 2000000 in
theorem value78_5 (deep : Nat) (j : Nat) (hdp : deep ≤ 5) (hC : TabRC j (deep + 1)) (R : Nat) (S : Nat → Prop) (r : Rd) (w : World) (hr : RdAt w R S r) (hS : ¬ S R) (hR : R < w.heap.size) (hSo : ∀ b, S b → b < w.heap.size) (hk : kindOf (r.num 1).1 = 5) :
    Calls Try.prog 78 #[.pointer (some ⟨R, 0, none⟩), .int .i64 deep] w (RetVal2 w R S (r.value (Rd.table j (deep + 1)))) := by
  have e : r.value (Rd.table j (deep + 1)) = (⟨.empty, 5, 0, .empty, (Rd.table j (deep + 1) (r.num 1).2).1⟩, (Rd.table j (deep + 1) (r.num 1).2).2) := by simp [Rd.value, hk]
  rw [e]; clear e
  have HR := Kp.mk hr; clear hr
  have HS := Kp.mk hS; clear hS
  have HSO := Kp.mk hSo; clear hSo
  have HK := Kp.mk hk; clear hk
  have HC := Kp.mk hC; clear hC
  have hcc := conv_const w
  go_enter Try.func78, Try.ntmps78
  go_wp2_with fail
  refine (rnum76 R S r 1 _ _ rfl (by omega) (HR.out.still (((Still.refl _).alloc _).alloc _)) HS.out).mono ?_
  rintro e w1 ⟨rfl, hr1, ht1⟩
  have hl : ∀ i, i < 6 → w1.cell? ⟨w.heap.size + 1, 0 + i, none⟩ = some (.int .u8 (([86, 116, 73, 108, 83, 70] : List Int).getD i 0)) := fun i hi => by
    have : i = 0 ∨ i = 1 ∨ i = 2 ∨ i = 3 ∨ i = 4 ∨ i = 5 := by omega
    rcases this with rfl | rfl | rfl | rfl | rfl | rfl <;> exact ht1.cell (cell_new' (by simp) rfl) (by simp; omega)
  have z0 := ht1.cell (a := ⟨w.heap.size, 0, none⟩) (v := .int .i64 0) (by go_simp) (by simp; omega)
  have z1 := ht1.cell (a := ⟨w.heap.size, 1, none⟩) (v := .int .i64 0) (by go_simp) (by simp; omega)
  have z2 := ht1.cell (a := ⟨w.heap.size, 2, none⟩) (v := .string { data := #[] }) (by go_simp) (by simp; omega)
  have z3 := ht1.cell (a := ⟨w.heap.size, 3, none⟩) (v := .slice none 0 0) (by go_simp) (by simp; omega)
  have zf : ∀ o, w1.frozen? ⟨w.heap.size, o, none⟩ = false := fun o => (ht1.frozen (a := ⟨w.heap.size, o, none⟩) (by simp; omega) (by simp; omega)).trans (by go_simp)
  have HT1 := Kp.mk ((((Still.refl w).alloc _).alloc _).of_still.trans ht1 (S := (· = R)) (fun b _ h => h))
  have hsz := ht1.size
  simp only [World.size_alloc] at hsz
  have HR1 := Kp.mk hr1
  have HL := Kp.mk hl
  clear hr1 ht1 hl hcc
  go_wp2_with fail
  refine (index91 (w.heap.size + 1) ((r.num 1).1 % 256) _ w1 (u8_mod _) (Nat.mod_lt _ (by omega)) HL.out).mono ?_
  rintro e w' ⟨rfl, rfl⟩
  rw [kindOf_mod, HK.out]
  go_wp2_with fail
  refine (HC.out.use R S (r.num 1).2 _ _ (by omega) (HR1.out.still ((Still.refl _).alloc _)) HS.out (by simp only [World.size_alloc]; omega) (fun b hb => by have := HSO.out b hb; simp only [World.size_alloc]; omega)).mono ?_
  rintro e w2 ⟨AX, cX, rfl, hsx, hr2, ht2⟩
  have HSX := Kp.mk hsx; clear hsx
  have y0 := ht2.cell (a := ⟨w1.heap.size, 0, none⟩) (v := .int .i64 5) (by go_simp) (by simp; omega)
  have y1 := ht2.cell (a := ⟨w1.heap.size, 1, none⟩) (v := .int .i64 0) (by go_simp) (by simp; omega)
  have y2 := ht2.cell (a := ⟨w1.heap.size, 2, none⟩) (v := .string { data := #[] }) (by go_simp) (by simp; omega)
  have y3 := ht2.cell (a := ⟨w1.heap.size, 3, none⟩) (v := .slice none 0 0) (by go_simp) (by simp; omega)
  have yf : ∀ o, w2.frozen? ⟨w1.heap.size, o, none⟩ = false := fun o => (ht2.frozen (a := ⟨w1.heap.size, o, none⟩) (by simp) (by simp; omega)).trans (by go_simp)
  have x0 := ht2.cell (a := ⟨w.heap.size, 0, none⟩) (((Still.refl _).alloc _).scell z0) (by simp; omega)
  have x1 := ht2.cell (a := ⟨w.heap.size, 1, none⟩) (((Still.refl _).alloc _).scell z1) (by simp; omega)
  have x2 := ht2.cell (a := ⟨w.heap.size, 2, none⟩) (((Still.refl _).alloc _).scell z2) (by simp; omega)
  have x3 := ht2.cell (a := ⟨w.heap.size, 3, none⟩) (((Still.refl _).alloc _).scell z3) (by simp; omega)
  have xf : ∀ o, w2.frozen? ⟨w.heap.size, o, none⟩ = false := fun o => (ht2.frozen (a := ⟨w.heap.size, o, none⟩) (by simp; omega) (by simp; omega)).trans ((((Still.refl w1).alloc _).frozen (a := ⟨w.heap.size, o, none⟩) (by simp; omega) (fun f => f)).trans (zf o))
  have HT2 := Kp.mk ((HT1.out.alloc _).trans ht2 (S := (· = R)) (fun b _ h => h))
  have HR2 := Kp.mk hr2
  have hsz2 := ht2.size
  simp only [World.size_alloc] at hsz2
  clear hr2 ht2 z0 z1 z2 z3 zf
  have hfin : ∀ w3, Tch (fun b => b = w.heap.size ∨ b = w1.heap.size) w2 w3 → RetVal2 w R S (⟨.empty, 5, 0, .empty, (Rd.table j (deep + 1) (r.num 1).2).1⟩, (Rd.table j (deep + 1) (r.num 1).2).2) (.returned (.agg #[.int .i64 5, .int .i64 0, .string { data := #[] }, .slice AX (Rd.table j (deep + 1) (r.num 1).2).1.len cX])) w3 := fun w3 h3 =>
    ⟨_, _, rfl, (HSX.out.tch h3 (fun b hb h => by simp only [World.size_alloc] at hb; omega)).weak (fun b hb => by simp only [World.size_alloc] at hb; omega), HR2.out.tch h3 (by omega) (fun b hb => by have := HSO.out b hb; omega), HT2.out.trans h3 (fun b hb h => by omega)⟩
  have HF := Kp.mk hfin; clear hfin
  go_wp2_with fail
  refine bodyPost_ret (v := .agg #[.int .i64 5, .int .i64 0, .string { data := #[] }, .slice AX (Rd.table j (deep + 1) (r.num 1).2).1.len cX]) (by simp [results, Try.results78, go_sem, x0, x1, x2, x3]) rfl (HF.out _ ?_)
  iterate 5 refine Tch.setCell ?_ _ _ (fun _ => by first | exact .inl rfl | exact .inr rfl | exact rfl)
  exact Tch.refl _ _
set_option maxHeartbeats 2000000 in
theorem value78_0 (deep : Nat) (tab : Rd → L × Rd) (R : Nat) (S : Nat → Prop) (r : Rd) (w : World) (hr : RdAt w R S r) (hS : ¬ S R) (hR : R < w.heap.size) (hSo : ∀ b, S b → b < w.heap.size) (k : Int) (hk : kindOf (r.num 1).1 = k) (h1 : k ≠ 1) (h2 : k ≠ 2) (h3 : k ≠ 3) (h4 : k ≠ 4) (h5 : k ≠ 5) :
    Calls Try.prog 78 #[.pointer (some ⟨R, 0, none⟩), .int .i64 deep] w (RetVal2 w R S (r.value tab)) := by
  subst hk
  have e : r.value tab = (⟨.empty, kindOf (r.num 1).1, 0, .empty, .nil⟩, (r.num 1).2) := by simp [Rd.value, h1, h2, h3, h4, h5]
  rw [e]; clear e
  have HR := Kp.mk hr; clear hr
  have HS := Kp.mk hS; clear hS
  have HSO := Kp.mk hSo; clear hSo
  generalize hkk : kindOf (r.num 1).1 = k at *
  have HKK := Kp.mk hkk; clear hkk
  have b1 := beq_eq_false_iff_ne.2 h1
  have b2 := beq_eq_false_iff_ne.2 h2
  have b3 := beq_eq_false_iff_ne.2 h3
  have b4 := beq_eq_false_iff_ne.2 h4
  have b5 := beq_eq_false_iff_ne.2 h5
  have hcc := conv_const w
  go_enter Try.func78, Try.ntmps78
  go_wp2_with fail
  refine (rnum76 R S r 1 _ _ rfl (by omega) (HR.out.still (((Still.refl _).alloc _).alloc _)) HS.out).mono ?_
  rintro e w1 ⟨rfl, hr1, ht1⟩
  have hl : ∀ i, i < 6 → w1.cell? ⟨w.heap.size + 1, 0 + i, none⟩ = some (.int .u8 (([86, 116, 73, 108, 83, 70] : List Int).getD i 0)) := fun i hi => by
    have : i = 0 ∨ i = 1 ∨ i = 2 ∨ i = 3 ∨ i = 4 ∨ i = 5 := by omega
    rcases this with rfl | rfl | rfl | rfl | rfl | rfl <;> exact ht1.cell (cell_new' (by simp) rfl) (by simp; omega)
  have z0 := ht1.cell (a := ⟨w.heap.size, 0, none⟩) (v := .int .i64 0) (by go_simp) (by simp; omega)
  have z1 := ht1.cell (a := ⟨w.heap.size, 1, none⟩) (v := .int .i64 0) (by go_simp) (by simp; omega)
  have z2 := ht1.cell (a := ⟨w.heap.size, 2, none⟩) (v := .string { data := #[] }) (by go_simp) (by simp; omega)
  have z3 := ht1.cell (a := ⟨w.heap.size, 3, none⟩) (v := .slice none 0 0) (by go_simp) (by simp; omega)
  have zf : ∀ o, w1.frozen? ⟨w.heap.size, o, none⟩ = false := fun o => (ht1.frozen (a := ⟨w.heap.size, o, none⟩) (by simp; omega) (by simp; omega)).trans (by go_simp)
  have HT1 := Kp.mk ((((Still.refl w).alloc _).alloc _).of_still.trans ht1 (S := (· = R)) (fun b _ h => h))
  have hsz := ht1.size
  simp only [World.size_alloc] at hsz
  have HR1 := Kp.mk hr1
  have HL := Kp.mk hl
  clear hr1 ht1 hl hcc
  go_wp2_with fail
  refine (index91 (w.heap.size + 1) ((r.num 1).1 % 256) _ w1 (u8_mod _) (Nat.mod_lt _ (by omega)) HL.out).mono ?_
  rintro e w' ⟨rfl, rfl⟩
  rw [kindOf_mod, HKK.out]
  have hfin : ∀ w3, Tch (fun b => b = w.heap.size) (w1.alloc (.cells #[.int .i64 k, .int .i64 0, .string { data := #[] }, .slice none 0 0] 34)) w3 → RetVal2 w R S (⟨.empty, k, 0, .empty, .nil⟩, (r.num 1).2) (.returned (.agg #[.int .i64 k, .int .i64 0, .string { data := #[] }, .slice none 0 0])) w3 := fun w3 h3 =>
    ⟨_, _, rfl, Sl.nil _ _ _, (HR1.out.still ((Still.refl _).alloc _)).tch h3 (by omega) (fun b hb => by have := HSO.out b hb; omega), (HT1.out.alloc _).trans h3 (fun b hb h => by omega)⟩
  have HF := Kp.mk hfin; clear hfin
  have x0 := fun o => ((Still.refl _).alloc o).scell z0
  have x1 := fun o => ((Still.refl _).alloc o).scell z1
  have x2 := fun o => ((Still.refl _).alloc o).scell z2
  have x3 := fun o => ((Still.refl _).alloc o).scell z3
  have xf : ∀ o' o, (w1.alloc o').frozen? ⟨w.heap.size, o, none⟩ = false := fun o' o => (((Still.refl w1).alloc o').frozen (a := ⟨w.heap.size, o, none⟩) (by simp; omega) (fun f => f)).trans (zf o)
  go_wp2_with fail
  refine bodyPost_ret (v := .agg #[.int .i64 k, .int .i64 0, .string { data := #[] }, .slice none 0 0]) (by simp [results, Try.results78, go_sem, x0, x1, x2, x3]) rfl (HF.out _ ?_)
  iterate 4 refine Tch.setCell ?_ _ _ (fun _ => by first | exact .inl rfl | exact .inr rfl | exact rfl)
  exact Tch.refl _ _

theorem value78 (j deep : Nat) (hC : TabRC j (deep + 1)) (hdp : deep ≤ 5) (R : Nat) (S : Nat → Prop) (r : Rd) (D : Int) (w : World) (hD : D = deep) (hr : RdAt w R S r) (hS : ¬ S R) (hR : R < w.heap.size) (hSo : ∀ b, S b → b < w.heap.size) :
    Calls Try.prog 78 #[.pointer (some ⟨R, 0, none⟩), .int .i64 D] w (RetVal2 w R S (r.value (Rd.table j (deep + 1)))) := by
  subst hD
  by_cases h1 : kindOf (r.num 1).1 = 1
  · exact value78_1 deep _ R S r w hr hS hR hSo h1
  by_cases h2 : kindOf (r.num 1).1 = 2
  · exact value78_2 deep _ R S r w hr hS hR hSo h2
  by_cases h3 : kindOf (r.num 1).1 = 3
  · exact value78_3 deep _ R S r w hr hS hR hSo h3
  by_cases h4 : kindOf (r.num 1).1 = 4
  · exact value78_4 deep _ R S r w hr hS hR hSo h4
  by_cases h5 : kindOf (r.num 1).1 = 5
  · exact value78_5 deep j hdp hC R S r w hr hS hR hSo h5
  · exact value78_0 deep _ R S r w hr hS hR hSo _ rfl h1 h2 h3 h4 h5
end Go.Proofs.Ytaeainkfllfdfaa
