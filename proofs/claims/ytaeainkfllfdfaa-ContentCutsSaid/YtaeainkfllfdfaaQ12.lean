/- Contracts of the functions that the statement reaches, each walked once, and the plain laws over them, for every input that their premises name (D4, D5, D6, D7, D8, D9). -/
import Derived.Test.YtaeainkfllfdfaaQ11
import Derived.Deep.MidRow
import Derived.Outline
import Derived.Deep.RegionHeld3
import Derived.BigQuiet
/- D4: content.Join: what it holds; New, forget. -/
namespace Go.Proofs.Ytaeainkfllfdfaa
open Go.RowKit
set_option linter.unusedVariables false
set_option linter.unusedSimpArgs false
set_option maxRecDepth 100000

/-- What a Join holds. -/
structure J where
  ch : Int
  next : Int
  left : Int
  whole : Bool
  m : M
  props : L
  body : List UInt8
deriving DecidableEq

/-- A Join that waits for a first frame. -/
def J.new (ch : Int) : J := ⟨ch, 1, 0, false, M.zero, .nil, []⟩
/-- The cells of a Join. -/
abbrev J.obj (j : J) (AM : Option Addr) (cM : Nat) (AP : Option Addr) (cP : Nat) (AB : Option Addr) (cB : Nat) : Obj :=
  .cells #[.int .i64 j.ch, .int .i64 j.next, .int .i64 j.left, .bool j.whole, .int .i64 j.m.id, .string j.m.nm, .string j.m.ty, .string j.m.ex, .string j.m.ky, .string j.m.tx, .int .i64 j.m.co, .int .i64 j.m.cn, .int .u64 j.m.tg, .bool j.m.fl, .bool j.m.bk, .slice AM j.m.ar.len cM, .slice AP j.props.len cP, .slice AB j.body.length cB] 90

set_option maxHeartbeats 1000000 in
theorem new26 (ch : Int) (w : World) : Calls Try.prog 26 #[.int .i64 ch] w fun e w' => e = .returned (.pointer (some ⟨w.heap.size, 0, none⟩)) ∧ w' = w.alloc ((J.new ch).obj none 0 none 0 none 0) := by
  go_enter Try.func26, Try.ntmps26
  go_wp2_with fail
  go_ret
  exact ⟨rfl, rfl⟩


/-- At block b lies the Join j; what it leads to lies in blocks of which S holds; its body is a row of the call's own, from block base on. -/
structure JAt (w : World) (S : Nat → Prop) (base b : Nat) (AM : Option Addr) (cM : Nat) (AP : Option Addr) (cP : Nat) (AB : Option Addr) (cB : Nat) (j : J) : Prop where
  ch : w.cell? ⟨b, 0, none⟩ = some (.int .i64 j.ch)
  nx : w.cell? ⟨b, 1, none⟩ = some (.int .i64 j.next)
  lf : w.cell? ⟨b, 2, none⟩ = some (.int .i64 j.left)
  wh : w.cell? ⟨b, 3, none⟩ = some (.bool j.whole)
  id : w.cell? ⟨b, 4, none⟩ = some (.int .i64 j.m.id)
  nm : w.cell? ⟨b, 5, none⟩ = some (.string j.m.nm)
  ty : w.cell? ⟨b, 6, none⟩ = some (.string j.m.ty)
  ex : w.cell? ⟨b, 7, none⟩ = some (.string j.m.ex)
  ky : w.cell? ⟨b, 8, none⟩ = some (.string j.m.ky)
  tx : w.cell? ⟨b, 9, none⟩ = some (.string j.m.tx)
  co : w.cell? ⟨b, 10, none⟩ = some (.int .i64 j.m.co)
  cn : w.cell? ⟨b, 11, none⟩ = some (.int .i64 j.m.cn)
  tg : w.cell? ⟨b, 12, none⟩ = some (.int .u64 j.m.tg)
  fl : w.cell? ⟨b, 13, none⟩ = some (.bool j.m.fl)
  bk : w.cell? ⟨b, 14, none⟩ = some (.bool j.m.bk)
  ar : w.cell? ⟨b, 15, none⟩ = some (.slice AM j.m.ar.len cM)
  pr : w.cell? ⟨b, 16, none⟩ = some (.slice AP j.props.len cP)
  bo : w.cell? ⟨b, 17, none⟩ = some (.slice AB j.body.length cB)
  frz : ∀ o, w.frozen? ⟨b, o, none⟩ = false
  slm : Sl w S AM j.m.ar
  slp : Sl w S AP j.props
  own : OwnB w base AB cB j.body
theorem JAt.tch {w w' : World} {S T : Nat → Prop} {base b : Nat} {AM AP AB : Option Addr} {cM cP cB : Nat} {j : J} (h : JAt w S base b AM cM AP cP AB cB j) (k : Tch T w w') (hb : ¬ T b) (hS : ∀ x, S x → ¬ T x) (hB : ∀ x, blk AB x → ¬ T x) : JAt w' S base b AM cM AP cP AB cB j :=
  ⟨k.cell h.ch hb, k.cell h.nx hb, k.cell h.lf hb, k.cell h.wh hb, k.cell h.id hb, k.cell h.nm hb, k.cell h.ty hb, k.cell h.ex hb, k.cell h.ky hb, k.cell h.tx hb, k.cell h.co hb, k.cell h.cn hb, k.cell h.tg hb, k.cell h.fl hb, k.cell h.bk hb, k.cell h.ar hb, k.cell h.pr hb, k.cell h.bo hb, fun o => (k.frozen (a := ⟨b, o, none⟩) (show b < w.heap.size from World.block_lt_of_cell? w _ h.ch) hb).trans (h.frz o), h.slm.tch k hS, h.slp.tch k hS, h.own.tch k hB⟩
theorem JAt.still {w w' : World} {S : Nat → Prop} {base b : Nat} {AM AP AB : Option Addr} {cM cP cB : Nat} {j : J} (h : JAt w S base b AM cM AP cP AB cB j) (k : Still w w') : JAt w' S base b AM cM AP cP AB cB j := h.tch k (fun f => f) (fun _ _ f => f) (fun _ _ f => f)
theorem JAt.new (ch : Int) (w : World) (S : Nat → Prop) (base : Nat) : JAt (w.alloc ((J.new ch).obj none 0 none 0 none 0)) S base w.heap.size none 0 none 0 none 0 (J.new ch) := by
  refine ⟨?_, ?_, ?_, ?_, ?_, ?_, ?_, ?_, ?_, ?_, ?_, ?_, ?_, ?_, ?_, ?_, ?_, ?_, fun o => by go_simp, Sl.nil _ _ _, Sl.nil _ _ _, OwnB.nil _ _⟩ <;> exact cell_new' rfl rfl

/-- A Join's cells, as a list. -/
abbrev J.vs (j : J) (AM : Option Addr) (cM : Nat) (AP : Option Addr) (cP : Nat) (AB : Option Addr) (cB : Nat) : List Value := [.int .i64 j.ch, .int .i64 j.next, .int .i64 j.left, .bool j.whole, .int .i64 j.m.id, .string j.m.nm, .string j.m.ty, .string j.m.ex, .string j.m.ky, .string j.m.tx, .int .i64 j.m.co, .int .i64 j.m.cn, .int .u64 j.m.tg, .bool j.m.fl, .bool j.m.bk, .slice AM j.m.ar.len cM, .slice AP j.props.len cP, .slice AB j.body.length cB]
/-- A whole Join is stored over another. -/
theorem JAt.store {w : World} {S S' : Nat → Prop} {base base' b : Nat} {AM AP AB : Option Addr} {cM cP cB : Nat} {j : J} (h : JAt w S base b AM cM AP cP AB cB j) (j' : J) {AM' AP' AB' : Option Addr} {cM' cP' cB' : Nat}
    (hm : Sl w S' AM' j'.m.ar) (hp : Sl w S' AP' j'.props) (ho : OwnB w base' AB' cB' j'.body) (hS : ∀ x, S' x → x ≠ b) (hB : ∀ x, blk AB' x → x ≠ b) :
    JAt (w.setCells b 0 (j'.vs AM' cM' AP' cP' AB' cB')) S' base' b AM' cM' AP' cP' AB' cB' j' ∧ Tch (· = b) w (w.setCells b 0 (j'.vs AM' cM' AP' cP' AB' cB')) := by
  have T : Tch (· = b) w (w.setCells b 0 (j'.vs AM' cM' AP' cP' AB' cB')) := Tch.setCells b _ w 0 (Tch.refl _ _) rfl
  have H := World.cell?_setCells_in b (j'.vs AM' cM' AP' cP' AB' cB') 0 w (fun k hk => by
    match k, hk with
    | 0, _ => rw [h.ch]; rfl
    | 1, _ => rw [h.nx]; rfl
    | 2, _ => rw [h.lf]; rfl
    | 3, _ => rw [h.wh]; rfl
    | 4, _ => rw [h.id]; rfl
    | 5, _ => rw [h.nm]; rfl
    | 6, _ => rw [h.ty]; rfl
    | 7, _ => rw [h.ex]; rfl
    | 8, _ => rw [h.ky]; rfl
    | 9, _ => rw [h.tx]; rfl
    | 10, _ => rw [h.co]; rfl
    | 11, _ => rw [h.cn]; rfl
    | 12, _ => rw [h.tg]; rfl
    | 13, _ => rw [h.fl]; rfl
    | 14, _ => rw [h.bk]; rfl
    | 15, _ => rw [h.ar]; rfl
    | 16, _ => rw [h.pr]; rfl
    | 17, _ => rw [h.bo]; rfl
    | (k + 18), hk => exact absurd (show k + 18 < 18 from hk) (by omega))
  refine ⟨⟨H 0 (show 0 < 18 by decide), H 1 (show 1 < 18 by decide), H 2 (show 2 < 18 by decide), H 3 (show 3 < 18 by decide), H 4 (show 4 < 18 by decide), H 5 (show 5 < 18 by decide), H 6 (show 6 < 18 by decide), H 7 (show 7 < 18 by decide), H 8 (show 8 < 18 by decide), H 9 (show 9 < 18 by decide), H 10 (show 10 < 18 by decide), H 11 (show 11 < 18 by decide), H 12 (show 12 < 18 by decide), H 13 (show 13 < 18 by decide), H 14 (show 14 < 18 by decide), H 15 (show 15 < 18 by decide), H 16 (show 16 < 18 by decide), H 17 (show 17 < 18 by decide), fun o => ?_, hm.tch T hS, hp.tch T hS, ho.tch T hB⟩, T⟩
  simp only [J.vs, World.setCells, World.frozen?_setCell]
  exact h.frz o

/-- The place of a whole Join can be written. -/
theorem JAt.there {w : World} {S : Nat → Prop} {base b : Nat} {AM AP AB : Option Addr} {cM cP cB : Nat} {j : J} (h : JAt w S base b AM cM AP cP AB cB j) : w.there b 0 18 := fun k hk => by
  refine ⟨?_, h.frz _⟩
  rw [Nat.zero_add]
  match k, hk with
  | 0, _ => rw [h.ch]; rfl
  | 1, _ => rw [h.nx]; rfl
  | 2, _ => rw [h.lf]; rfl
  | 3, _ => rw [h.wh]; rfl
  | 4, _ => rw [h.id]; rfl
  | 5, _ => rw [h.nm]; rfl
  | 6, _ => rw [h.ty]; rfl
  | 7, _ => rw [h.ex]; rfl
  | 8, _ => rw [h.ky]; rfl
  | 9, _ => rw [h.tx]; rfl
  | 10, _ => rw [h.co]; rfl
  | 11, _ => rw [h.cn]; rfl
  | 12, _ => rw [h.tg]; rfl
  | 13, _ => rw [h.fl]; rfl
  | 14, _ => rw [h.bk]; rfl
  | 15, _ => rw [h.ar]; rfl
  | 16, _ => rw [h.pr]; rfl
  | 17, _ => rw [h.bo]; rfl
  | (k + 18), hk => exact absurd hk (by omega)
theorem size90 : (Try.prog.info? 90).map (·.size) = some 18 := by kernel_rfl
theorem J.vs_one (j' : J) (AM' : Option Addr) (cM' : Nat) (AP' : Option Addr) (cP' : Nat) (AB' : Option Addr) (cB' : Nat) : ((j'.vs AM' cM' AP' cP' AB' cB').toArray.all (·.oneCell')) = true :=
  all_oneCell_toArray (by intro v hv; simp only [J.vs, List.mem_cons, List.not_mem_nil, or_false] at hv; rcases hv with rfl | rfl | rfl | rfl | rfl | rfl | rfl | rfl | rfl | rfl | rfl | rfl | rfl | rfl | rfl | rfl | rfl | rfl <;> rfl)
/-- A whole Join is stored: one step. -/
theorem wp_storeJ {o : Oper} {a : Act} {w : World} {K : Act → World → Prop} {Q : Exit → Act → World → Prop} (x y : Operand) (ho : o.op = .store 90 x y)
    {S : Nat → Prop} {base b : Nat} {AM AP AB : Option Addr} {cM cP cB : Nat} {j : J} (h : JAt w S base b AM cM AP cP AB cB j) (j' : J) (AM' : Option Addr) (cM' : Nat) (AP' : Option Addr) (cP' : Nat) (AB' : Option Addr) (cB' : Nat)
    (hx : a.eval x = .pointer (some ⟨b, 0, none⟩)) (hy : a.eval y = .agg (j'.vs AM' cM' AP' cP' AB' cB').toArray)
    (hK : K (a.put o.dst undef) (w.setCells b 0 (j'.vs AM' cM' AP' cP' AB' cB'))) : o.wp Try.prog a w K Q :=
  wp_store_mid 90 x y ho b 0 _ hx hy h.there size90 (J.vs_one _ _ _ _ _ _ _) hK
theorem wpList_storeJ {ops : Array Oper} {rest : List Oper} {o : Oper} {a : Act} {w : World} {Q : Exit → Act → World → Prop} (hgd : o.guard = none) (x y : Operand) (ho : o.op = .store 90 x y)
    {S : Nat → Prop} {base b : Nat} {AM AP AB : Option Addr} {cM cP cB : Nat} {j : J} (h : JAt w S base b AM cM AP cP AB cB j) (j' : J) (AM' : Option Addr) (cM' : Nat) (AP' : Option Addr) (cP' : Nat) (AB' : Option Addr) (cB' : Nat)
    (hx : a.eval x = .pointer (some ⟨b, 0, none⟩)) (hy : a.eval y = .agg (j'.vs AM' cM' AP' cP' AB' cB').toArray)
    (hK : wpList Try.prog ops Q rest (a.put o.dst undef) (w.setCells b 0 (j'.vs AM' cM' AP' cP' AB' cB'))) : wpList Try.prog ops Q (o :: rest) a w :=
  wpList_plain hgd fun _ h' => wp_storeJ x y ho h j' AM' cM' AP' cP' AB' cB' hx hy (h' _ _ hK)
theorem step_storeJ {ops : Array Oper} {o : Oper} {a : Act} {w : World} {K : Act → World → Prop} {Q : Exit → Act → World → Prop} (hw : Region.wanted o (yielded ops a.tmps) = true) (x y : Operand) (ho : o.op = .store 90 x y)
    {S : Nat → Prop} {base b : Nat} {AM AP AB : Option Addr} {cM cP cB : Nat} {j : J} (h : JAt w S base b AM cM AP cP AB cB j) (j' : J) (AM' : Option Addr) (cM' : Nat) (AP' : Option Addr) (cP' : Nat) (AB' : Option Addr) (cB' : Nat)
    (hx : a.eval x = .pointer (some ⟨b, 0, none⟩)) (hy : a.eval y = .agg (j'.vs AM' cM' AP' cP' AB' cB').toArray)
    (hK : K (a.put o.dst undef) (w.setCells b 0 (j'.vs AM' cM' AP' cP' AB' cB'))) : if Region.wanted o (yielded ops a.tmps) = true then o.wp Try.prog a w K Q else K (a.put o.dst undef) w := by
  rw [if_pos hw]
  exact wp_storeJ x y ho h j' AM' cM' AP' cP' AB' cB' hx hy hK

set_option maxHeartbeats 1000000 in
theorem forget56 (j : J) (e : Int) (S : Nat → Prop) (base b : Nat) (AM AP AB : Option Addr) (cM cP cB : Nat) (w : World) (h : JAt w S base b AM cM AP cP AB cB j) (hS : ∀ x, S x → x ≠ b) :
    Calls Try.prog 56 #[.pointer (some ⟨b, 0, none⟩), .int .i64 e] w fun r w' => r = .returned (.tuple #[.bool false, .int .i64 e]) ∧ JAt w' S base b none 0 none 0 none 0 (J.new j.ch) ∧ Tch (· = b) w w' := by
  have x0 := h.ch
  have HT := Kp.mk h; have HS := Kp.mk hS; clear h hS
  obtain ⟨h1, h2⟩ := HT.out.store (S' := S) (base' := base) (J.new j.ch) (AM' := none) (AP' := none) (AB' := none) (cM' := 0) (cP' := 0) (cB' := 0) (Sl.nil _ _ _) (Sl.nil _ _ _) (OwnB.nil _ _) HS.out (fun x ⟨a, ha, _⟩ => by cases ha)
  have H1 := Kp.mk h1; have H2 := Kp.mk h2; clear h1 h2
  go_enter Try.func56, Try.ntmps56
  go_wp2_with (refine wpList_storeJ rfl (.tmp 12) (.tmp 11) rfl HT.out (J.new j.ch) none 0 none 0 none 0 rfl rfl ?_; generalize w.setCells b 0 ((J.new j.ch).vs none 0 none 0 none 0) = w2 at *)
  go_ret2
  exact ⟨rfl, H1.out, H2.out⟩
end Go.Proofs.Ytaeainkfllfdfaa
/- D5: content.Join: method, header, part. -/
namespace Go.Proofs.Ytaeainkfllfdfaa
open Go.RowKit
set_option linter.unusedVariables false
set_option linter.unusedSimpArgs false
set_option maxRecDepth 100000

/-- What method tells and leaves. -/
def methE (d : List UInt8) : Int := if mgE d = 0 then (if bearsB (mgM d).id then 0 else 503) else mgE d
def J.met (ch : Int) (m : M) : J := ⟨ch, 2, 0, false, m, .nil, []⟩
def J.meth (j : J) (d : List UInt8) : J := J.met j.ch (mgM d)

set_option maxHeartbeats 2000000 in
theorem method53 (j : J) (f : Fr) (A : Option Addr) (c : Nat) (S SF : Nat → Prop) (base b : Nat) (AM AP AB : Option Addr) (cM cP cB : Nat) (w : World) (h : JAt w S base b AM cM AP cP AB cB j)
    (h0 : f.d.length ≤ 140737488351232) (h1 : f.d.length ≤ c) (h2 : c ≤ 9223372036854775807) (hB : Bs w SF A f.d) :
    Calls Try.prog 53 #[.pointer (some ⟨b, 0, none⟩), .agg #[.int .i64 f.k, .int .i64 f.ch, .slice A f.d.length c]] w fun r w' =>
      r = .returned (.int .i64 (methE f.d)) ∧ (∃ AM' cM', JAt w' (fun x => w.heap.size ≤ x) base b AM' cM' none 0 none 0 (j.meth f.d)) ∧ Tch (· = b) w w' := by
  have HBL := Kp.mk (World.block_lt_of_cell? w _ h.ch)
  have HJ := Kp.mk h; clear h
  have HB := Kp.mk hB; clear hB
  go_enter Try.func53, Try.ntmps53
  go_wp2_with fail
  refine (get36n f.d A c f.d.length SF _ rfl h0 h1 h2 (HB.out.still ((Still.refl _).alloc _))).mono ?_
  rintro e w1 ⟨A1, c1, rfl, hs1, ht1⟩
  have HS1 := Kp.mk hs1; clear hs1
  have HT1 := Kp.mk (((Still.refl w).alloc _).strans ht1); clear ht1
  have HE := Kp.mk (show methE f.d = if mgE f.d = 0 then (if bearsB (mgM f.d).id then 0 else 503) else mgE f.d from rfl)
  generalize hgm : mgM f.d = m at *
  have HGM := Kp.mk hgm; clear hgm
  generalize mgE f.d = e at *
  have ht0 : Still w (w1.alloc (m.obj A1 c1)) := HT1.out.alloc _
  have hm0 := MAt.new (c := c1) m HS1.out
  change MAt (w1.alloc (m.obj A1 c1)) _ _ _ _ _ at hm0
  have hxb : w1.heap.size ≠ b := by have := HBL.out; have := HT1.out.size; omega
  have HXB := Kp.mk hxb
  have HM := Kp.mk hm0; have HT0 := Kp.mk ht0; clear hm0 ht0
  have HS := Kp.mk (fun W (h0 : W.cell? ⟨b, 0, none⟩ = some (.int .i64 j.ch)) (h1 : MAt W (fun k => (w.alloc (Obj.cells #[Value.int IntKind.i64 f.k, Value.int IntKind.i64 f.ch, Value.slice A f.d.length c] 52)).heap.size ≤ k) w1.heap.size A1 c1 m) => show (fun W => W.cell? ⟨b, 0, none⟩ = some (.int .i64 j.ch) ∧ W.cell? ⟨w1.heap.size, 0, none⟩ = some (.int .i64 m.id) ∧ W.cell? ⟨w1.heap.size, 1, none⟩ = some (.string m.nm) ∧ W.cell? ⟨w1.heap.size, 2, none⟩ = some (.string m.ty) ∧ W.cell? ⟨w1.heap.size, 3, none⟩ = some (.string m.ex) ∧ W.cell? ⟨w1.heap.size, 4, none⟩ = some (.string m.ky) ∧ W.cell? ⟨w1.heap.size, 5, none⟩ = some (.string m.tx) ∧ W.cell? ⟨w1.heap.size, 6, none⟩ = some (.int .i64 m.co) ∧ W.cell? ⟨w1.heap.size, 7, none⟩ = some (.int .i64 m.cn) ∧ W.cell? ⟨w1.heap.size, 8, none⟩ = some (.int .u64 m.tg) ∧ W.cell? ⟨w1.heap.size, 9, none⟩ = some (.bool m.fl) ∧ W.cell? ⟨w1.heap.size, 10, none⟩ = some (.bool m.bk) ∧ W.cell? ⟨w1.heap.size, 11, none⟩ = some (.slice A1 m.ar.len c1)) W from ⟨h0, h1.id, h1.nm, h1.ty, h1.ex, h1.ky, h1.tx, h1.co, h1.cn, h1.tg, h1.fl, h1.bk, h1.ar⟩)
  by_cases he : e = 0
  · subst he
    go_wp2_with fail
    refine (has50 m.id _).mono ?_
    rintro e w2 ⟨rfl, ht2⟩
    have HT2 := Kp.mk (HT0.out.strans ht2)
    have HMx := Kp.mk (HM.out.still ht2)
    have HJ2 := Kp.mk (HJ.out.still HT2.out)
    clear ht2
    generalize w2 = W at *
    cases hbr : bearsB m.id with
    | true =>
      have HC := Kp.mk (show methE f.d = 0 by rw [HE.out]; simp [hbr])
      go_wp2_with fail
      obtain ⟨h1, h2⟩ := (HJ2.out.still ((Still.refl W).drew)).store (S' := fun x => w.heap.size ≤ x) (base' := base) (J.met j.ch m) (AM' := A1) (AP' := none) (AB' := none) (cM' := c1) (cP' := 0) (cB' := 0) ((HMx.out.sl.still ((Still.refl W).drew)).weak (fun x hx => by simp only [World.size_alloc] at hx; omega)) (Sl.nil _ _ _) (OwnB.nil _ _) (fun x hx e => by have := HBL.out; omega) (fun x ⟨a, ha, _⟩ => by cases ha)
      obtain ⟨w3, hw3, H1, H2⟩ : ∃ w3, W.drew.setCells b 0 ((J.met j.ch m).vs A1 c1 none 0 none 0) = w3 ∧ Kp (JAt w3 (fun x => w.heap.size ≤ x) base b A1 c1 none 0 none 0 (J.met j.ch m)) ∧ Kp (Tch (· = b) W.drew w3) := ⟨_, rfl, ⟨h1⟩, ⟨h2⟩⟩
      clear h1 h2
      have hS3 := HS.out w3 (show w3.cell? ⟨b, 0, none⟩ = some (.int .i64 j.ch) from H1.out.ch) ((HMx.out.still ((Still.refl W).drew)).tch H2.out HXB.out (fun x hx e => by have := HBL.out; simp only [World.size_alloc] at hx; omega))
      have HS3 := Kp.mk hS3; clear hS3
      refine wp_region_held_drew (S := fun W => W.cell? ⟨b, 0, none⟩ = some (.int .i64 j.ch) ∧ W.cell? ⟨w1.heap.size, 0, none⟩ = some (.int .i64 m.id) ∧ W.cell? ⟨w1.heap.size, 1, none⟩ = some (.string m.nm) ∧ W.cell? ⟨w1.heap.size, 2, none⟩ = some (.string m.ty) ∧ W.cell? ⟨w1.heap.size, 3, none⟩ = some (.string m.ex) ∧ W.cell? ⟨w1.heap.size, 4, none⟩ = some (.string m.ky) ∧ W.cell? ⟨w1.heap.size, 5, none⟩ = some (.string m.tx) ∧ W.cell? ⟨w1.heap.size, 6, none⟩ = some (.int .i64 m.co) ∧ W.cell? ⟨w1.heap.size, 7, none⟩ = some (.int .i64 m.cn) ∧ W.cell? ⟨w1.heap.size, 8, none⟩ = some (.int .u64 m.tg) ∧ W.cell? ⟨w1.heap.size, 9, none⟩ = some (.bool m.fl) ∧ W.cell? ⟨w1.heap.size, 10, none⟩ = some (.bool m.bk) ∧ W.cell? ⟨w1.heap.size, 11, none⟩ = some (.slice A1 m.ar.len c1)) (by kernel_rfl) ?_ (fun hHeld => ?_)
      · exact HS.out _ (HJ2.out.still ((Still.refl W).drew)).ch (HMx.out.still ((Still.refl W).drew))
      refine wpAnyH_take (i := 0) (v := .pointer (some ⟨b, 0, none⟩)) rfl (by kernel_rfl) (by kernel_rfl) (by kernel_rfl) (fun _ _ _ h => h) (Or.inl ⟨by rfl, ?_⟩) hHeld ?_
      · (intro w hSw; (try dsimp only at hSw); go_simp)
      simp only [Act.put, List.getElem_toArray, List.getElem_cons_zero, List.getElem_cons_succ, List.setIfInBounds_toArray, List.set_cons_zero, List.set_cons_succ]
      refine wpAnyH_take (i := 1) (v := .pointer (some ⟨b, 0, none⟩)) rfl (by kernel_rfl) (by kernel_rfl) (by kernel_rfl) (fun _ _ _ h => h) (Or.inl ⟨by rfl, ?_⟩) hHeld ?_
      · (intro w hSw; (try dsimp only at hSw); go_simp)
      simp only [Act.put, List.getElem_toArray, List.getElem_cons_zero, List.getElem_cons_succ, List.setIfInBounds_toArray, List.set_cons_zero, List.set_cons_succ]
      refine wpAnyH_take (i := 2) (v := .pointer (some ⟨b, 0, none⟩)) rfl (by kernel_rfl) (by kernel_rfl) (by kernel_rfl) (fun _ _ _ h => h) (Or.inl ⟨by rfl, ?_⟩) hHeld ?_
      · (intro w hSw; (try dsimp only at hSw); go_simp)
      simp only [Act.put, List.getElem_toArray, List.getElem_cons_zero, List.getElem_cons_succ, List.setIfInBounds_toArray, List.set_cons_zero, List.set_cons_succ]
      refine wpAnyH_take (i := 3) (v := .pointer (some ⟨b, 0, none⟩)) rfl (by kernel_rfl) (by kernel_rfl) (by kernel_rfl) (fun _ _ _ h => h) (Or.inl ⟨by rfl, ?_⟩) hHeld ?_
      · (intro w hSw; (try dsimp only at hSw); go_simp)
      simp only [Act.put, List.getElem_toArray, List.getElem_cons_zero, List.getElem_cons_succ, List.setIfInBounds_toArray, List.set_cons_zero, List.set_cons_succ]
      refine wpAnyH_take (i := 4) (v := .int .i64 j.ch) rfl (by kernel_rfl) (by kernel_rfl) (by kernel_rfl) (fun _ _ _ h => h) (Or.inl ⟨by rfl, ?_⟩) hHeld ?_
      · (intro w hSw; (try dsimp only at hSw); go_simp)
      simp only [Act.put, List.getElem_toArray, List.getElem_cons_zero, List.getElem_cons_succ, List.setIfInBounds_toArray, List.set_cons_zero, List.set_cons_succ]
      refine wpAnyH_take (i := 5) (v := .agg #[.int .i64 m.id, .string m.nm, .string m.ty, .string m.ex, .string m.ky, .string m.tx, .int .i64 m.co, .int .i64 m.cn, .int .u64 m.tg, .bool m.fl, .bool m.bk, .slice A1 m.ar.len c1]) rfl (by kernel_rfl) (by kernel_rfl) (by kernel_rfl) (fun _ _ _ h => h) (Or.inl ⟨by rfl, ?_⟩) hHeld ?_
      · (intro w hSw; (try dsimp only at hSw); go_simp)
      simp only [Act.put, List.getElem_toArray, List.getElem_cons_zero, List.getElem_cons_succ, List.setIfInBounds_toArray, List.set_cons_zero, List.set_cons_succ]
      refine wpAnyH_take (i := 6) (v := .agg #[.int .i64 j.ch, .int .i64 2, .int .i64 0, .bool false, .int .i64 m.id, .string m.nm, .string m.ty, .string m.ex, .string m.ky, .string m.tx, .int .i64 m.co, .int .i64 m.cn, .int .u64 m.tg, .bool m.fl, .bool m.bk, .slice A1 m.ar.len c1, .slice none 0 0, .slice none 0 0]) rfl (by kernel_rfl) (by kernel_rfl) (by kernel_rfl) (fun _ _ _ h => h) (Or.inl ⟨by rfl, ?_⟩) hHeld ?_
      · (intro w hSw; (try dsimp only at hSw); go_simp)
      simp only [Act.put, List.getElem_toArray, List.getElem_cons_zero, List.getElem_cons_succ, List.setIfInBounds_toArray, List.set_cons_zero, List.set_cons_succ]
      refine wpAnyH_take (i := 7) (v := .pointer (some ⟨b, 0, none⟩)) rfl (by kernel_rfl) (by kernel_rfl) (by kernel_rfl) (fun _ _ _ h => h) (Or.inl ⟨by rfl, ?_⟩) hHeld ?_
      · (intro w hSw; (try dsimp only at hSw); go_simp)
      simp only [Act.put, List.getElem_toArray, List.getElem_cons_zero, List.getElem_cons_succ, List.setIfInBounds_toArray, List.set_cons_zero, List.set_cons_succ]
      refine wpAnyH_ready (rs := [8]) (by kernel_rfl) (by simp) ?_
      refine AllReadyH.cons (o := ?o) ?ho (fun K hK => ?_) AllReadyH.nil
      case ho => (first | (simp only [List.getElem?_toArray, List.getElem?_cons_succ, List.getElem?_cons_zero]; done) | (simp only [List.getElem?_toArray, List.getElem?_cons_succ, List.getElem?_cons_zero]; rfl))
      refine step_storeJ (by rfl) _ _ rfl (HJ2.out.still ((Still.refl W).drew)) (J.met j.ch m) A1 c1 none 0 none 0 rfl rfl ?_
      rw [hw3]
      refine hK.out _ _ HS3.out (fun _ => ?_)
      refine wpAnyH_done (by kernel_rfl) ?_ _
      clear hHeld hK hw3
      go_wp2_with fail
      go_ret
      exact ⟨ret_int HC.out.symm, ⟨A1, c1, by unfold J.meth; rw [HGM.out]; exact H1.out⟩, (Tch.trans (S := (· = b)) (Tch.of_still HT2.out.drew) H2.out (fun x _ hx => hx))⟩
    | false =>
      have HC := Kp.mk (show methE f.d = 503 by rw [HE.out]; simp [hbr])
      go_wp2_with fail
      obtain ⟨h1, h2⟩ := (HJ2.out.still ((Still.refl W).drew)).store (S' := fun x => w.heap.size ≤ x) (base' := base) (J.met j.ch m) (AM' := A1) (AP' := none) (AB' := none) (cM' := c1) (cP' := 0) (cB' := 0) ((HMx.out.sl.still ((Still.refl W).drew)).weak (fun x hx => by simp only [World.size_alloc] at hx; omega)) (Sl.nil _ _ _) (OwnB.nil _ _) (fun x hx e => by have := HBL.out; omega) (fun x ⟨a, ha, _⟩ => by cases ha)
      obtain ⟨w3, hw3, H1, H2⟩ : ∃ w3, W.drew.setCells b 0 ((J.met j.ch m).vs A1 c1 none 0 none 0) = w3 ∧ Kp (JAt w3 (fun x => w.heap.size ≤ x) base b A1 c1 none 0 none 0 (J.met j.ch m)) ∧ Kp (Tch (· = b) W.drew w3) := ⟨_, rfl, ⟨h1⟩, ⟨h2⟩⟩
      clear h1 h2
      have hS3 := HS.out w3 (show w3.cell? ⟨b, 0, none⟩ = some (.int .i64 j.ch) from H1.out.ch) ((HMx.out.still ((Still.refl W).drew)).tch H2.out HXB.out (fun x hx e => by have := HBL.out; simp only [World.size_alloc] at hx; omega))
      have HS3 := Kp.mk hS3; clear hS3
      refine wp_region_held_drew (S := fun W => W.cell? ⟨b, 0, none⟩ = some (.int .i64 j.ch) ∧ W.cell? ⟨w1.heap.size, 0, none⟩ = some (.int .i64 m.id) ∧ W.cell? ⟨w1.heap.size, 1, none⟩ = some (.string m.nm) ∧ W.cell? ⟨w1.heap.size, 2, none⟩ = some (.string m.ty) ∧ W.cell? ⟨w1.heap.size, 3, none⟩ = some (.string m.ex) ∧ W.cell? ⟨w1.heap.size, 4, none⟩ = some (.string m.ky) ∧ W.cell? ⟨w1.heap.size, 5, none⟩ = some (.string m.tx) ∧ W.cell? ⟨w1.heap.size, 6, none⟩ = some (.int .i64 m.co) ∧ W.cell? ⟨w1.heap.size, 7, none⟩ = some (.int .i64 m.cn) ∧ W.cell? ⟨w1.heap.size, 8, none⟩ = some (.int .u64 m.tg) ∧ W.cell? ⟨w1.heap.size, 9, none⟩ = some (.bool m.fl) ∧ W.cell? ⟨w1.heap.size, 10, none⟩ = some (.bool m.bk) ∧ W.cell? ⟨w1.heap.size, 11, none⟩ = some (.slice A1 m.ar.len c1)) (by kernel_rfl) ?_ (fun hHeld => ?_)
      · exact HS.out _ (HJ2.out.still ((Still.refl W).drew)).ch (HMx.out.still ((Still.refl W).drew))
      refine wpAnyH_take (i := 0) (v := .pointer (some ⟨b, 0, none⟩)) rfl (by kernel_rfl) (by kernel_rfl) (by kernel_rfl) (fun _ _ _ h => h) (Or.inl ⟨by rfl, ?_⟩) hHeld ?_
      · (intro w hSw; (try dsimp only at hSw); go_simp)
      simp only [Act.put, List.getElem_toArray, List.getElem_cons_zero, List.getElem_cons_succ, List.setIfInBounds_toArray, List.set_cons_zero, List.set_cons_succ]
      refine wpAnyH_take (i := 1) (v := .pointer (some ⟨b, 0, none⟩)) rfl (by kernel_rfl) (by kernel_rfl) (by kernel_rfl) (fun _ _ _ h => h) (Or.inl ⟨by rfl, ?_⟩) hHeld ?_
      · (intro w hSw; (try dsimp only at hSw); go_simp)
      simp only [Act.put, List.getElem_toArray, List.getElem_cons_zero, List.getElem_cons_succ, List.setIfInBounds_toArray, List.set_cons_zero, List.set_cons_succ]
      refine wpAnyH_take (i := 2) (v := .pointer (some ⟨b, 0, none⟩)) rfl (by kernel_rfl) (by kernel_rfl) (by kernel_rfl) (fun _ _ _ h => h) (Or.inl ⟨by rfl, ?_⟩) hHeld ?_
      · (intro w hSw; (try dsimp only at hSw); go_simp)
      simp only [Act.put, List.getElem_toArray, List.getElem_cons_zero, List.getElem_cons_succ, List.setIfInBounds_toArray, List.set_cons_zero, List.set_cons_succ]
      refine wpAnyH_take (i := 3) (v := .pointer (some ⟨b, 0, none⟩)) rfl (by kernel_rfl) (by kernel_rfl) (by kernel_rfl) (fun _ _ _ h => h) (Or.inl ⟨by rfl, ?_⟩) hHeld ?_
      · (intro w hSw; (try dsimp only at hSw); go_simp)
      simp only [Act.put, List.getElem_toArray, List.getElem_cons_zero, List.getElem_cons_succ, List.setIfInBounds_toArray, List.set_cons_zero, List.set_cons_succ]
      refine wpAnyH_take (i := 4) (v := .int .i64 j.ch) rfl (by kernel_rfl) (by kernel_rfl) (by kernel_rfl) (fun _ _ _ h => h) (Or.inl ⟨by rfl, ?_⟩) hHeld ?_
      · (intro w hSw; (try dsimp only at hSw); go_simp)
      simp only [Act.put, List.getElem_toArray, List.getElem_cons_zero, List.getElem_cons_succ, List.setIfInBounds_toArray, List.set_cons_zero, List.set_cons_succ]
      refine wpAnyH_take (i := 5) (v := .agg #[.int .i64 m.id, .string m.nm, .string m.ty, .string m.ex, .string m.ky, .string m.tx, .int .i64 m.co, .int .i64 m.cn, .int .u64 m.tg, .bool m.fl, .bool m.bk, .slice A1 m.ar.len c1]) rfl (by kernel_rfl) (by kernel_rfl) (by kernel_rfl) (fun _ _ _ h => h) (Or.inl ⟨by rfl, ?_⟩) hHeld ?_
      · (intro w hSw; (try dsimp only at hSw); go_simp)
      simp only [Act.put, List.getElem_toArray, List.getElem_cons_zero, List.getElem_cons_succ, List.setIfInBounds_toArray, List.set_cons_zero, List.set_cons_succ]
      refine wpAnyH_take (i := 6) (v := .agg #[.int .i64 j.ch, .int .i64 2, .int .i64 0, .bool false, .int .i64 m.id, .string m.nm, .string m.ty, .string m.ex, .string m.ky, .string m.tx, .int .i64 m.co, .int .i64 m.cn, .int .u64 m.tg, .bool m.fl, .bool m.bk, .slice A1 m.ar.len c1, .slice none 0 0, .slice none 0 0]) rfl (by kernel_rfl) (by kernel_rfl) (by kernel_rfl) (fun _ _ _ h => h) (Or.inl ⟨by rfl, ?_⟩) hHeld ?_
      · (intro w hSw; (try dsimp only at hSw); go_simp)
      simp only [Act.put, List.getElem_toArray, List.getElem_cons_zero, List.getElem_cons_succ, List.setIfInBounds_toArray, List.set_cons_zero, List.set_cons_succ]
      refine wpAnyH_take (i := 7) (v := .pointer (some ⟨b, 0, none⟩)) rfl (by kernel_rfl) (by kernel_rfl) (by kernel_rfl) (fun _ _ _ h => h) (Or.inl ⟨by rfl, ?_⟩) hHeld ?_
      · (intro w hSw; (try dsimp only at hSw); go_simp)
      simp only [Act.put, List.getElem_toArray, List.getElem_cons_zero, List.getElem_cons_succ, List.setIfInBounds_toArray, List.set_cons_zero, List.set_cons_succ]
      refine wpAnyH_ready (rs := [8]) (by kernel_rfl) (by simp) ?_
      refine AllReadyH.cons (o := ?o) ?ho (fun K hK => ?_) AllReadyH.nil
      case ho => (first | (simp only [List.getElem?_toArray, List.getElem?_cons_succ, List.getElem?_cons_zero]; done) | (simp only [List.getElem?_toArray, List.getElem?_cons_succ, List.getElem?_cons_zero]; rfl))
      refine step_storeJ (by rfl) _ _ rfl (HJ2.out.still ((Still.refl W).drew)) (J.met j.ch m) A1 c1 none 0 none 0 rfl rfl ?_
      rw [hw3]
      refine hK.out _ _ HS3.out (fun _ => ?_)
      refine wpAnyH_done (by kernel_rfl) ?_ _
      clear hHeld hK hw3
      go_wp2_with fail
      go_ret
      exact ⟨ret_int HC.out.symm, ⟨A1, c1, by unfold J.meth; rw [HGM.out]; exact H1.out⟩, (Tch.trans (S := (· = b)) (Tch.of_still HT2.out.drew) H2.out (fun x _ hx => hx))⟩
  · have HC := Kp.mk (show methE f.d = e by rw [HE.out]; simp [he])
    have HT2 := HT0
    have HMx := HM
    have HJ2 := Kp.mk (HJ.out.still HT2.out)
    have heb : (e == 0) = false := by simpa using he
    clear HE
    go_wp2_with fail
    clear HM HT0
    generalize w1.alloc (m.obj A1 c1) = W at *
    obtain ⟨h1, h2⟩ := (HJ2.out.still ((Still.refl W).drew)).store (S' := fun x => w.heap.size ≤ x) (base' := base) (J.met j.ch m) (AM' := A1) (AP' := none) (AB' := none) (cM' := c1) (cP' := 0) (cB' := 0) ((HMx.out.sl.still ((Still.refl W).drew)).weak (fun x hx => by simp only [World.size_alloc] at hx; omega)) (Sl.nil _ _ _) (OwnB.nil _ _) (fun x hx e => by have := HBL.out; omega) (fun x ⟨a, ha, _⟩ => by cases ha)
    obtain ⟨w3, hw3, H1, H2⟩ : ∃ w3, W.drew.setCells b 0 ((J.met j.ch m).vs A1 c1 none 0 none 0) = w3 ∧ Kp (JAt w3 (fun x => w.heap.size ≤ x) base b A1 c1 none 0 none 0 (J.met j.ch m)) ∧ Kp (Tch (· = b) W.drew w3) := ⟨_, rfl, ⟨h1⟩, ⟨h2⟩⟩
    clear h1 h2
    have hS3 := HS.out w3 (show w3.cell? ⟨b, 0, none⟩ = some (.int .i64 j.ch) from H1.out.ch) ((HMx.out.still ((Still.refl W).drew)).tch H2.out HXB.out (fun x hx e => by have := HBL.out; simp only [World.size_alloc] at hx; omega))
    have HS3 := Kp.mk hS3; clear hS3
    refine wp_region_held_drew (S := fun W => W.cell? ⟨b, 0, none⟩ = some (.int .i64 j.ch) ∧ W.cell? ⟨w1.heap.size, 0, none⟩ = some (.int .i64 m.id) ∧ W.cell? ⟨w1.heap.size, 1, none⟩ = some (.string m.nm) ∧ W.cell? ⟨w1.heap.size, 2, none⟩ = some (.string m.ty) ∧ W.cell? ⟨w1.heap.size, 3, none⟩ = some (.string m.ex) ∧ W.cell? ⟨w1.heap.size, 4, none⟩ = some (.string m.ky) ∧ W.cell? ⟨w1.heap.size, 5, none⟩ = some (.string m.tx) ∧ W.cell? ⟨w1.heap.size, 6, none⟩ = some (.int .i64 m.co) ∧ W.cell? ⟨w1.heap.size, 7, none⟩ = some (.int .i64 m.cn) ∧ W.cell? ⟨w1.heap.size, 8, none⟩ = some (.int .u64 m.tg) ∧ W.cell? ⟨w1.heap.size, 9, none⟩ = some (.bool m.fl) ∧ W.cell? ⟨w1.heap.size, 10, none⟩ = some (.bool m.bk) ∧ W.cell? ⟨w1.heap.size, 11, none⟩ = some (.slice A1 m.ar.len c1)) (by kernel_rfl) ?_ (fun hHeld => ?_)
    · exact HS.out _ (HJ2.out.still ((Still.refl W).drew)).ch (HMx.out.still ((Still.refl W).drew))
    refine wpAnyH_take (i := 0) (v := .pointer (some ⟨b, 0, none⟩)) rfl (by kernel_rfl) (by kernel_rfl) (by kernel_rfl) (fun _ _ _ h => h) (Or.inl ⟨by rfl, ?_⟩) hHeld ?_
    · (intro w hSw; (try dsimp only at hSw); go_simp)
    simp only [Act.put, List.getElem_toArray, List.getElem_cons_zero, List.getElem_cons_succ, List.setIfInBounds_toArray, List.set_cons_zero, List.set_cons_succ]
    refine wpAnyH_take (i := 1) (v := .pointer (some ⟨b, 0, none⟩)) rfl (by kernel_rfl) (by kernel_rfl) (by kernel_rfl) (fun _ _ _ h => h) (Or.inl ⟨by rfl, ?_⟩) hHeld ?_
    · (intro w hSw; (try dsimp only at hSw); go_simp)
    simp only [Act.put, List.getElem_toArray, List.getElem_cons_zero, List.getElem_cons_succ, List.setIfInBounds_toArray, List.set_cons_zero, List.set_cons_succ]
    refine wpAnyH_take (i := 2) (v := .pointer (some ⟨b, 0, none⟩)) rfl (by kernel_rfl) (by kernel_rfl) (by kernel_rfl) (fun _ _ _ h => h) (Or.inl ⟨by rfl, ?_⟩) hHeld ?_
    · (intro w hSw; (try dsimp only at hSw); go_simp)
    simp only [Act.put, List.getElem_toArray, List.getElem_cons_zero, List.getElem_cons_succ, List.setIfInBounds_toArray, List.set_cons_zero, List.set_cons_succ]
    refine wpAnyH_take (i := 3) (v := .pointer (some ⟨b, 0, none⟩)) rfl (by kernel_rfl) (by kernel_rfl) (by kernel_rfl) (fun _ _ _ h => h) (Or.inl ⟨by rfl, ?_⟩) hHeld ?_
    · (intro w hSw; (try dsimp only at hSw); go_simp)
    simp only [Act.put, List.getElem_toArray, List.getElem_cons_zero, List.getElem_cons_succ, List.setIfInBounds_toArray, List.set_cons_zero, List.set_cons_succ]
    refine wpAnyH_take (i := 4) (v := .int .i64 j.ch) rfl (by kernel_rfl) (by kernel_rfl) (by kernel_rfl) (fun _ _ _ h => h) (Or.inl ⟨by rfl, ?_⟩) hHeld ?_
    · (intro w hSw; (try dsimp only at hSw); go_simp)
    simp only [Act.put, List.getElem_toArray, List.getElem_cons_zero, List.getElem_cons_succ, List.setIfInBounds_toArray, List.set_cons_zero, List.set_cons_succ]
    refine wpAnyH_take (i := 5) (v := .agg #[.int .i64 m.id, .string m.nm, .string m.ty, .string m.ex, .string m.ky, .string m.tx, .int .i64 m.co, .int .i64 m.cn, .int .u64 m.tg, .bool m.fl, .bool m.bk, .slice A1 m.ar.len c1]) rfl (by kernel_rfl) (by kernel_rfl) (by kernel_rfl) (fun _ _ _ h => h) (Or.inl ⟨by rfl, ?_⟩) hHeld ?_
    · (intro w hSw; (try dsimp only at hSw); go_simp)
    simp only [Act.put, List.getElem_toArray, List.getElem_cons_zero, List.getElem_cons_succ, List.setIfInBounds_toArray, List.set_cons_zero, List.set_cons_succ]
    refine wpAnyH_take (i := 6) (v := .agg #[.int .i64 j.ch, .int .i64 2, .int .i64 0, .bool false, .int .i64 m.id, .string m.nm, .string m.ty, .string m.ex, .string m.ky, .string m.tx, .int .i64 m.co, .int .i64 m.cn, .int .u64 m.tg, .bool m.fl, .bool m.bk, .slice A1 m.ar.len c1, .slice none 0 0, .slice none 0 0]) rfl (by kernel_rfl) (by kernel_rfl) (by kernel_rfl) (fun _ _ _ h => h) (Or.inl ⟨by rfl, ?_⟩) hHeld ?_
    · (intro w hSw; (try dsimp only at hSw); go_simp)
    simp only [Act.put, List.getElem_toArray, List.getElem_cons_zero, List.getElem_cons_succ, List.setIfInBounds_toArray, List.set_cons_zero, List.set_cons_succ]
    refine wpAnyH_take (i := 7) (v := .pointer (some ⟨b, 0, none⟩)) rfl (by kernel_rfl) (by kernel_rfl) (by kernel_rfl) (fun _ _ _ h => h) (Or.inl ⟨by rfl, ?_⟩) hHeld ?_
    · (intro w hSw; (try dsimp only at hSw); go_simp)
    simp only [Act.put, List.getElem_toArray, List.getElem_cons_zero, List.getElem_cons_succ, List.setIfInBounds_toArray, List.set_cons_zero, List.set_cons_succ]
    refine wpAnyH_ready (rs := [8]) (by kernel_rfl) (by simp) ?_
    refine AllReadyH.cons (o := ?o) ?ho (fun K hK => ?_) AllReadyH.nil
    case ho => (first | (simp only [List.getElem?_toArray, List.getElem?_cons_succ, List.getElem?_cons_zero]; done) | (simp only [List.getElem?_toArray, List.getElem?_cons_succ, List.getElem?_cons_zero]; rfl))
    refine step_storeJ (by rfl) _ _ rfl (HJ2.out.still ((Still.refl W).drew)) (J.met j.ch m) A1 c1 none 0 none 0 rfl rfl ?_
    rw [hw3]
    refine hK.out _ _ HS3.out (fun _ => ?_)
    refine wpAnyH_done (by kernel_rfl) ?_ _
    clear hHeld hK hw3
    go_wp2_with fail
    go_ret
    exact ⟨ret_int HC.out.symm, ⟨A1, c1, by unfold J.meth; rw [HGM.out]; exact H1.out⟩, (Tch.trans (S := (· = b)) (Tch.of_still HT2.out.drew) H2.out (fun x _ hx => hx))⟩
end Go.Proofs.Ytaeainkfllfdfaa
/- D6: content.Join: header. -/
namespace Go.Proofs.Ytaeainkfllfdfaa
open Go.RowKit
set_option linter.unusedVariables false
set_option linter.unusedSimpArgs false
set_option maxRecDepth 100000

/-- What header tells and leaves. -/
def headE (d : List UInt8) : Int := if d.length < 8 then 502 else if getE (d.drop 8) = 0 then (if 65536 < val (d.take 8) then 502 else 0) else 502
def J.head (j : J) (d : List UInt8) : J := if headE d = 0 then { j with props := getL (d.drop 8), left := (val (d.take 8) : Int), next := 3 } else j

theorem cs_ne {w : World} {b o o' : Nat} {u v : Value} (h : w.cell? ⟨b, o, none⟩ = some u) (hne : o ≠ o') : (w.setCell ⟨b, o', none⟩ v).cell? ⟨b, o, none⟩ = some u := by
  rw [World.cell?_setCell_other w _ _ _ (by simp [hne, Ne.symm hne])]; exact h
theorem cs_eq {w : World} {b o : Nat} {u : Value} (h : w.cell? ⟨b, o, none⟩ = some u) (v : Value) : (w.setCell ⟨b, o, none⟩ v).cell? ⟨b, o, none⟩ = some v := World.cell?_setCell_same w _ _ h
section
variable {w : World} {S : Nat → Prop} {base b : Nat} {AM AP AB : Option Addr} {cM cP cB : Nat} {j : J}
theorem JAt.setN (h : JAt w S base b AM cM AP cP AB cB j) (hS : ∀ x, S x → x ≠ b) (hB : ∀ x, blk AB x → x ≠ b) (n : Int) : JAt (w.setCell ⟨b, 1, none⟩ (.int .i64 n)) S base b AM cM AP cP AB cB { j with next := n } :=
  have T : Tch (· = b) w (w.setCell ⟨b, 1, none⟩ (.int .i64 n)) := (Tch.refl _ w).setCell _ _ (fun _ => rfl)
  ⟨cs_ne h.ch (by decide), cs_eq h.nx _, cs_ne h.lf (by decide), cs_ne h.wh (by decide), cs_ne h.id (by decide), cs_ne h.nm (by decide), cs_ne h.ty (by decide), cs_ne h.ex (by decide), cs_ne h.ky (by decide), cs_ne h.tx (by decide), cs_ne h.co (by decide), cs_ne h.cn (by decide), cs_ne h.tg (by decide), cs_ne h.fl (by decide), cs_ne h.bk (by decide), cs_ne h.ar (by decide), cs_ne h.pr (by decide), cs_ne h.bo (by decide), fun o => by rw [World.frozen?_setCell]; exact h.frz o, h.slm.tch T hS, h.slp.tch T hS, h.own.tch T hB⟩
theorem JAt.setL (h : JAt w S base b AM cM AP cP AB cB j) (hS : ∀ x, S x → x ≠ b) (hB : ∀ x, blk AB x → x ≠ b) (n : Int) : JAt (w.setCell ⟨b, 2, none⟩ (.int .i64 n)) S base b AM cM AP cP AB cB { j with left := n } :=
  have T : Tch (· = b) w (w.setCell ⟨b, 2, none⟩ (.int .i64 n)) := (Tch.refl _ w).setCell _ _ (fun _ => rfl)
  ⟨cs_ne h.ch (by decide), cs_ne h.nx (by decide), cs_eq h.lf _, cs_ne h.wh (by decide), cs_ne h.id (by decide), cs_ne h.nm (by decide), cs_ne h.ty (by decide), cs_ne h.ex (by decide), cs_ne h.ky (by decide), cs_ne h.tx (by decide), cs_ne h.co (by decide), cs_ne h.cn (by decide), cs_ne h.tg (by decide), cs_ne h.fl (by decide), cs_ne h.bk (by decide), cs_ne h.ar (by decide), cs_ne h.pr (by decide), cs_ne h.bo (by decide), fun o => by rw [World.frozen?_setCell]; exact h.frz o, h.slm.tch T hS, h.slp.tch T hS, h.own.tch T hB⟩
theorem JAt.setW (h : JAt w S base b AM cM AP cP AB cB j) (hS : ∀ x, S x → x ≠ b) (hB : ∀ x, blk AB x → x ≠ b) (v : Bool) : JAt (w.setCell ⟨b, 3, none⟩ (.bool v)) S base b AM cM AP cP AB cB { j with whole := v } :=
  have T : Tch (· = b) w (w.setCell ⟨b, 3, none⟩ (.bool v)) := (Tch.refl _ w).setCell _ _ (fun _ => rfl)
  ⟨cs_ne h.ch (by decide), cs_ne h.nx (by decide), cs_ne h.lf (by decide), cs_eq h.wh _, cs_ne h.id (by decide), cs_ne h.nm (by decide), cs_ne h.ty (by decide), cs_ne h.ex (by decide), cs_ne h.ky (by decide), cs_ne h.tx (by decide), cs_ne h.co (by decide), cs_ne h.cn (by decide), cs_ne h.tg (by decide), cs_ne h.fl (by decide), cs_ne h.bk (by decide), cs_ne h.ar (by decide), cs_ne h.pr (by decide), cs_ne h.bo (by decide), fun o => by rw [World.frozen?_setCell]; exact h.frz o, h.slm.tch T hS, h.slp.tch T hS, h.own.tch T hB⟩
theorem JAt.setP (h : JAt w S base b AM cM AP cP AB cB j) (hS : ∀ x, S x → x ≠ b) (hB : ∀ x, blk AB x → x ≠ b) (l : L) (A : Option Addr) (c : Nat) (hl : Sl w S A l) : JAt (w.setCell ⟨b, 16, none⟩ (.slice A l.len c)) S base b AM cM A c AB cB { j with props := l } :=
  have T : Tch (· = b) w (w.setCell ⟨b, 16, none⟩ (.slice A l.len c)) := (Tch.refl _ w).setCell _ _ (fun _ => rfl)
  ⟨cs_ne h.ch (by decide), cs_ne h.nx (by decide), cs_ne h.lf (by decide), cs_ne h.wh (by decide), cs_ne h.id (by decide), cs_ne h.nm (by decide), cs_ne h.ty (by decide), cs_ne h.ex (by decide), cs_ne h.ky (by decide), cs_ne h.tx (by decide), cs_ne h.co (by decide), cs_ne h.cn (by decide), cs_ne h.tg (by decide), cs_ne h.fl (by decide), cs_ne h.bk (by decide), cs_ne h.ar (by decide), cs_eq h.pr _, cs_ne h.bo (by decide), fun o => by rw [World.frozen?_setCell]; exact h.frz o, h.slm.tch T hS, hl.tch T hS, h.own.tch T hB⟩
theorem JAt.setB (h : JAt w S base b AM cM AP cP AB cB j) (hS : ∀ x, S x → x ≠ b) (bs : List UInt8) (A : Option Addr) (c n : Nat) (hn : n = bs.length) (hl : OwnB w base A c bs) (hB : ∀ x, blk A x → x ≠ b) : JAt (w.setCell ⟨b, 17, none⟩ (.slice A n c)) S base b AM cM AP cP A c { j with body := bs } := by
  subst hn
  have T : Tch (· = b) w (w.setCell ⟨b, 17, none⟩ (.slice A bs.length c)) := (Tch.refl _ w).setCell _ _ (fun _ => rfl)
  exact ⟨cs_ne h.ch (by decide), cs_ne h.nx (by decide), cs_ne h.lf (by decide), cs_ne h.wh (by decide), cs_ne h.id (by decide), cs_ne h.nm (by decide), cs_ne h.ty (by decide), cs_ne h.ex (by decide), cs_ne h.ky (by decide), cs_ne h.tx (by decide), cs_ne h.co (by decide), cs_ne h.cn (by decide), cs_ne h.tg (by decide), cs_ne h.fl (by decide), cs_ne h.bk (by decide), cs_ne h.ar (by decide), cs_ne h.pr (by decide), cs_eq h.bo _, fun o => by rw [World.frozen?_setCell]; exact h.frz o, h.slm.tch T hS, h.slp.tch T hS, hl.tch T hB⟩
theorem JAt.weak {S' : Nat → Prop} (h : JAt w S base b AM cM AP cP AB cB j) (hS : ∀ x, S x → S' x) : JAt w S' base b AM cM AP cP AB cB j :=
  ⟨h.ch, h.nx, h.lf, h.wh, h.id, h.nm, h.ty, h.ex, h.ky, h.tx, h.co, h.cn, h.tg, h.fl, h.bk, h.ar, h.pr, h.bo, h.frz, h.slm.weak hS, h.slp.weak hS, h.own⟩
theorem JAt.lt (h : JAt w S base b AM cM AP cP AB cB j) : b < w.heap.size := World.block_lt_of_cell? w _ h.ch
end

set_option maxHeartbeats 1000000 in
theorem header54 (j : J) (f : Fr) (A : Option Addr) (c : Nat) (S SF : Nat → Prop) (base b : Nat) (AM AP AB : Option Addr) (cM cP cB : Nat) (w : World) (h : JAt w S base b AM cM AP cP AB cB j)
    (hS : ∀ x, S x → x ≠ b) (hAB : ∀ x, blk AB x → x ≠ b)
    (h0 : f.d.length ≤ 140737488351232) (h1 : f.d.length ≤ c) (h2 : c ≤ 9223372036854775807) (hB : Bs w SF A f.d) :
    Calls Try.prog 54 #[.pointer (some ⟨b, 0, none⟩), .agg #[.int .i64 f.k, .int .i64 f.ch, .slice A f.d.length c]] w fun r w' =>
      r = .returned (.int .i64 (headE f.d)) ∧ (∃ AP' cP', JAt w' (fun x => S x ∨ w.heap.size ≤ x) base b AM cM AP' cP' AB cB (j.head f.d)) ∧ Tch (· = b) w w' := by
  have HJ := Kp.mk h; clear h
  have HS := Kp.mk hS; clear hS
  have HAB := Kp.mk hAB; clear hAB
  have HB := Kp.mk hB; clear hB
  by_cases h8 : f.d.length < 8
  · have HE := Kp.mk (show headE f.d = 502 by simp [headE, h8])
    have HH := Kp.mk (show j.head f.d = j by simp [J.head, HE.out])
    go_enter Try.func54, Try.ntmps54
    go_wp2_with fail
    go_ret
    exact ⟨ret_int HE.out.symm, ⟨AP, cP, by rw [HH.out]; exact (HJ.out.still ((Still.refl _).alloc _)).weak (fun x hx => .inl hx)⟩, (Tch.refl _ w).alloc _⟩
  · have hc8 : 8 ≤ c := by omega
    go_enter Try.func54, Try.ntmps54
    go_wp2_with fail
    have HED := Kp.mk (show headE f.d = if f.d.length < 8 then 502 else if getE (f.d.drop 8) = 0 then (if 65536 < val (f.d.take 8) then 502 else 0) else 502 from rfl)
    have HHD := Kp.mk (show j.head f.d = if headE f.d = 0 then { j with props := getL (f.d.drop 8), left := (val (f.d.take 8) : Int), next := 3 } else j from rfl)
    have HW0 : Still w (w.alloc (Obj.cells #[Value.int IntKind.i64 f.k, Value.int IntKind.i64 f.ch, Value.slice A f.d.length c] 52)) := (Still.refl _).alloc _
    go_loopw [5, 18] (fun v i wr => ∃ k : Nat, k ≤ 8 ∧ i = .int .i64 k ∧ v = .int .u64 (val (f.d.take k)) ∧ wr = w.alloc (Obj.cells #[Value.int IntKind.i64 f.k, Value.int IntKind.i64 f.ch, Value.slice A f.d.length c] 52)) (fun _ i _ => 8 - (intOf i).toNat)
    case atStart => exact ⟨0, by omega, rfl, rfl, rfl⟩
    case round =>
      obtain ⟨k, hk, rfl, rfl, rfl⟩ := hrel
      by_cases hlt : k < 8
      · rcases HB.out with he | ⟨b', o, rfl, hb, hc⟩
        · rw [he] at h8; simp at h8
        have hcj := HW0.scell (hc k (by omega))
        clear hc
        have hor := shl_or (val (f.d.take k)) (f.d[k]'(by omega)).toNat (val_small _ (by simp; omega)) (UInt8.toNat_lt _)
        have HOR := Kp.mk hor; clear hor
        clear HW0
        go_wp2_with fail
        go_light
        rw [HOR.out]
        refine ⟨⟨k + 1, by omega, by go_num, ?_, trivial⟩, by simp only [intOf]; omega⟩
        rw [List.take_succ_eq_append_getElem (by omega), val_snoc]
      · have hk8 : k = 8 := by omega
        subst hk8
        clear HW0
        rcases HB.out with he | ⟨b', o, rfl, hb, hc⟩
        · rw [he] at h8; simp at h8
        have HBD := Kp.mk (show Bs w SF (some ⟨b', o + 8, none⟩) (f.d.drop 8) from .inr ⟨b', o + 8, rfl, hb, fun j hj => by
          rw [List.getElem_drop, Nat.add_assoc]; exact hc (8 + j) (by simp at hj; omega)⟩)
        clear hb hc
        by_cases hcc : c = 8
        · subst hcc
          go_wp2_with fail
          refine (get_okn (f.d.drop 8) _ _ _ SF _ (by simp <;> omega) (by simp <;> omega) (by simp <;> omega) (by omega) ?_).mono ?_
          · exact .inl (List.drop_eq_nil_of_le (by omega))
          rintro e w1 ⟨A1, c1, rfl, hs1, ht1⟩
          have HS1 := Kp.mk hs1
          have HT1 := Kp.mk (((Still.refl w).alloc _).strans ht1)
          have HJ1 := Kp.mk (HJ.out.still HT1.out)
          clear hs1 ht1
          generalize getL (f.d.drop 8) = l at *
          generalize val (f.d.take 8) = n at *
          by_cases hg : getE (f.d.drop 8) = 0
          · rw [hg]
            by_cases hn : 65536 < n
            · have HE := Kp.mk (show headE f.d = 502 by rw [HED.out, if_neg h8, if_pos hg, if_pos hn])
              have hnb : decide ((65536 : Int) < (n : Int)) = true := decide_eq_true (by omega)
              clear hg hn
              go_wp2_with fail
              go_ret
              exact ⟨ret_int HE.out.symm, ⟨AP, cP, by rw [HHD.out, HE.out]; exact HJ1.out.weak (fun x hx => .inl hx)⟩, Tch.of_still HT1.out⟩
            · have HE := Kp.mk (show headE f.d = 0 by rw [HED.out, if_neg h8, if_pos hg, if_neg hn])
              have hnb : decide ((65536 : Int) < (n : Int)) = false := decide_eq_false (by omega)
              clear hg
              have x1 := HJ1.out.nx
              have x2 := HJ1.out.lf
              have x16 := HJ1.out.pr
              have xf := HJ1.out.frz
              have hcv : wrap64 (n : Int) = n := by unfold wrap64; omega
              clear hn
              go_wp2_with fail
              go_ret
              have hS' : ∀ x, (S x ∨ w.heap.size ≤ x) → x ≠ b := fun x hx e => by
                rcases hx with hx | hx
                · exact HS.out x hx e
                · have := HJ.out.lt; omega
              have e1 := (((HJ1.out.weak (S' := fun x => S x ∨ w.heap.size ≤ x) (fun x hx => .inl hx)).setP hS' HAB.out l A1 c1 (HS1.out.weak (fun x hx => .inr (by simp only [World.size_alloc] at hx; omega)))).setL hS' HAB.out (n : Int)).setN hS' HAB.out 3
              refine ⟨ret_int HE.out.symm, ⟨A1, c1, by rw [HHD.out, HE.out]; exact e1⟩, Tch.setCell (Tch.setCell (Tch.setCell (Tch.of_still (S := (· = b)) HT1.out) ⟨b, 16, none⟩ _ (fun _ => rfl)) ⟨b, 2, none⟩ _ (fun _ => rfl)) ⟨b, 1, none⟩ _ (fun _ => rfl)⟩
          · have HE := Kp.mk (show headE f.d = 502 by rw [HED.out, if_neg h8, if_neg hg])
            have hgb : (getE (f.d.drop 8) != 0) = true := by simpa using hg
            generalize getE (f.d.drop 8) = ge at *
            clear hg
            go_wp2_with fail
            go_ret
            exact ⟨ret_int HE.out.symm, ⟨AP, cP, by rw [HHD.out, HE.out]; exact HJ1.out.weak (fun x hx => .inl hx)⟩, Tch.of_still HT1.out⟩
        · go_wp2_with fail
          refine (get_okn (f.d.drop 8) _ _ _ SF _ (by simp <;> omega) (by simp <;> omega) (by simp <;> omega) (by omega) ?_).mono ?_
          · exact HBD.out.still ((Still.refl _).alloc _)
          rintro e w1 ⟨A1, c1, rfl, hs1, ht1⟩
          have HS1 := Kp.mk hs1
          have HT1 := Kp.mk (((Still.refl w).alloc _).strans ht1)
          have HJ1 := Kp.mk (HJ.out.still HT1.out)
          clear hs1 ht1
          generalize getL (f.d.drop 8) = l at *
          generalize val (f.d.take 8) = n at *
          by_cases hg : getE (f.d.drop 8) = 0
          · rw [hg]
            by_cases hn : 65536 < n
            · have HE := Kp.mk (show headE f.d = 502 by rw [HED.out, if_neg h8, if_pos hg, if_pos hn])
              have hnb : decide ((65536 : Int) < (n : Int)) = true := decide_eq_true (by omega)
              clear hg hn
              go_wp2_with fail
              go_ret
              exact ⟨ret_int HE.out.symm, ⟨AP, cP, by rw [HHD.out, HE.out]; exact HJ1.out.weak (fun x hx => .inl hx)⟩, Tch.of_still HT1.out⟩
            · have HE := Kp.mk (show headE f.d = 0 by rw [HED.out, if_neg h8, if_pos hg, if_neg hn])
              have hnb : decide ((65536 : Int) < (n : Int)) = false := decide_eq_false (by omega)
              clear hg
              have x1 := HJ1.out.nx
              have x2 := HJ1.out.lf
              have x16 := HJ1.out.pr
              have xf := HJ1.out.frz
              have hcv : wrap64 (n : Int) = n := by unfold wrap64; omega
              clear hn
              go_wp2_with fail
              go_ret
              have hS' : ∀ x, (S x ∨ w.heap.size ≤ x) → x ≠ b := fun x hx e => by
                rcases hx with hx | hx
                · exact HS.out x hx e
                · have := HJ.out.lt; omega
              have e1 := (((HJ1.out.weak (S' := fun x => S x ∨ w.heap.size ≤ x) (fun x hx => .inl hx)).setP hS' HAB.out l A1 c1 (HS1.out.weak (fun x hx => .inr (by simp only [World.size_alloc] at hx; omega)))).setL hS' HAB.out (n : Int)).setN hS' HAB.out 3
              refine ⟨ret_int HE.out.symm, ⟨A1, c1, by rw [HHD.out, HE.out]; exact e1⟩, Tch.setCell (Tch.setCell (Tch.setCell (Tch.of_still (S := (· = b)) HT1.out) ⟨b, 16, none⟩ _ (fun _ => rfl)) ⟨b, 2, none⟩ _ (fun _ => rfl)) ⟨b, 1, none⟩ _ (fun _ => rfl)⟩
          · have HE := Kp.mk (show headE f.d = 502 by rw [HED.out, if_neg h8, if_neg hg])
            have hgb : (getE (f.d.drop 8) != 0) = true := by simpa using hg
            generalize getE (f.d.drop 8) = ge at *
            clear hg
            go_wp2_with fail
            go_ret
            exact ⟨ret_int HE.out.symm, ⟨AP, cP, by rw [HHD.out, HE.out]; exact HJ1.out.weak (fun x hx => .inl hx)⟩, Tch.of_still HT1.out⟩
end Go.Proofs.Ytaeainkfllfdfaa
/- D7: content.Join: part. -/
namespace Go.Proofs.Ytaeainkfllfdfaa
open Go.RowKit
set_option linter.unusedVariables false
set_option linter.unusedSimpArgs false
set_option maxRecDepth 100000

/-- What part tells and leaves. -/
def J.partE (j : J) (d : List UInt8) : Int := if d.length = 0 then 501 else if j.left < d.length then 501 else 0
def J.part (j : J) (d : List UInt8) : J := if j.partE d = 0 then { j with body := j.body ++ d, left := j.left - d.length } else j

theorem JAt.app {W w2 : World} {S : Nat → Prop} {b : Nat} {AM AP AB A2 : Option Addr} {cM cP cB c2 : Nat} {j : J} {bs : List UInt8} (h : JAt W S 0 b AM cM AP cP AB cB j) (ht : Tch (blk AB) W w2) (hnb : ¬ blk AB b) (hS : ∀ x, S x → x ≠ b ∧ ¬ blk AB x)
    (ho : OwnB w2 0 A2 c2 bs) (hA2 : ∀ x, blk A2 x → x ≠ b) (n : Nat) (hn : n = bs.length) (l : Int) :
    JAt ((w2.setCell ⟨b, 17, none⟩ (.slice A2 n c2)).setCell ⟨b, 2, none⟩ (.int .i64 l)) S 0 b AM cM AP cP A2 c2 { j with body := bs, left := l } := by
  subst hn
  have T : Tch (fun x => x = b ∨ blk AB x) W ((w2.setCell ⟨b, 17, none⟩ (.slice A2 bs.length c2)).setCell ⟨b, 2, none⟩ (.int .i64 l)) := ((ht.mono (T := fun x => x = b ∨ blk AB x) (fun x _ hx => .inr hx)).setCell ⟨b, 17, none⟩ _ (fun _ => .inl rfl)).setCell ⟨b, 2, none⟩ _ (fun _ => .inl rfl)
  have T2 : Tch (· = b) w2 ((w2.setCell ⟨b, 17, none⟩ (.slice A2 bs.length c2)).setCell ⟨b, 2, none⟩ (.int .i64 l)) := ((Tch.refl (· = b) w2).setCell ⟨b, 17, none⟩ _ (fun _ => rfl)).setCell ⟨b, 2, none⟩ _ (fun _ => rfl)
  have hd : ∀ x, S x → ¬ (x = b ∨ blk AB x) := fun x hx hy => hy.elim (hS x hx).1 (hS x hx).2
  exact ⟨cs_ne (cs_ne (ht.cell h.ch hnb) (by decide)) (by decide), cs_ne (cs_ne (ht.cell h.nx hnb) (by decide)) (by decide), cs_eq (cs_ne (ht.cell h.lf hnb) (by decide)) _, cs_ne (cs_ne (ht.cell h.wh hnb) (by decide)) (by decide), cs_ne (cs_ne (ht.cell h.id hnb) (by decide)) (by decide), cs_ne (cs_ne (ht.cell h.nm hnb) (by decide)) (by decide), cs_ne (cs_ne (ht.cell h.ty hnb) (by decide)) (by decide), cs_ne (cs_ne (ht.cell h.ex hnb) (by decide)) (by decide), cs_ne (cs_ne (ht.cell h.ky hnb) (by decide)) (by decide), cs_ne (cs_ne (ht.cell h.tx hnb) (by decide)) (by decide), cs_ne (cs_ne (ht.cell h.co hnb) (by decide)) (by decide), cs_ne (cs_ne (ht.cell h.cn hnb) (by decide)) (by decide), cs_ne (cs_ne (ht.cell h.tg hnb) (by decide)) (by decide), cs_ne (cs_ne (ht.cell h.fl hnb) (by decide)) (by decide), cs_ne (cs_ne (ht.cell h.bk hnb) (by decide)) (by decide), cs_ne (cs_ne (ht.cell h.ar hnb) (by decide)) (by decide), cs_ne (cs_ne (ht.cell h.pr hnb) (by decide)) (by decide), cs_ne (cs_eq (ht.cell h.bo hnb) _) (by decide), fun o => by rw [World.frozen?_setCell, World.frozen?_setCell]; exact (ht.frozen (a := ⟨b, o, none⟩) h.lt hnb).trans (h.frz o), h.slm.tch T hd, h.slp.tch T hd, ho.tch T2 hA2⟩

set_option maxHeartbeats 4000000 in
theorem part55 (j : J) (f : Fr) (A : Option Addr) (c : Nat) (S SF : Nat → Prop) (b : Nat) (AM AP AB : Option Addr) (cM cP cB : Nat) (w : World) (h : JAt w S 0 b AM cM AP cP AB cB j)
    (hS : ∀ x, S x → x ≠ b ∧ ¬ blk AB x) (hAB : ∀ x, blk AB x → x ≠ b) (hl0 : 0 ≤ j.left) (hl1 : j.left ≤ 65536) (hbl : j.body.length ≤ 1000000000)
    (h0 : f.d.length ≤ 140737488351232) (h1 : f.d.length ≤ c) (h2 : c ≤ 9223372036854775807) (hB : Bs w SF A f.d) (hSF : ∀ x, SF x → ¬ blk AB x) :
    Calls Try.prog 55 #[.pointer (some ⟨b, 0, none⟩), .agg #[.int .i64 f.k, .int .i64 f.ch, .slice A f.d.length c]] w fun r w' =>
      r = .returned (.int .i64 (j.partE f.d)) ∧ (∃ AB' cB', JAt w' S 0 b AM cM AP cP AB' cB' (j.part f.d) ∧ ∀ x, blk AB' x → blk AB x ∨ w.heap.size ≤ x) ∧ Tch (fun x => x = b ∨ blk AB x) w w' := by
  have HJ := Kp.mk h; clear h
  have HS := Kp.mk hS; clear hS
  have HAB := Kp.mk hAB; clear hAB
  have HB := Kp.mk hB; clear hB
  have HPE := Kp.mk (show j.partE f.d = if f.d.length = 0 then 501 else if j.left < f.d.length then 501 else 0 from rfl)
  have HPJ := Kp.mk (show j.part f.d = if j.partE f.d = 0 then { j with body := j.body ++ f.d, left := j.left - f.d.length } else j from rfl)
  have hno : j.partE f.d = 501 → ∀ w', Still w w' → (∃ AB' cB', JAt w' S 0 b AM cM AP cP AB' cB' (j.part f.d) ∧ ∀ x, blk AB' x → blk AB x ∨ w.heap.size ≤ x) ∧ Tch (fun x => x = b ∨ blk AB x) w w' := fun he w' ht =>
    ⟨⟨AB, cB, by rw [HPJ.out, he]; exact HJ.out.still ht, fun x hx => .inl hx⟩, Tch.of_still ht⟩
  have HNO := Kp.mk hno; clear hno
  have x2 := ((Still.refl w).alloc (.cells #[.int .i64 f.k, .int .i64 f.ch, .slice A f.d.length c] 52)).scell HJ.out.lf
  have x17 := ((Still.refl w).alloc (.cells #[.int .i64 f.k, .int .i64 f.ch, .slice A f.d.length c] 52)).scell HJ.out.bo
  have xf := (HJ.out.still ((Still.refl w).alloc (.cells #[.int .i64 f.k, .int .i64 f.ch, .slice A f.d.length c] 52))).frz
  by_cases hz : f.d.length = 0
  · have HE := Kp.mk (show j.partE f.d = 501 by rw [HPE.out, if_pos hz])
    have hzb : ((f.d.length : Int) == 0) = true := by simpa using hz
    clear hz
    go_enter Try.func55, Try.ntmps55
    go_wp2_with fail
    go_quiet (fail)
    go_wp2_with fail
    go_ret
    exact ⟨ret_int HE.out.symm, HNO.out HE.out _ (((Still.refl _).alloc _).drewN _)⟩
  by_cases hlt : j.left < f.d.length
  · have HE := Kp.mk (show j.partE f.d = 501 by rw [HPE.out, if_neg hz, if_pos hlt])
    have hzb : ((f.d.length : Int) == 0) = false := by simpa using hz
    have hlb : decide (j.left < (f.d.length : Int)) = true := decide_eq_true hlt
    clear hz hlt
    go_enter Try.func55, Try.ntmps55
    go_wp2_with fail
    go_quiet (fail)
    go_wp2_with fail
    go_ret
    exact ⟨ret_int HE.out.symm, HNO.out HE.out _ (((Still.refl _).alloc _).drewN _)⟩
  · have HE := Kp.mk (show j.partE f.d = 0 by rw [HPE.out, if_neg hz, if_neg hlt])
    have hzb : ((f.d.length : Int) == 0) = false := by simpa using hz
    have hlb : decide (j.left < (f.d.length : Int)) = false := decide_eq_false hlt
    have hsub : wrap64 (j.left - (f.d.length : Int)) = j.left - f.d.length := by unfold wrap64; omega
    go_enter Try.func55, Try.ntmps55
    go_wp2_with fail
    go_quiet (fail)
    go_wp2_with fail
    have hWS : Still w ((w.alloc (Obj.cells #[Value.int IntKind.i64 f.k, Value.int IntKind.i64 f.ch, Value.slice A f.d.length c] 52)).drewN nq) := ((Still.refl _).alloc _).drewN _
    have y2 : ((w.alloc (Obj.cells #[Value.int IntKind.i64 f.k, Value.int IntKind.i64 f.ch, Value.slice A f.d.length c] 52)).drewN nq).cell? ⟨w.heap.size, 2, none⟩ = some (.slice A f.d.length c) := by go_simp
    have hfr : w.heap.size < ((w.alloc (Obj.cells #[Value.int IntKind.i64 f.k, Value.int IntKind.i64 f.ch, Value.slice A f.d.length c] 52)).drewN nq).heap.size := by simp
    clear x2 x17 xf
    generalize (w.alloc (Obj.cells #[Value.int IntKind.i64 f.k, Value.int IntKind.i64 f.ch, Value.slice A f.d.length c] 52)).drewN nq = W at *
    have HJW := Kp.mk (HJ.out.still hWS)
    have x2 := HJW.out.lf
    have x17 := HJW.out.bo
    have xf := HJW.out.frz
    have HBW := Kp.mk (HB.out.still hWS)
    have hnb : ¬ blk AB w.heap.size := fun hb => by have := (HJ.out.own.base hb).2; omega
    have hnb2 : ¬ blk AB b := fun hb => HAB.out b hb rfl
    have HNB := Kp.mk hnb; have HNB2 := Kp.mk hnb2
    have hsub2 : IntKind.i64.wrap (j.left - (f.d.length : Int)) = j.left - f.d.length := by simp only [IntKind.wrap, IntKind.signed, IntKind.bits]; (repeat split) <;> simp_all <;> omega
    have HFIN := Kp.mk (fun A2 c2 w2 (ho : OwnB w2 0 A2 c2 (j.body ++ f.d)) (ht : Tch (blk AB) W.drew w2) (ha : ∀ x, blk A2 x → blk AB x ∨ W.drew.heap.size ≤ x) =>
      show (∃ AB' cB', JAt ((w2.setCell ⟨b, 17, none⟩ (.slice A2 (j.body.length + f.d.length) c2)).setCell ⟨b, 2, none⟩ (.int .i64 (j.left - f.d.length))) S 0 b AM cM AP cP AB' cB' (j.part f.d) ∧ ∀ x, blk AB' x → blk AB x ∨ w.heap.size ≤ x) ∧ Tch (fun x => x = b ∨ blk AB x) w ((w2.setCell ⟨b, 17, none⟩ (.slice A2 (j.body.length + f.d.length) c2)).setCell ⟨b, 2, none⟩ (.int .i64 (j.left - f.d.length))) from by
        have hA2 : ∀ x, blk A2 x → x ≠ b := fun x hx e => by
          rcases ha x hx with hx | hx
          · exact HAB.out x hx e
          · have := HJ.out.lt; simp only [World.size_drew] at hx; omega
        refine ⟨⟨A2, c2, ?_, fun x hx => (ha x hx).imp id (fun h => by simp only [World.size_drew] at h; omega)⟩, ?_⟩
        · rw [HPJ.out, HE.out]
          exact (HJW.out.still ((Still.refl _).drew)).app ht HNB2.out HS.out ho hA2 _ (by simp) _
        · exact (((Tch.of_still (S := fun x => x = b ∨ blk AB x) (hWS.drew)).trans ht (fun x _ hx => .inr hx)).setCell ⟨b, 17, none⟩ _ (fun _ => .inl rfl)).setCell ⟨b, 2, none⟩ _ (fun _ => .inl rfl))
    have HW0 := Kp.mk (show ¬ (b = w.heap.size) by have := HJ.out.lt; omega)
    refine wp_region_held_drew (S := fun W => W.cell? ⟨w.heap.size, 2, none⟩ = some (.slice A f.d.length c)) (by kernel_rfl) y2 (fun hHeld0 => ?_)
    refine wpAnyH_take (i := 0) (v := .pointer (some ⟨b, 0, none⟩)) rfl (by kernel_rfl) (by kernel_rfl) (by kernel_rfl) (fun _ _ _ h => h) (Or.inl ⟨by rfl, ?_⟩) hHeld0 ?_
    · (intro w hSw; (try dsimp only at hSw); go_simp)
    simp only [Act.put, List.getElem_toArray, List.getElem_cons_zero, List.getElem_cons_succ, List.setIfInBounds_toArray, List.set_cons_zero, List.set_cons_succ]
    refine wpAnyH_take (i := 1) (v := .pointer (some ⟨b, 0, none⟩)) rfl (by kernel_rfl) (by kernel_rfl) (by kernel_rfl) (fun _ _ _ h => h) (Or.inl ⟨by rfl, ?_⟩) hHeld0 ?_
    · (intro w hSw; (try dsimp only at hSw); go_simp)
    simp only [Act.put, List.getElem_toArray, List.getElem_cons_zero, List.getElem_cons_succ, List.setIfInBounds_toArray, List.set_cons_zero, List.set_cons_succ]
    refine wpAnyH_take (i := 2) (v := .pointer (some ⟨b, 0, none⟩)) rfl (by kernel_rfl) (by kernel_rfl) (by kernel_rfl) (fun _ _ _ h => h) (Or.inl ⟨by rfl, ?_⟩) hHeld0 ?_
    · (intro w hSw; (try dsimp only at hSw); go_simp)
    simp only [Act.put, List.getElem_toArray, List.getElem_cons_zero, List.getElem_cons_succ, List.setIfInBounds_toArray, List.set_cons_zero, List.set_cons_succ]
    refine wpAnyH_take (i := 3) (v := .pointer (some ⟨b, 0, none⟩)) rfl (by kernel_rfl) (by kernel_rfl) (by kernel_rfl) (fun _ _ _ h => h) (Or.inl ⟨by rfl, ?_⟩) hHeld0 ?_
    · (intro w hSw; (try dsimp only at hSw); go_simp)
    simp only [Act.put, List.getElem_toArray, List.getElem_cons_zero, List.getElem_cons_succ, List.setIfInBounds_toArray, List.set_cons_zero, List.set_cons_succ]
    refine wpAnyH_take (i := 4) (v := .pointer (some ⟨b, 17, none⟩)) rfl (by kernel_rfl) (by kernel_rfl) (by kernel_rfl) (fun _ _ _ h => h) (Or.inl ⟨by rfl, ?_⟩) hHeld0 ?_
    · (intro w hSw; (try dsimp only at hSw); go_simp)
    simp only [Act.put, List.getElem_toArray, List.getElem_cons_zero, List.getElem_cons_succ, List.setIfInBounds_toArray, List.set_cons_zero, List.set_cons_succ]
    refine wpAnyH_take (i := 6) (v := .pointer (some ⟨w.heap.size, 2, none⟩)) rfl (by kernel_rfl) (by kernel_rfl) (by kernel_rfl) (fun _ _ _ h => h) (Or.inl ⟨by rfl, ?_⟩) hHeld0 ?_
    · (intro w hSw; (try dsimp only at hSw); go_simp)
    simp only [Act.put, List.getElem_toArray, List.getElem_cons_zero, List.getElem_cons_succ, List.setIfInBounds_toArray, List.set_cons_zero, List.set_cons_succ]
    refine wpAnyH_take (i := 7) (v := .slice A f.d.length c) rfl (by kernel_rfl) (by kernel_rfl) (by kernel_rfl) (fun _ _ _ h => h) (Or.inl ⟨by rfl, ?_⟩) hHeld0 ?_
    · (intro w hSw; (try dsimp only at hSw); go_simp)
    simp only [Act.put, List.getElem_toArray, List.getElem_cons_zero, List.getElem_cons_succ, List.setIfInBounds_toArray, List.set_cons_zero, List.set_cons_succ]
    refine wpAnyH_take (i := 9) (v := .pointer (some ⟨b, 0, none⟩)) rfl (by kernel_rfl) (by kernel_rfl) (by kernel_rfl) (fun _ _ _ h => h) (Or.inl ⟨by rfl, ?_⟩) hHeld0 ?_
    · (intro w hSw; (try dsimp only at hSw); go_simp)
    simp only [Act.put, List.getElem_toArray, List.getElem_cons_zero, List.getElem_cons_succ, List.setIfInBounds_toArray, List.set_cons_zero, List.set_cons_succ]
    refine wpAnyH_take (i := 10) (v := .pointer (some ⟨b, 0, none⟩)) rfl (by kernel_rfl) (by kernel_rfl) (by kernel_rfl) (fun _ _ _ h => h) (Or.inl ⟨by rfl, ?_⟩) hHeld0 ?_
    · (intro w hSw; (try dsimp only at hSw); go_simp)
    simp only [Act.put, List.getElem_toArray, List.getElem_cons_zero, List.getElem_cons_succ, List.setIfInBounds_toArray, List.set_cons_zero, List.set_cons_succ]
    refine wpAnyH_take (i := 11) (v := .pointer (some ⟨b, 2, none⟩)) rfl (by kernel_rfl) (by kernel_rfl) (by kernel_rfl) (fun _ _ _ h => h) (Or.inl ⟨by rfl, ?_⟩) hHeld0 ?_
    · (intro w hSw; (try dsimp only at hSw); go_simp)
    simp only [Act.put, List.getElem_toArray, List.getElem_cons_zero, List.getElem_cons_succ, List.setIfInBounds_toArray, List.set_cons_zero, List.set_cons_succ]
    refine wpAnyH_take (i := 13) (v := .pointer (some ⟨w.heap.size, 2, none⟩)) rfl (by kernel_rfl) (by kernel_rfl) (by kernel_rfl) (fun _ _ _ h => h) (Or.inl ⟨by rfl, ?_⟩) hHeld0 ?_
    · (intro w hSw; (try dsimp only at hSw); go_simp)
    simp only [Act.put, List.getElem_toArray, List.getElem_cons_zero, List.getElem_cons_succ, List.setIfInBounds_toArray, List.set_cons_zero, List.set_cons_succ]
    refine wpAnyH_take (i := 14) (v := .slice A f.d.length c) rfl (by kernel_rfl) (by kernel_rfl) (by kernel_rfl) (fun _ _ _ h => h) (Or.inl ⟨by rfl, ?_⟩) hHeld0 ?_
    · (intro w hSw; (try dsimp only at hSw); go_simp)
    simp only [Act.put, List.getElem_toArray, List.getElem_cons_zero, List.getElem_cons_succ, List.setIfInBounds_toArray, List.set_cons_zero, List.set_cons_succ]
    refine wpAnyH_take (i := 15) (v := .int .i64 f.d.length) rfl (by kernel_rfl) (by kernel_rfl) (by kernel_rfl) (fun _ _ _ h => h) (Or.inl ⟨by rfl, ?_⟩) hHeld0 ?_
    · (intro w hSw; (try dsimp only at hSw); go_simp)
    simp only [Act.put, List.getElem_toArray, List.getElem_cons_zero, List.getElem_cons_succ, List.setIfInBounds_toArray, List.set_cons_zero, List.set_cons_succ]
    refine wpAnyH_ready (rs := [5, 12]) (by kernel_rfl) (by simp) ?_
    refine AllReadyH.cons (o := ?o1) ?ho1 (fun K hK => ?_) ?_
    case ho1 => (first | (simp only [List.getElem?_toArray, List.getElem?_cons_succ, List.getElem?_cons_zero]; done) | (simp only [List.getElem?_toArray, List.getElem?_cons_succ, List.getElem?_cons_zero]; rfl))
    · go_simp
      refine hK.out _ _ (y2) (fun hHeld1 => ?_)
      clear hK K
      try simp only [Act.put, List.getElem_toArray, List.getElem_cons_zero, List.getElem_cons_succ, List.setIfInBounds_toArray, List.set_cons_zero, List.set_cons_succ]
      refine wpAnyH_ready (rs := [8, 12]) (by kernel_rfl) (by simp) ?_
      refine AllReadyH.cons (o := ?o2) ?ho2 (fun K hK => ?_) ?_
      case ho2 => (first | (simp only [List.getElem?_toArray, List.getElem?_cons_succ, List.getElem?_cons_zero]; done) | (simp only [List.getElem?_toArray, List.getElem?_cons_succ, List.getElem?_cons_zero]; rfl))
      · refine step_appB _ (by rfl) _ _ rfl 0 AB cB _ _ j.body (by rfl) rfl (HJW.out.own.drew) A c f.d (by rfl) rfl SF (HBW.out.still ((Still.refl _).drew)) (by omega) (Nat.zero_le _) ?_
        intro A2 c2 w2 ho2 ht2 hat2
        have z17 := ht2.cell (a := ⟨b, 17, none⟩) x17 HNB2.out
        have z2 := ht2.cell (a := ⟨b, 2, none⟩) x2 HNB2.out
        have z0 := ht2.cell (a := ⟨w.heap.size, 2, none⟩) y2 HNB.out
        have zf := (fun o => (ht2.frozen (a := ⟨b, o, none⟩) (show b < W.heap.size from HJW.out.lt) HNB2.out).trans (xf o))
        have HO2 := Kp.mk ho2
        have HT2 := Kp.mk ht2
        have HA2 := Kp.mk hat2
        clear ho2 ht2 hat2
        refine hK.out _ _ (z0) (fun hHeld2 => ?_)
        clear hK K
        try simp only [Act.put, List.getElem_toArray, List.getElem_cons_zero, List.getElem_cons_succ, List.setIfInBounds_toArray, List.set_cons_zero, List.set_cons_succ]
        refine wpAnyH_ready (rs := [12]) (by kernel_rfl) (by simp) ?_
        refine AllReadyH.cons (o := ?o3) ?ho3 (fun K hK => ?_) AllReadyH.nil
        case ho3 => (first | (simp only [List.getElem?_toArray, List.getElem?_cons_succ, List.getElem?_cons_zero]; done) | (simp only [List.getElem?_toArray, List.getElem?_cons_succ, List.getElem?_cons_zero]; rfl))
        go_simp
        refine hK.out _ _ (z0) (fun hHeld3 => ?_)
        clear hK K
        try simp only [Act.put, List.getElem_toArray, List.getElem_cons_zero, List.getElem_cons_succ, List.setIfInBounds_toArray, List.set_cons_zero, List.set_cons_succ]
        refine wpAnyH_take (i := 16) (v := .int .i64 (j.left - f.d.length)) rfl (by kernel_rfl) (by kernel_rfl) (by kernel_rfl) (fun _ _ _ h => h) (Or.inl ⟨by rfl, ?_⟩) hHeld3 ?_
        · (intro w hSw; (try dsimp only at hSw); go_simp)
        simp only [Act.put, List.getElem_toArray, List.getElem_cons_zero, List.getElem_cons_succ, List.setIfInBounds_toArray, List.set_cons_zero, List.set_cons_succ]
        refine wpAnyH_take (i := 17) (v := .pointer (some ⟨b, 0, none⟩)) rfl (by kernel_rfl) (by kernel_rfl) (by kernel_rfl) (fun _ _ _ h => h) (Or.inl ⟨by rfl, ?_⟩) hHeld3 ?_
        · (intro w hSw; (try dsimp only at hSw); go_simp)
        simp only [Act.put, List.getElem_toArray, List.getElem_cons_zero, List.getElem_cons_succ, List.setIfInBounds_toArray, List.set_cons_zero, List.set_cons_succ]
        refine wpAnyH_take (i := 18) (v := .pointer (some ⟨b, 17, none⟩)) rfl (by kernel_rfl) (by kernel_rfl) (by kernel_rfl) (fun _ _ _ h => h) (Or.inl ⟨by rfl, ?_⟩) hHeld3 ?_
        · (intro w hSw; (try dsimp only at hSw); go_simp)
        simp only [Act.put, List.getElem_toArray, List.getElem_cons_zero, List.getElem_cons_succ, List.setIfInBounds_toArray, List.set_cons_zero, List.set_cons_succ]
        refine wpAnyH_ready (rs := [19]) (by kernel_rfl) (by simp) ?_
        refine AllReadyH.cons (o := ?o4) ?ho4 (fun K hK => ?_) AllReadyH.nil
        case ho4 => (first | (simp only [List.getElem?_toArray, List.getElem?_cons_succ, List.getElem?_cons_zero]; done) | (simp only [List.getElem?_toArray, List.getElem?_cons_succ, List.getElem?_cons_zero]; rfl))
        go_simp
        refine hK.out _ _ ((World.cell?_setCell_other _ _ _ _ (by simp [HW0.out])).trans z0) (fun hHeld4 => ?_)
        clear hK K
        try simp only [Act.put, List.getElem_toArray, List.getElem_cons_zero, List.getElem_cons_succ, List.setIfInBounds_toArray, List.set_cons_zero, List.set_cons_succ]
        refine wpAnyH_take (i := 20) (v := .pointer (some ⟨b, 0, none⟩)) rfl (by kernel_rfl) (by kernel_rfl) (by kernel_rfl) (fun _ _ _ h => h) (Or.inl ⟨by rfl, ?_⟩) hHeld4 ?_
        · (intro w hSw; (try dsimp only at hSw); go_simp)
        simp only [Act.put, List.getElem_toArray, List.getElem_cons_zero, List.getElem_cons_succ, List.setIfInBounds_toArray, List.set_cons_zero, List.set_cons_succ]
        refine wpAnyH_take (i := 21) (v := .pointer (some ⟨b, 2, none⟩)) rfl (by kernel_rfl) (by kernel_rfl) (by kernel_rfl) (fun _ _ _ h => h) (Or.inl ⟨by rfl, ?_⟩) hHeld4 ?_
        · (intro w hSw; (try dsimp only at hSw); go_simp)
        simp only [Act.put, List.getElem_toArray, List.getElem_cons_zero, List.getElem_cons_succ, List.setIfInBounds_toArray, List.set_cons_zero, List.set_cons_succ]
        refine wpAnyH_ready (rs := [22]) (by kernel_rfl) (by simp) ?_
        refine AllReadyH.cons (o := ?o5) ?ho5 (fun K hK => ?_) AllReadyH.nil
        case ho5 => (first | (simp only [List.getElem?_toArray, List.getElem?_cons_succ, List.getElem?_cons_zero]; done) | (simp only [List.getElem?_toArray, List.getElem?_cons_succ, List.getElem?_cons_zero]; rfl))
        go_simp
        refine hK.out _ _ ((World.cell?_setCell_other _ _ _ _ (by simp [HW0.out])).trans ((World.cell?_setCell_other _ _ _ _ (by simp [HW0.out])).trans z0)) (fun hHeld5 => ?_)
        clear hK K
        try simp only [Act.put, List.getElem_toArray, List.getElem_cons_zero, List.getElem_cons_succ, List.setIfInBounds_toArray, List.set_cons_zero, List.set_cons_succ]
        refine wpAnyH_done (by kernel_rfl) ?_ _
        go_wp2_with fail
        go_ret
        exact ⟨ret_int HE.out.symm, HFIN.out A2 c2 w2 HO2.out HT2.out HA2.out⟩
      refine AllReadyH.cons (o := ?o6) ?ho6 (fun K hK => ?_) AllReadyH.nil
      case ho6 => (first | (simp only [List.getElem?_toArray, List.getElem?_cons_succ, List.getElem?_cons_zero]; done) | (simp only [List.getElem?_toArray, List.getElem?_cons_succ, List.getElem?_cons_zero]; rfl))
      go_simp
      refine hK.out _ _ (y2) (fun hHeld6 => ?_)
      clear hK K
      try simp only [Act.put, List.getElem_toArray, List.getElem_cons_zero, List.getElem_cons_succ, List.setIfInBounds_toArray, List.set_cons_zero, List.set_cons_succ]
      refine wpAnyH_take (i := 16) (v := .int .i64 (j.left - f.d.length)) rfl (by kernel_rfl) (by kernel_rfl) (by kernel_rfl) (fun _ _ _ h => h) (Or.inl ⟨by rfl, ?_⟩) hHeld6 ?_
      · (intro w hSw; (try dsimp only at hSw); go_simp)
      simp only [Act.put, List.getElem_toArray, List.getElem_cons_zero, List.getElem_cons_succ, List.setIfInBounds_toArray, List.set_cons_zero, List.set_cons_succ]
      refine wpAnyH_ready (rs := [8]) (by kernel_rfl) (by simp) ?_
      refine AllReadyH.cons (o := ?o7) ?ho7 (fun K hK => ?_) AllReadyH.nil
      case ho7 => (first | (simp only [List.getElem?_toArray, List.getElem?_cons_succ, List.getElem?_cons_zero]; done) | (simp only [List.getElem?_toArray, List.getElem?_cons_succ, List.getElem?_cons_zero]; rfl))
      refine step_appB _ (by rfl) _ _ rfl 0 AB cB _ _ j.body (by rfl) rfl (HJW.out.own.drew) A c f.d (by rfl) rfl SF (HBW.out.still ((Still.refl _).drew)) (by omega) (Nat.zero_le _) ?_
      intro A2 c2 w2 ho2 ht2 hat2
      have z17 := ht2.cell (a := ⟨b, 17, none⟩) x17 HNB2.out
      have z2 := ht2.cell (a := ⟨b, 2, none⟩) x2 HNB2.out
      have z0 := ht2.cell (a := ⟨w.heap.size, 2, none⟩) y2 HNB.out
      have zf := (fun o => (ht2.frozen (a := ⟨b, o, none⟩) (show b < W.heap.size from HJW.out.lt) HNB2.out).trans (xf o))
      have HO2 := Kp.mk ho2
      have HT2 := Kp.mk ht2
      have HA2 := Kp.mk hat2
      clear ho2 ht2 hat2
      refine hK.out _ _ (z0) (fun hHeld7 => ?_)
      clear hK K
      try simp only [Act.put, List.getElem_toArray, List.getElem_cons_zero, List.getElem_cons_succ, List.setIfInBounds_toArray, List.set_cons_zero, List.set_cons_succ]
      refine wpAnyH_take (i := 17) (v := .pointer (some ⟨b, 0, none⟩)) rfl (by kernel_rfl) (by kernel_rfl) (by kernel_rfl) (fun _ _ _ h => h) (Or.inl ⟨by rfl, ?_⟩) hHeld7 ?_
      · (intro w hSw; (try dsimp only at hSw); go_simp)
      simp only [Act.put, List.getElem_toArray, List.getElem_cons_zero, List.getElem_cons_succ, List.setIfInBounds_toArray, List.set_cons_zero, List.set_cons_succ]
      refine wpAnyH_take (i := 18) (v := .pointer (some ⟨b, 17, none⟩)) rfl (by kernel_rfl) (by kernel_rfl) (by kernel_rfl) (fun _ _ _ h => h) (Or.inl ⟨by rfl, ?_⟩) hHeld7 ?_
      · (intro w hSw; (try dsimp only at hSw); go_simp)
      simp only [Act.put, List.getElem_toArray, List.getElem_cons_zero, List.getElem_cons_succ, List.setIfInBounds_toArray, List.set_cons_zero, List.set_cons_succ]
      refine wpAnyH_ready (rs := [19]) (by kernel_rfl) (by simp) ?_
      refine AllReadyH.cons (o := ?o8) ?ho8 (fun K hK => ?_) AllReadyH.nil
      case ho8 => (first | (simp only [List.getElem?_toArray, List.getElem?_cons_succ, List.getElem?_cons_zero]; done) | (simp only [List.getElem?_toArray, List.getElem?_cons_succ, List.getElem?_cons_zero]; rfl))
      go_simp
      refine hK.out _ _ ((World.cell?_setCell_other _ _ _ _ (by simp [HW0.out])).trans z0) (fun hHeld8 => ?_)
      clear hK K
      try simp only [Act.put, List.getElem_toArray, List.getElem_cons_zero, List.getElem_cons_succ, List.setIfInBounds_toArray, List.set_cons_zero, List.set_cons_succ]
      refine wpAnyH_take (i := 20) (v := .pointer (some ⟨b, 0, none⟩)) rfl (by kernel_rfl) (by kernel_rfl) (by kernel_rfl) (fun _ _ _ h => h) (Or.inl ⟨by rfl, ?_⟩) hHeld8 ?_
      · (intro w hSw; (try dsimp only at hSw); go_simp)
      simp only [Act.put, List.getElem_toArray, List.getElem_cons_zero, List.getElem_cons_succ, List.setIfInBounds_toArray, List.set_cons_zero, List.set_cons_succ]
      refine wpAnyH_take (i := 21) (v := .pointer (some ⟨b, 2, none⟩)) rfl (by kernel_rfl) (by kernel_rfl) (by kernel_rfl) (fun _ _ _ h => h) (Or.inl ⟨by rfl, ?_⟩) hHeld8 ?_
      · (intro w hSw; (try dsimp only at hSw); go_simp)
      simp only [Act.put, List.getElem_toArray, List.getElem_cons_zero, List.getElem_cons_succ, List.setIfInBounds_toArray, List.set_cons_zero, List.set_cons_succ]
      refine wpAnyH_ready (rs := [22]) (by kernel_rfl) (by simp) ?_
      refine AllReadyH.cons (o := ?o9) ?ho9 (fun K hK => ?_) AllReadyH.nil
      case ho9 => (first | (simp only [List.getElem?_toArray, List.getElem?_cons_succ, List.getElem?_cons_zero]; done) | (simp only [List.getElem?_toArray, List.getElem?_cons_succ, List.getElem?_cons_zero]; rfl))
      go_simp
      refine hK.out _ _ ((World.cell?_setCell_other _ _ _ _ (by simp [HW0.out])).trans ((World.cell?_setCell_other _ _ _ _ (by simp [HW0.out])).trans z0)) (fun hHeld9 => ?_)
      clear hK K
      try simp only [Act.put, List.getElem_toArray, List.getElem_cons_zero, List.getElem_cons_succ, List.setIfInBounds_toArray, List.set_cons_zero, List.set_cons_succ]
      refine wpAnyH_done (by kernel_rfl) ?_ _
      go_wp2_with fail
      go_ret
      exact ⟨ret_int HE.out.symm, HFIN.out A2 c2 w2 HO2.out HT2.out HA2.out⟩
    refine AllReadyH.cons (o := ?o10) ?ho10 (fun K hK => ?_) AllReadyH.nil
    case ho10 => (first | (simp only [List.getElem?_toArray, List.getElem?_cons_succ, List.getElem?_cons_zero]; done) | (simp only [List.getElem?_toArray, List.getElem?_cons_succ, List.getElem?_cons_zero]; rfl))
    go_simp
    refine hK.out _ _ (y2) (fun hHeld10 => ?_)
    clear hK K
    try simp only [Act.put, List.getElem_toArray, List.getElem_cons_zero, List.getElem_cons_succ, List.setIfInBounds_toArray, List.set_cons_zero, List.set_cons_succ]
    refine wpAnyH_take (i := 16) (v := .int .i64 (j.left - f.d.length)) rfl (by kernel_rfl) (by kernel_rfl) (by kernel_rfl) (fun _ _ _ h => h) (Or.inl ⟨by rfl, ?_⟩) hHeld10 ?_
    · (intro w hSw; (try dsimp only at hSw); go_simp)
    simp only [Act.put, List.getElem_toArray, List.getElem_cons_zero, List.getElem_cons_succ, List.setIfInBounds_toArray, List.set_cons_zero, List.set_cons_succ]
    refine wpAnyH_ready (rs := [5]) (by kernel_rfl) (by simp) ?_
    refine AllReadyH.cons (o := ?o11) ?ho11 (fun K hK => ?_) AllReadyH.nil
    case ho11 => (first | (simp only [List.getElem?_toArray, List.getElem?_cons_succ, List.getElem?_cons_zero]; done) | (simp only [List.getElem?_toArray, List.getElem?_cons_succ, List.getElem?_cons_zero]; rfl))
    go_simp
    refine hK.out _ _ (y2) (fun hHeld11 => ?_)
    clear hK K
    try simp only [Act.put, List.getElem_toArray, List.getElem_cons_zero, List.getElem_cons_succ, List.setIfInBounds_toArray, List.set_cons_zero, List.set_cons_succ]
    refine wpAnyH_ready (rs := [8]) (by kernel_rfl) (by simp) ?_
    refine AllReadyH.cons (o := ?o12) ?ho12 (fun K hK => ?_) AllReadyH.nil
    case ho12 => (first | (simp only [List.getElem?_toArray, List.getElem?_cons_succ, List.getElem?_cons_zero]; done) | (simp only [List.getElem?_toArray, List.getElem?_cons_succ, List.getElem?_cons_zero]; rfl))
    refine step_appB _ (by rfl) _ _ rfl 0 AB cB _ _ j.body (by rfl) rfl (HJW.out.own.drew) A c f.d (by rfl) rfl SF (HBW.out.still ((Still.refl _).drew)) (by omega) (Nat.zero_le _) ?_
    intro A2 c2 w2 ho2 ht2 hat2
    have z17 := ht2.cell (a := ⟨b, 17, none⟩) x17 HNB2.out
    have z2 := ht2.cell (a := ⟨b, 2, none⟩) x2 HNB2.out
    have z0 := ht2.cell (a := ⟨w.heap.size, 2, none⟩) y2 HNB.out
    have zf := (fun o => (ht2.frozen (a := ⟨b, o, none⟩) (show b < W.heap.size from HJW.out.lt) HNB2.out).trans (xf o))
    have HO2 := Kp.mk ho2
    have HT2 := Kp.mk ht2
    have HA2 := Kp.mk hat2
    clear ho2 ht2 hat2
    refine hK.out _ _ (z0) (fun hHeld12 => ?_)
    clear hK K
    try simp only [Act.put, List.getElem_toArray, List.getElem_cons_zero, List.getElem_cons_succ, List.setIfInBounds_toArray, List.set_cons_zero, List.set_cons_succ]
    refine wpAnyH_take (i := 17) (v := .pointer (some ⟨b, 0, none⟩)) rfl (by kernel_rfl) (by kernel_rfl) (by kernel_rfl) (fun _ _ _ h => h) (Or.inl ⟨by rfl, ?_⟩) hHeld12 ?_
    · (intro w hSw; (try dsimp only at hSw); go_simp)
    simp only [Act.put, List.getElem_toArray, List.getElem_cons_zero, List.getElem_cons_succ, List.setIfInBounds_toArray, List.set_cons_zero, List.set_cons_succ]
    refine wpAnyH_take (i := 18) (v := .pointer (some ⟨b, 17, none⟩)) rfl (by kernel_rfl) (by kernel_rfl) (by kernel_rfl) (fun _ _ _ h => h) (Or.inl ⟨by rfl, ?_⟩) hHeld12 ?_
    · (intro w hSw; (try dsimp only at hSw); go_simp)
    simp only [Act.put, List.getElem_toArray, List.getElem_cons_zero, List.getElem_cons_succ, List.setIfInBounds_toArray, List.set_cons_zero, List.set_cons_succ]
    refine wpAnyH_ready (rs := [19]) (by kernel_rfl) (by simp) ?_
    refine AllReadyH.cons (o := ?o13) ?ho13 (fun K hK => ?_) AllReadyH.nil
    case ho13 => (first | (simp only [List.getElem?_toArray, List.getElem?_cons_succ, List.getElem?_cons_zero]; done) | (simp only [List.getElem?_toArray, List.getElem?_cons_succ, List.getElem?_cons_zero]; rfl))
    go_simp
    refine hK.out _ _ ((World.cell?_setCell_other _ _ _ _ (by simp [HW0.out])).trans z0) (fun hHeld13 => ?_)
    clear hK K
    try simp only [Act.put, List.getElem_toArray, List.getElem_cons_zero, List.getElem_cons_succ, List.setIfInBounds_toArray, List.set_cons_zero, List.set_cons_succ]
    refine wpAnyH_take (i := 20) (v := .pointer (some ⟨b, 0, none⟩)) rfl (by kernel_rfl) (by kernel_rfl) (by kernel_rfl) (fun _ _ _ h => h) (Or.inl ⟨by rfl, ?_⟩) hHeld13 ?_
    · (intro w hSw; (try dsimp only at hSw); go_simp)
    simp only [Act.put, List.getElem_toArray, List.getElem_cons_zero, List.getElem_cons_succ, List.setIfInBounds_toArray, List.set_cons_zero, List.set_cons_succ]
    refine wpAnyH_take (i := 21) (v := .pointer (some ⟨b, 2, none⟩)) rfl (by kernel_rfl) (by kernel_rfl) (by kernel_rfl) (fun _ _ _ h => h) (Or.inl ⟨by rfl, ?_⟩) hHeld13 ?_
    · (intro w hSw; (try dsimp only at hSw); go_simp)
    simp only [Act.put, List.getElem_toArray, List.getElem_cons_zero, List.getElem_cons_succ, List.setIfInBounds_toArray, List.set_cons_zero, List.set_cons_succ]
    refine wpAnyH_ready (rs := [22]) (by kernel_rfl) (by simp) ?_
    refine AllReadyH.cons (o := ?o14) ?ho14 (fun K hK => ?_) AllReadyH.nil
    case ho14 => (first | (simp only [List.getElem?_toArray, List.getElem?_cons_succ, List.getElem?_cons_zero]; done) | (simp only [List.getElem?_toArray, List.getElem?_cons_succ, List.getElem?_cons_zero]; rfl))
    go_simp
    refine hK.out _ _ ((World.cell?_setCell_other _ _ _ _ (by simp [HW0.out])).trans ((World.cell?_setCell_other _ _ _ _ (by simp [HW0.out])).trans z0)) (fun hHeld14 => ?_)
    clear hK K
    try simp only [Act.put, List.getElem_toArray, List.getElem_cons_zero, List.getElem_cons_succ, List.setIfInBounds_toArray, List.set_cons_zero, List.set_cons_succ]
    refine wpAnyH_done (by kernel_rfl) ?_ _
    go_wp2_with fail
    go_ret
    exact ⟨ret_int HE.out.symm, HFIN.out A2 c2 w2 HO2.out HT2.out HA2.out⟩
end Go.Proofs.Ytaeainkfllfdfaa
/- D8: content.Join: Add. -/
namespace Go.Proofs.Ytaeainkfllfdfaa
open Go.RowKit
set_option linter.unusedVariables false
set_option linter.unusedSimpArgs false
set_option maxRecDepth 100000

/-- What a frame of the kind that was waited for does. -/
def J.step (j : J) (f : Fr) : Int × J := if f.k = 1 then (methE f.d, j.meth f.d) else if f.k = 2 then (headE f.d, j.head f.d) else (j.partE f.d, j.part f.d)
/-- What Add tells and leaves. -/
def J.add (j : J) (f : Fr) : Bool × Int × J :=
  if f.k = 8 then (false, 0, j) else if f.ch ≠ j.ch then (false, 504, j) else if f.k ≠ j.next then (false, 501, J.new j.ch)
  else if (j.step f).1 ≠ 0 then (false, (j.step f).1, J.new j.ch)
  else if (j.step f).2.next ≠ 3 ∨ 0 < (j.step f).2.left then (false, 0, (j.step f).2) else (true, 0, { (j.step f).2 with next := 1, whole := true })

theorem JAt.old {w : World} {S : Nat → Prop} {base b : Nat} {AM AP AB : Option Addr} {cM cP cB : Nat} {j : J} (h : JAt w S base b AM cM AP cP AB cB j) : JAt w (fun x => S x ∧ x < w.heap.size) base b AM cM AP cP AB cB j :=
  ⟨h.ch, h.nx, h.lf, h.wh, h.id, h.nm, h.ty, h.ex, h.ky, h.tx, h.co, h.cn, h.tg, h.fl, h.bk, h.ar, h.pr, h.bo, h.frz, h.slm.old, h.slp.old, h.own⟩
/-- A Join at block b that owns the blocks of Z. -/
structure JZ (w : World) (Z : Nat → Prop) (b : Nat) (j : J) : Prop where
  at_ : ∃ AM cM AP cP AB cB, JAt w (fun x => Z x ∧ x ≠ b ∧ ¬ blk AB x) 0 b AM cM AP cP AB cB j ∧ ∀ x, blk AB x → Z x ∧ x ≠ b
  zb : Z b
  lt : ∀ x, Z x → x < w.heap.size
theorem JZ.tch {w w' : World} {Z T : Nat → Prop} {b : Nat} {j : J} (h : JZ w Z b j) (k : Tch T w w') (hd : ∀ x, Z x → ¬ T x) : JZ w' Z b j := by
  obtain ⟨AM, cM, AP, cP, AB, cB, hj, hb⟩ := h.at_
  exact ⟨⟨AM, cM, AP, cP, AB, cB, hj.tch k (hd b h.zb) (fun x hx => hd x hx.1) (fun x hx => hd x (hb x hx).1), hb⟩, h.zb, fun x hx => Nat.lt_of_lt_of_le (h.lt x hx) k.size⟩
theorem JZ.still {w w' : World} {Z : Nat → Prop} {b : Nat} {j : J} (h : JZ w Z b j) (k : Still w w') : JZ w' Z b j := h.tch k (fun _ _ f => f)
theorem JZ.new (ch : Int) (w : World) : JZ (w.alloc ((J.new ch).obj none 0 none 0 none 0)) (· = w.heap.size) w.heap.size (J.new ch) :=
  ⟨⟨none, 0, none, 0, none, 0, JAt.new ch w _ 0, fun x ⟨_, e, _⟩ => by cases e⟩, rfl, fun x hx => by subst hx; simp⟩
theorem JAt.newS {w : World} {S S' : Nat → Prop} {base b : Nat} {ch : Int} (h : JAt w S base b none 0 none 0 none 0 (J.new ch)) : JAt w S' base b none 0 none 0 none 0 (J.new ch) :=
  ⟨h.ch, h.nx, h.lf, h.wh, h.id, h.nm, h.ty, h.ex, h.ky, h.tx, h.co, h.cn, h.tg, h.fl, h.bk, h.ar, h.pr, h.bo, h.frz, Sl.nil _ _ _, Sl.nil _ _ _, h.own⟩
/-- A Join laid anew, its slices in new blocks. -/
theorem JZ.of {w w' : World} {Z : Nat → Prop} {b : Nat} {j j' : J} (h : JZ w Z b j) {AM AP : Option Addr} {cM cP : Nat} (hj : JAt w' (fun x => w.heap.size ≤ x) 0 b AM cM AP cP none 0 j') : JZ w' (fun x => x = b ∨ w.heap.size ≤ x ∧ x < w'.heap.size) b j' :=
  ⟨⟨AM, cM, AP, cP, none, 0, hj.old.weak (fun x hx => ⟨.inr hx, fun e => by have := h.lt b h.zb; omega, fun ⟨_, e, _⟩ => by cases e⟩), fun x ⟨_, e, _⟩ => by cases e⟩, .inl rfl, fun x hx => hx.elim (fun e => e ▸ hj.lt) (fun e => e.2)⟩
/-- A Join that has grown. -/
theorem JZ.grow {w w' : World} {Z : Nat → Prop} {b : Nat} {j' : J} {AM AP AB AB' : Option Addr} {cM cP cB' : Nat} (hlt : ∀ x, Z x → x < w.heap.size) (hzb : Z b) (hb : ∀ x, blk AB x → Z x ∧ x ≠ b) (hsz : w.heap.size ≤ w'.heap.size)
    (hB : ∀ x, blk AB' x → blk AB x ∨ w.heap.size ≤ x) (hj : JAt w' (fun x => (Z x ∧ x ≠ b ∧ ¬ blk AB x) ∨ (w.heap.size ≤ x ∧ ¬ blk AB' x)) 0 b AM cM AP cP AB' cB' j') : JZ w' (fun x => Z x ∨ w.heap.size ≤ x ∧ x < w'.heap.size) b j' := by
  have hbl := hlt b hzb
  refine ⟨⟨AM, cM, AP, cP, AB', cB', hj.old.weak (fun x hx => ?_), fun x hx => ?_⟩, .inl hzb, fun x hx => hx.elim (fun e => Nat.lt_of_lt_of_le (hlt x e) hsz) (fun e => e.2)⟩
  · rcases hx with ⟨hx | hx, hl⟩
    · exact ⟨.inl hx.1, hx.2.1, fun hy => (hB x hy).elim hx.2.2 (fun e => by have := hlt x hx.1; omega)⟩
    · exact ⟨.inr ⟨hx.1, hl⟩, fun e => by omega, hx.2⟩
  · rcases hB x hx with h1 | h1
    · exact ⟨.inl (hb x h1).1, (hb x h1).2⟩
    · exact ⟨.inr ⟨h1, (hj.own.base hx).2⟩, fun e => by omega⟩

theorem add27_nil (f : Fr) (A : Option Addr) (c : Nat) (w : World) :
    Calls Try.prog 27 #[.pointer none, .agg #[.int .i64 f.k, .int .i64 f.ch, .slice A f.d.length c]] w fun r w' => r = .returned (.tuple #[.bool false, .int .i64 7]) ∧ Still w w' := by
  go_enter Try.func27, Try.ntmps27
  go_wp2_with fail
  go_step3
  go_wp2_with fail
  rw [Exit.noGoto_ret]
  go_ret2
  exact ⟨rfl, (Still.refl _).alloc _⟩

/-- A Join is whole. -/
theorem JZ.fin {w : World} {Z : Nat → Prop} {b : Nat} {j : J} (h : JZ w Z b j) : JZ ((w.setCell ⟨b, 1, none⟩ (.int .i64 1)).setCell ⟨b, 3, none⟩ (.bool true)) Z b { j with next := 1, whole := true } := by
  obtain ⟨AM, cM, AP, cP, AB, cB, hj, hb⟩ := h.at_
  exact ⟨⟨AM, cM, AP, cP, AB, cB, (hj.setN (fun x hx => hx.2.1) (fun x hx => (hb x hx).2) 1).setW (fun x hx => hx.2.1) (fun x hx => (hb x hx).2) true, hb⟩, h.zb, fun x hx => by have := h.lt x hx; simpa [World.setCell] using this⟩

/-- What is known at Add's label. -/
structure AddL (w : World) (Z : Nat → Prop) (b : Nat) (j : J) (f : Fr) (e : Int) (wl : World) : Prop where
  add : j.add f = (false, e, J.new j.ch)
  jz : ∃ Zx jx, JZ wl Zx b jx ∧ jx.ch = j.ch ∧ ∀ x, Zx x → Z x ∨ w.heap.size ≤ x
  tch : Tch Z w wl
/-- The frame there. -/
def AddJ (w : World) (Z : Nat → Prop) (b : Nat) (j : J) (f : Fr) (a : Act) (wl : World) : Prop :=
  ∃ (e : Int) (u : Nat → Value), a = { tmps := #[.pointer (some ⟨b, 0, none⟩), u 1, u 2, u 3, u 4, u 5, .int .i64 e, u 7, u 8, u 9, u 10, u 11, u 12, u 13, u 14, u 15, u 16, u 17, u 18, u 19, u 20, u 21, u 22, u 23, u 24, u 25, u 26, u 27, u 28, u 29, u 30, u 31, u 32, u 33, u 34, u 35, u 36, u 37, u 38, u 39, u 40, u 41, u 42, u 43, u 44, u 45, u 46, u 47, u 48, u 49, u 50, u 51, u 52, u 53, u 54, u 55, u 56, u 57, u 58, u 59, u 60, u 61, u 62, u 63, u 64, u 65], defers := [] } ∧ Kp (AddL w Z b j f e wl)

theorem AddJ.mk {w : World} {Z : Nat → Prop} {b : Nat} {j : J} {f : Fr} (a : Act) (wl : World) (e : Int) (ha : a = { tmps := #[.pointer (some ⟨b, 0, none⟩), a.tmps.getD 1 undef, a.tmps.getD 2 undef, a.tmps.getD 3 undef, a.tmps.getD 4 undef, a.tmps.getD 5 undef, .int .i64 e, a.tmps.getD 7 undef, a.tmps.getD 8 undef, a.tmps.getD 9 undef, a.tmps.getD 10 undef, a.tmps.getD 11 undef, a.tmps.getD 12 undef, a.tmps.getD 13 undef, a.tmps.getD 14 undef, a.tmps.getD 15 undef, a.tmps.getD 16 undef, a.tmps.getD 17 undef, a.tmps.getD 18 undef, a.tmps.getD 19 undef, a.tmps.getD 20 undef, a.tmps.getD 21 undef, a.tmps.getD 22 undef, a.tmps.getD 23 undef, a.tmps.getD 24 undef, a.tmps.getD 25 undef, a.tmps.getD 26 undef, a.tmps.getD 27 undef, a.tmps.getD 28 undef, a.tmps.getD 29 undef, a.tmps.getD 30 undef, a.tmps.getD 31 undef, a.tmps.getD 32 undef, a.tmps.getD 33 undef, a.tmps.getD 34 undef, a.tmps.getD 35 undef, a.tmps.getD 36 undef, a.tmps.getD 37 undef, a.tmps.getD 38 undef, a.tmps.getD 39 undef, a.tmps.getD 40 undef, a.tmps.getD 41 undef, a.tmps.getD 42 undef, a.tmps.getD 43 undef, a.tmps.getD 44 undef, a.tmps.getD 45 undef, a.tmps.getD 46 undef, a.tmps.getD 47 undef, a.tmps.getD 48 undef, a.tmps.getD 49 undef, a.tmps.getD 50 undef, a.tmps.getD 51 undef, a.tmps.getD 52 undef, a.tmps.getD 53 undef, a.tmps.getD 54 undef, a.tmps.getD 55 undef, a.tmps.getD 56 undef, a.tmps.getD 57 undef, a.tmps.getD 58 undef, a.tmps.getD 59 undef, a.tmps.getD 60 undef, a.tmps.getD 61 undef, a.tmps.getD 62 undef, a.tmps.getD 63 undef, a.tmps.getD 64 undef, a.tmps.getD 65 undef], defers := [] }) (h : AddL w Z b j f e wl) : AddJ w Z b j f a wl :=
  ⟨e, fun k => a.tmps.getD k undef, ha, ⟨h⟩⟩
/-- What Add leaves. -/
def AddR (w : World) (Z : Nat → Prop) (b : Nat) (j : J) (f : Fr) (r : Ending) (w' : World) : Prop :=
  r = .returned (.tuple #[.bool (j.add f).1, .int .i64 (j.add f).2.1]) ∧ (∃ Z', JZ w' Z' b (j.add f).2.2 ∧ ∀ x, Z' x → Z x ∨ w.heap.size ≤ x) ∧ Tch Z w w'

set_option maxHeartbeats 4000000 in
theorem add27 (j : J) (f : Fr) (b : Nat) (Z SF : Nat → Prop) (A : Option Addr) (c : Nat) (w : World) (h : JZ w Z b j) (hl0 : 0 ≤ j.left) (hl1 : j.left ≤ 65536) (hbl : j.body.length ≤ 1000000000)
    (h0 : f.d.length ≤ 140737488351232) (h1 : f.d.length ≤ c) (h2 : c ≤ 9223372036854775807) (hB : Bs w SF A f.d) (hSF : ∀ x, SF x → ¬ Z x) :
    Calls Try.prog 27 #[.pointer (some ⟨b, 0, none⟩), .agg #[.int .i64 f.k, .int .i64 f.ch, .slice A f.d.length c]] w (AddR w Z b j f) := by
  have HZ := Kp.mk h; clear h
  have HB := Kp.mk hB; clear hB
  have HSF := Kp.mk hSF; clear hSF
  have HADD := Kp.mk (show j.add f = if f.k = 8 then (false, 0, j) else if f.ch ≠ j.ch then (false, 504, j) else if f.k ≠ j.next then (false, 501, J.new j.ch)
    else if (j.step f).1 ≠ 0 then (false, (j.step f).1, J.new j.ch)
    else if (j.step f).2.next ≠ 3 ∨ 0 < (j.step f).2.left then (false, 0, (j.step f).2) else (true, 0, { (j.step f).2 with next := 1, whole := true }) from rfl)
  go_enter Try.func27, Try.ntmps27
  go_wp2_with fail
  refine wp_scope_jumps 0 (AddJ w Z b j f) (fun _ _ => 0) rfl ?_ ?_
  · obtain ⟨AM, cM, AP, cP, AB, cB, hj, hb⟩ := HZ.out.at_
    have HJ := Kp.mk hj; have HBB := Kp.mk hb; clear hj hb
    have ht0 : Still w (w.alloc (.cells #[.int .i64 f.k, .int .i64 f.ch, .slice A f.d.length c] 52)) := (Still.refl w).alloc _
    have y0 : (w.alloc (.cells #[.int .i64 f.k, .int .i64 f.ch, .slice A f.d.length c] 52)).cell? ⟨w.heap.size, 0, none⟩ = some (.int .i64 f.k) := by go_simp
    have y1 : (w.alloc (.cells #[.int .i64 f.k, .int .i64 f.ch, .slice A f.d.length c] 52)).cell? ⟨w.heap.size, 1, none⟩ = some (.int .i64 f.ch) := by go_simp
    have y2 : (w.alloc (.cells #[.int .i64 f.k, .int .i64 f.ch, .slice A f.d.length c] 52)).cell? ⟨w.heap.size, 2, none⟩ = some (.slice A f.d.length c) := by go_simp
    generalize w.alloc (.cells #[.int .i64 f.k, .int .i64 f.ch, .slice A f.d.length c] 52) = W0 at *
    have HJ0 := Kp.mk (HJ.out.still ht0)
    have x0 := HJ0.out.ch
    have x1 := HJ0.out.nx
    have HT0 := Kp.mk ht0; clear ht0
    by_cases h8 : f.k = 8
    · have HE := Kp.mk (show j.add f = (false, 0, j) by rw [HADD.out, if_pos h8])
      have h8b : (f.k == 8) = true := by simpa using h8
      clear h8
      go_wp2_with fail
      simp only [Exit.jump]
      go_ret2
      exact ⟨by rw [HE.out]; rfl, ⟨Z, by rw [HE.out]; exact HZ.out.still HT0.out, fun x hx => .inl hx⟩, Tch.of_still HT0.out⟩
    have h8b : (f.k == 8) = false := by simpa using h8
    by_cases hch : f.ch ≠ j.ch
    · have HE := Kp.mk (show j.add f = (false, 504, j) by rw [HADD.out, if_neg h8, if_pos hch])
      have hcb : (f.ch != j.ch) = true := by simpa using hch
      clear h8 hch
      go_wp2_with fail
      go_quiet (fail)
      go_wp2_with fail
      simp only [Exit.jump]
      go_ret2
      exact ⟨by rw [HE.out]; rfl, ⟨Z, by rw [HE.out]; exact HZ.out.still (HT0.out.drewN _), fun x hx => .inl hx⟩, Tch.of_still (HT0.out.drewN _)⟩
    have hcb : (f.ch != j.ch) = false := by simpa using hch
    by_cases hk : f.k ≠ j.next
    · have HE := Kp.mk (show j.add f = (false, 501, J.new j.ch) by rw [HADD.out, if_neg h8, if_neg hch, if_pos hk])
      have hkb : (f.k != j.next) = true := by simpa using hk
      clear h8 hch hk
      go_wp2_with fail
      go_quiet (fail)
      go_wp2_with fail
      go_quiet (fail)
      go_wp2_with fail
      go_step3
      simp only [Exit.then]
      show _ ∧ _
      exact ⟨rfl, AddJ.mk _ _ 501 rfl ⟨HE.out, ⟨Z, j, HZ.out.still ((HT0.out.drewN _).drewN _), rfl, fun x hx => .inl hx⟩, Tch.of_still ((HT0.out.drewN _).drewN _)⟩⟩
    have hkb : (f.k != j.next) = false := by simpa using hk
    have HTF := Kp.mk (fun W' (h : Still W0 W') => And.intro (h.scell y0) (And.intro (h.scell y1) (h.scell y2)))
    have HJF := Kp.mk (fun W' (h : Still W0 W') => HJ0.out.still h)
    have HBF := Kp.mk (fun W' (h : Still W0 W') => HB.out.still (HT0.out.strans h))
    by_cases hk1 : f.k = 1
    · have HST := Kp.mk (show j.step f = (methE f.d, j.meth f.d) by unfold J.step; rw [if_pos hk1])
      have hk1b : (f.k == 1) = true := by simpa using hk1
      have HADD2 := Kp.mk (show j.add f = if methE f.d ≠ 0 then (false, methE f.d, J.new j.ch) else if (j.meth f.d).next ≠ 3 ∨ 0 < (j.meth f.d).left then (false, 0, j.meth f.d) else (true, 0, { j.meth f.d with next := 1, whole := true }) by
        rw [HADD.out, if_neg h8, if_neg hch, if_neg hk, HST.out])
      have HCH := Kp.mk (show (j.meth f.d).ch = j.ch by first | rfl | (unfold J.head; split <;> rfl) | (unfold J.part; split <;> rfl))
      clear HADD h8 hch hk hk1
      go_wp2_with fail
      go_quiet (fail)
      generalize nq = n1
      go_wp2_with fail
      go_quiet (fail)
      go_wp2_with fail
      generalize n1 + nq = n2
      have hw1 : Still W0 (W0.drewN n2) := (Still.refl _).drewN _
      generalize W0.drewN n2 = W1 at *
      refine (method53 j f A c _ SF 0 b AM AP AB cM cP cB W1 (HJF.out W1 hw1) h0 h1 h2 (HBF.out W1 hw1)).mono ?_
      rintro r w2 ⟨rfl, ⟨A2, c2, hj2⟩, ht2⟩
      have HTT := Kp.mk (Tch.trans (S := Z) (Tch.of_still (HT0.out.strans hw1)) ht2 (fun x _ e => e ▸ HZ.out.zb))
      have HSZ := Kp.mk (HT0.out.strans hw1).size
      have hlt : ∀ x, Z x → x < W1.heap.size := fun x hx => Nat.lt_of_lt_of_le (HZ.out.lt x hx) HSZ.out
      have hsz2 := ht2.size
      obtain ⟨Z2, hz2, hsub⟩ : ∃ Z2, JZ w2 Z2 b (j.meth f.d) ∧ ∀ x, Z2 x → Z x ∨ w.heap.size ≤ x := ⟨_, (HZ.out.still (HT0.out.strans hw1)).of hj2, fun x hx => hx.elim (fun e => .inl (e ▸ HZ.out.zb)) (fun hx => .inr (Nat.le_trans HSZ.out hx.1))⟩
      have HJJ := Kp.mk hz2; have HSUB := Kp.mk hsub
      have x2 := hj2.nx
      have x3 := hj2.lf
      have x4 := hj2.wh
      have xf := hj2.frz
      clear hj2 ht2 hw1 hz2 hsub hlt hsz2 x0 x1 y0 y1 y2
      generalize methE f.d = e at *
      generalize j.meth f.d = j2 at *
      by_cases he : e = 0
      · subst he
        by_cases hn : j2.next ≠ 3
        · have HE := Kp.mk (show j.add f = (false, 0, j2) by rw [HADD2.out, if_neg (by simp), if_pos (.inl hn)])
          have hnb : (j2.next != 3) = true := by simpa using hn
          clear hn
          go_wp2_with fail
          simp only [Exit.jump]
          go_ret2
          exact ⟨by rw [HE.out]; rfl, ⟨Z2, by rw [HE.out]; exact HJJ.out, HSUB.out⟩, HTT.out⟩
        have hnb : (j2.next != 3) = false := by simpa using hn
        by_cases hl : 0 < j2.left
        · have HE := Kp.mk (show j.add f = (false, 0, j2) by rw [HADD2.out, if_neg (by simp), if_pos (.inr hl)])
          have hlb : decide (0 < j2.left) = true := decide_eq_true hl
          clear hn hl
          go_wp2_with fail
          simp only [Exit.jump]
          go_ret2
          exact ⟨by rw [HE.out]; rfl, ⟨Z2, by rw [HE.out]; exact HJJ.out, HSUB.out⟩, HTT.out⟩
        · have HE := Kp.mk (show j.add f = (true, 0, { j2 with next := 1, whole := true }) by rw [HADD2.out, if_neg (by simp), if_neg (by intro h; rcases h with h | h; exact hn h; exact hl h)])
          have hlb : decide (0 < j2.left) = false := decide_eq_false hl
          clear hn hl
          go_wp2_with fail
          simp only [Exit.jump]
          go_ret2
          exact ⟨by rw [HE.out]; rfl, ⟨Z2, by rw [HE.out]; exact HJJ.out.fin, HSUB.out⟩, (HTT.out.setCell ⟨b, 1, none⟩ _ (fun _ => HZ.out.zb)).setCell ⟨b, 3, none⟩ _ (fun _ => HZ.out.zb)⟩
      · have HE := Kp.mk (show j.add f = (false, e, J.new j.ch) by rw [HADD2.out, if_pos he])
        have heb : (e != 0) = true := by simpa using he
        clear he
        go_wp2_with fail
        go_step3
        simp only [Exit.then]
        show _ ∧ _
        exact ⟨rfl, AddJ.mk _ _ e rfl ⟨HE.out, ⟨Z2, j2, HJJ.out, HCH.out, HSUB.out⟩, HTT.out⟩⟩
    by_cases hk2 : f.k = 2
    · have HST := Kp.mk (show j.step f = (headE f.d, j.head f.d) by unfold J.step; rw [if_neg hk1, if_pos hk2])
      have hk1b : (f.k == 1) = false := by simpa using hk1
      have hk2b : (f.k == 2) = true := by simpa using hk2
      have HADD2 := Kp.mk (show j.add f = if headE f.d ≠ 0 then (false, headE f.d, J.new j.ch) else if (j.head f.d).next ≠ 3 ∨ 0 < (j.head f.d).left then (false, 0, j.head f.d) else (true, 0, { j.head f.d with next := 1, whole := true }) by
        rw [HADD.out, if_neg h8, if_neg hch, if_neg hk, HST.out])
      have HCH := Kp.mk (show (j.head f.d).ch = j.ch by first | rfl | (unfold J.head; split <;> rfl) | (unfold J.part; split <;> rfl))
      clear HADD h8 hch hk hk1 hk2
      go_wp2_with fail
      go_quiet (fail)
      generalize nq = n1
      go_wp2_with fail
      go_quiet (fail)
      go_wp2_with fail
      generalize n1 + nq = n2
      have hw1 : Still W0 (W0.drewN n2) := (Still.refl _).drewN _
      generalize W0.drewN n2 = W1 at *
      refine (header54 j f A c _ SF 0 b AM AP AB cM cP cB W1 (HJF.out W1 hw1) (fun x hx => hx.2.1) (fun x hx => (HBB.out x hx).2) h0 h1 h2 (HBF.out W1 hw1)).mono ?_
      rintro r w2 ⟨rfl, ⟨A2, c2, hj2⟩, ht2⟩
      have HTT := Kp.mk (Tch.trans (S := Z) (Tch.of_still (HT0.out.strans hw1)) ht2 (fun x _ e => e ▸ HZ.out.zb))
      have HSZ := Kp.mk (HT0.out.strans hw1).size
      have hlt : ∀ x, Z x → x < W1.heap.size := fun x hx => Nat.lt_of_lt_of_le (HZ.out.lt x hx) HSZ.out
      have hsz2 := ht2.size
      obtain ⟨Z2, hz2, hsub⟩ : ∃ Z2, JZ w2 Z2 b (j.head f.d) ∧ ∀ x, Z2 x → Z x ∨ w.heap.size ≤ x := ⟨_, JZ.grow hlt HZ.out.zb HBB.out hsz2 (fun x hx => .inl hx) (hj2.weak (fun x hx => hx.imp id (fun h => ⟨h, fun hb => by have := hlt x (HBB.out x hb).1; omega⟩))), fun x hx => hx.elim .inl (fun hx => .inr (Nat.le_trans HSZ.out hx.1))⟩
      have HJJ := Kp.mk hz2; have HSUB := Kp.mk hsub
      have x2 := hj2.nx
      have x3 := hj2.lf
      have x4 := hj2.wh
      have xf := hj2.frz
      clear hj2 ht2 hw1 hz2 hsub hlt hsz2 x0 x1 y0 y1 y2
      generalize headE f.d = e at *
      generalize j.head f.d = j2 at *
      by_cases he : e = 0
      · subst he
        by_cases hn : j2.next ≠ 3
        · have HE := Kp.mk (show j.add f = (false, 0, j2) by rw [HADD2.out, if_neg (by simp), if_pos (.inl hn)])
          have hnb : (j2.next != 3) = true := by simpa using hn
          clear hn
          go_wp2_with fail
          simp only [Exit.jump]
          go_ret2
          exact ⟨by rw [HE.out]; rfl, ⟨Z2, by rw [HE.out]; exact HJJ.out, HSUB.out⟩, HTT.out⟩
        have hnb : (j2.next != 3) = false := by simpa using hn
        by_cases hl : 0 < j2.left
        · have HE := Kp.mk (show j.add f = (false, 0, j2) by rw [HADD2.out, if_neg (by simp), if_pos (.inr hl)])
          have hlb : decide (0 < j2.left) = true := decide_eq_true hl
          clear hn hl
          go_wp2_with fail
          simp only [Exit.jump]
          go_ret2
          exact ⟨by rw [HE.out]; rfl, ⟨Z2, by rw [HE.out]; exact HJJ.out, HSUB.out⟩, HTT.out⟩
        · have HE := Kp.mk (show j.add f = (true, 0, { j2 with next := 1, whole := true }) by rw [HADD2.out, if_neg (by simp), if_neg (by intro h; rcases h with h | h; exact hn h; exact hl h)])
          have hlb : decide (0 < j2.left) = false := decide_eq_false hl
          clear hn hl
          go_wp2_with fail
          simp only [Exit.jump]
          go_ret2
          exact ⟨by rw [HE.out]; rfl, ⟨Z2, by rw [HE.out]; exact HJJ.out.fin, HSUB.out⟩, (HTT.out.setCell ⟨b, 1, none⟩ _ (fun _ => HZ.out.zb)).setCell ⟨b, 3, none⟩ _ (fun _ => HZ.out.zb)⟩
      · have HE := Kp.mk (show j.add f = (false, e, J.new j.ch) by rw [HADD2.out, if_pos he])
        have heb : (e != 0) = true := by simpa using he
        clear he
        go_wp2_with fail
        go_step3
        simp only [Exit.then]
        show _ ∧ _
        exact ⟨rfl, AddJ.mk _ _ e rfl ⟨HE.out, ⟨Z2, j2, HJJ.out, HCH.out, HSUB.out⟩, HTT.out⟩⟩
    · have HST := Kp.mk (show j.step f = (j.partE f.d, j.part f.d) by unfold J.step; rw [if_neg hk1, if_neg hk2])
      have hk1b : (f.k == 1) = false := by simpa using hk1
      have hk2b : (f.k == 2) = false := by simpa using hk2
      have HADD2 := Kp.mk (show j.add f = if j.partE f.d ≠ 0 then (false, j.partE f.d, J.new j.ch) else if (j.part f.d).next ≠ 3 ∨ 0 < (j.part f.d).left then (false, 0, j.part f.d) else (true, 0, { j.part f.d with next := 1, whole := true }) by
        rw [HADD.out, if_neg h8, if_neg hch, if_neg hk, HST.out])
      have HCH := Kp.mk (show (j.part f.d).ch = j.ch by first | rfl | (unfold J.head; split <;> rfl) | (unfold J.part; split <;> rfl))
      clear HADD h8 hch hk hk1 hk2
      go_wp2_with fail
      go_quiet (fail)
      generalize nq = n1
      go_wp2_with fail
      go_quiet (fail)
      go_wp2_with fail
      generalize n1 + nq = n2
      have hw1 : Still W0 (W0.drewN n2) := (Still.refl _).drewN _
      generalize W0.drewN n2 = W1 at *
      refine (part55 j f A c _ SF b AM AP AB cM cP cB W1 (HJF.out W1 hw1) (fun x hx => hx.2) (fun x hx => (HBB.out x hx).2) hl0 hl1 hbl h0 h1 h2 (HBF.out W1 hw1) (fun x hx hb => HSF.out x hx (HBB.out x hb).1)).mono ?_
      rintro r w2 ⟨rfl, ⟨A2, c2, hj2, hb2⟩, ht2⟩
      have HTT := Kp.mk (Tch.trans (S := Z) (Tch.of_still (HT0.out.strans hw1)) ht2 (fun x _ e => e.elim (fun e => e ▸ HZ.out.zb) (fun e => (HBB.out x e).1)))
      have HSZ := Kp.mk (HT0.out.strans hw1).size
      have hlt : ∀ x, Z x → x < W1.heap.size := fun x hx => Nat.lt_of_lt_of_le (HZ.out.lt x hx) HSZ.out
      have hsz2 := ht2.size
      obtain ⟨Z2, hz2, hsub⟩ : ∃ Z2, JZ w2 Z2 b (j.part f.d) ∧ ∀ x, Z2 x → Z x ∨ w.heap.size ≤ x := ⟨_, JZ.grow hlt HZ.out.zb HBB.out hsz2 hb2 (hj2.weak (fun x hx => .inl hx)), fun x hx => hx.elim .inl (fun hx => .inr (Nat.le_trans HSZ.out hx.1))⟩
      have HJJ := Kp.mk hz2; have HSUB := Kp.mk hsub
      have x2 := hj2.nx
      have x3 := hj2.lf
      have x4 := hj2.wh
      have xf := hj2.frz
      clear hj2 ht2 hw1 hz2 hsub hlt hsz2 x0 x1 y0 y1 y2
      generalize j.partE f.d = e at *
      generalize j.part f.d = j2 at *
      by_cases he : e = 0
      · subst he
        by_cases hn : j2.next ≠ 3
        · have HE := Kp.mk (show j.add f = (false, 0, j2) by rw [HADD2.out, if_neg (by simp), if_pos (.inl hn)])
          have hnb : (j2.next != 3) = true := by simpa using hn
          clear hn
          go_wp2_with fail
          simp only [Exit.jump]
          go_ret2
          exact ⟨by rw [HE.out]; rfl, ⟨Z2, by rw [HE.out]; exact HJJ.out, HSUB.out⟩, HTT.out⟩
        have hnb : (j2.next != 3) = false := by simpa using hn
        by_cases hl : 0 < j2.left
        · have HE := Kp.mk (show j.add f = (false, 0, j2) by rw [HADD2.out, if_neg (by simp), if_pos (.inr hl)])
          have hlb : decide (0 < j2.left) = true := decide_eq_true hl
          clear hn hl
          go_wp2_with fail
          simp only [Exit.jump]
          go_ret2
          exact ⟨by rw [HE.out]; rfl, ⟨Z2, by rw [HE.out]; exact HJJ.out, HSUB.out⟩, HTT.out⟩
        · have HE := Kp.mk (show j.add f = (true, 0, { j2 with next := 1, whole := true }) by rw [HADD2.out, if_neg (by simp), if_neg (by intro h; rcases h with h | h; exact hn h; exact hl h)])
          have hlb : decide (0 < j2.left) = false := decide_eq_false hl
          clear hn hl
          go_wp2_with fail
          simp only [Exit.jump]
          go_ret2
          exact ⟨by rw [HE.out]; rfl, ⟨Z2, by rw [HE.out]; exact HJJ.out.fin, HSUB.out⟩, (HTT.out.setCell ⟨b, 1, none⟩ _ (fun _ => HZ.out.zb)).setCell ⟨b, 3, none⟩ _ (fun _ => HZ.out.zb)⟩
      · have HE := Kp.mk (show j.add f = (false, e, J.new j.ch) by rw [HADD2.out, if_pos he])
        have heb : (e != 0) = true := by simpa using he
        clear he
        go_wp2_with fail
        go_step3
        simp only [Exit.then]
        show _ ∧ _
        exact ⟨rfl, AddJ.mk _ _ e rfl ⟨HE.out, ⟨Z2, j2, HJJ.out, HCH.out, HSUB.out⟩, HTT.out⟩⟩
  · rintro a' wl ⟨e, u, rfl, HL⟩
    obtain ⟨Zx, jx, hz, hch, hsub⟩ := HL.out.jz
    obtain ⟨AM, cM, AP, cP, AB, cB, hj, hb⟩ := hz.at_
    have HJ := Kp.mk hj; have HZX := Kp.mk hz; have HSUB := Kp.mk hsub; clear hj hz hsub hb
    go_wp2_with fail
    refine (forget56 jx e _ 0 b AM AP AB cM cP cB wl HJ.out (fun x hx => hx.2.1)).mono ?_
    rintro r w2 ⟨rfl, hj2, ht2⟩
    have HJ2 := Kp.mk hj2; have HT2 := Kp.mk ht2; clear hj2 ht2
    go_wp2_with fail
    simp only [Exit.jump]
    go_ret2
    rw [hch] at HJ2
    have hs := HL.out.tch.size
    refine ⟨by rw [HL.out.add]; rfl, ⟨_, by rw [HL.out.add]; exact HZX.out.of HJ2.out.newS, fun x hx => ?_⟩, HL.out.tch.trans HT2.out (fun x _ e => e ▸ HZ.out.zb)⟩
    rcases hx with rfl | ⟨hx, _⟩
    · exact .inl HZ.out.zb
    · exact .inr (by omega)
end Go.Proofs.Ytaeainkfllfdfaa
/- D9: content.Join: Done. -/
namespace Go.Proofs.Ytaeainkfllfdfaa
open Go.RowKit
set_option linter.unusedVariables false
set_option linter.unusedSimpArgs false
set_option maxRecDepth 100000

/-- slices.Clone at items: where the copy lies. -/
def RetSlS (w : World) (S : Nat → Prop) (l : L) (e : Ending) (w' : World) : Prop :=
  ∃ A c, e = .returned (.slice A l.len c) ∧ Kp (Sl w' (fun b => (S b ∧ b < w.heap.size) ∨ w.heap.size ≤ b) A l) ∧ Kp (Still w w')

set_option maxHeartbeats 1000000 in
theorem clone57s (l : L) (A : Option Addr) (c : Nat) (w : World) (S : Nat → Prop) (hB : Sl w S A l) (hl : l.len ≤ 1099511627776) :
    Calls Try.prog 57 #[.slice A l.len c] w (RetSlS w S l) := by
  obtain ⟨us, hv0, hc0⟩ := hB.old.vals
  have HV := Kp.mk hv0
  have HC := Kp.mk (show ∀ W, Still w W → l.len = 0 ∨ ∃ b o, A = some ⟨b, o, none⟩ ∧ ∀ j u, us[j]? = some u → W.cell? ⟨b, o + j, none⟩ = some u from fun W h => hc0.imp id (fun ⟨b, o, e, hc⟩ => ⟨b, o, e, fun j u hj => h.scell (hc j u hj)⟩))
  have hA : A = none → l.len = 0 := fun h => by
    rcases hB with h' | ⟨b, o, us, h', _⟩
    · exact h'
    · rw [h] at h'; cases h'
  clear hB hc0 hv0
  have qT : ∀ (w : World) (a : Option Addr) (n c n' c' : Nat), (binOp .eql 22 (.slice a n c) (.slice none n' c')).run Try.prog w = .ok (.bool a.isNone) w := fun w a n c n' c' => Lib.run_eql_slice_nil w 22 _ a n c n' c' Try.underlying22
  go_enter Try.func57, Try.ntmps57
  cases A with
  | none =>
    have hb0 := L.len_zero (hA rfl)
    subst hb0
    go_wp2_with fail
    go_ret
    exact ⟨none, 0, rfl, ⟨Sl.nil _ _ _⟩, ⟨by repeat' (first | exact Tch.refl _ _ | refine Tch.drew ?_ | refine Tch.alloc ?_ _)⟩⟩
  | some a =>
    clear hA
    go_wp2_with (at_builtin; (refine wpList_appI _ rfl _ _ rfl w.heap.size (fun b => S b ∧ b < w.heap.size) (fun b => S b ∧ b < w.heap.size) _ 0 0 _ .nil l rfl rfl (OwnI.made _ ?_ (Nat.le_refl _)) (some a) c us rfl rfl (HC.out _ ?_) (HV.out.still ?_) ?_ ?_ ?_ ?_); (first | exact hn1 _ _ | exact heap_alloc_new _ _); (repeat' (first | exact Tch.refl _ _ | refine Tch.alloc ?_ _ | refine Tch.drew ?_)); (repeat' (first | exact Tch.refl _ _ | refine Tch.alloc ?_ _ | refine Tch.drew ?_)); (intro x hx _; refine ⟨hx, fun ⟨y, hy, e⟩ => ?_⟩; simp only [Option.some.injEq] at hy; subst hy; have := hx.2; (try dsimp only at e); omega); (simp only [L.len]; omega); (simp); intro A2 c2 w2 ho2 ht2 hat2; have HO2 := Kp.mk ho2; have HT2 := Kp.mk (app_still (W := w) (by (repeat' (first | exact Tch.refl _ _ | refine Tch.alloc ?_ _ | refine Tch.drew ?_))) (Nat.le_refl _) ht2); clear ho2 ht2 hat2)
    go_ret
    exact ⟨A2, c2, by simp, ⟨HO2.out.sl (fun _ hb => .inr hb) (fun _ hb => .inl hb)⟩, HT2⟩
/-- A call's cells, as a list. -/
abbrev M.vs (m : M) (A : Option Addr) (c : Nat) : List Value := [.int .i64 m.id, .string m.nm, .string m.ty, .string m.ex, .string m.ky, .string m.tx, .int .i64 m.co, .int .i64 m.cn, .int .u64 m.tg, .bool m.fl, .bool m.bk, .slice A m.ar.len c]
theorem MAt.some {w : World} {S : Nat → Prop} {b : Nat} {A : Option Addr} {c : Nat} {m : M} (h : MAt w S b A c m) (k : Nat) (hk : k < 12) : (w.cell? ⟨b, 0 + k, none⟩).isSome = true := by
  rw [Nat.zero_add]
  match k, hk with
  | 0, _ => rw [h.id]; rfl
  | 1, _ => rw [h.nm]; rfl
  | 2, _ => rw [h.ty]; rfl
  | 3, _ => rw [h.ex]; rfl
  | 4, _ => rw [h.ky]; rfl
  | 5, _ => rw [h.tx]; rfl
  | 6, _ => rw [h.co]; rfl
  | 7, _ => rw [h.cn]; rfl
  | 8, _ => rw [h.tg]; rfl
  | 9, _ => rw [h.fl]; rfl
  | 10, _ => rw [h.bk]; rfl
  | 11, _ => rw [h.ar]; rfl
  | (k + 12), hk => exact absurd hk (by omega)
theorem MAt.there {w : World} {S : Nat → Prop} {b : Nat} {A : Option Addr} {c : Nat} {m : M} (h : MAt w S b A c m) (hf : ∀ o, w.frozen? ⟨b, o, none⟩ = false) : w.there b 0 12 := fun k hk => ⟨h.some k hk, hf _⟩
theorem size42 : (Try.prog.info? 42).map (·.size) = Option.some 12 := by kernel_rfl
theorem M.vs_one (m : M) (A : Option Addr) (c : Nat) : ((m.vs A c).toArray.all (·.oneCell')) = true :=
  all_oneCell_toArray (by intro v hv; simp only [M.vs, List.mem_cons, List.not_mem_nil, or_false] at hv; rcases hv with rfl | rfl | rfl | rfl | rfl | rfl | rfl | rfl | rfl | rfl | rfl | rfl <;> rfl)
/-- A whole call is stored: one step of a region. -/
theorem step_storeM {ops : Array Oper} {o : Oper} {a : Act} {w : World} {K : Act → World → Prop} {Q : Exit → Act → World → Prop} (hw : Region.wanted o (yielded ops a.tmps) = true) (x y : Operand) (ho : o.op = .store 42 x y)
    {S : Nat → Prop} {b : Nat} {A : Option Addr} {c : Nat} {m : M} (h : MAt w S b A c m) (hf : ∀ o, w.frozen? ⟨b, o, none⟩ = false) (m' : M) (A' : Option Addr) (c' : Nat)
    (hx : a.eval x = .pointer (Option.some ⟨b, 0, none⟩)) (hy : a.eval y = .agg (m'.vs A' c').toArray)
    (hK : K (a.put o.dst undef) (w.setCells b 0 (m'.vs A' c'))) : if Region.wanted o (yielded ops a.tmps) = true then o.wp Try.prog a w K Q else K (a.put o.dst undef) w := by
  rw [if_pos hw]
  exact wp_store_mid 42 x y ho b 0 _ hx hy (h.there hf) size42 (M.vs_one _ _ _) hK
/-- What lies there behind it. -/
theorem MAt.store {w : World} {S S' : Nat → Prop} {b : Nat} {A A' : Option Addr} {c c' : Nat} {m : M} (h : MAt w S b A c m) (m' : M) (hs : Sl w S' A' m'.ar) (hS : ∀ x, S' x → x ≠ b) : MAt (w.setCells b 0 (m'.vs A' c')) S' b A' c' m' ∧ Tch (· = b) w (w.setCells b 0 (m'.vs A' c')) := by
  have T : Tch (· = b) w (w.setCells b 0 (m'.vs A' c')) := Tch.setCells b _ w 0 (Tch.refl _ _) rfl
  have H := World.cell?_setCells_in b (m'.vs A' c') 0 w (fun k hk => h.some k hk)
  exact ⟨⟨H 0 (show 0 < 12 by decide), H 1 (show 1 < 12 by decide), H 2 (show 2 < 12 by decide), H 3 (show 3 < 12 by decide), H 4 (show 4 < 12 by decide), H 5 (show 5 < 12 by decide), H 6 (show 6 < 12 by decide), H 7 (show 7 < 12 by decide), H 8 (show 8 < 12 by decide), H 9 (show 9 < 12 by decide), H 10 (show 10 < 12 by decide), H 11 (show 11 < 12 by decide), hs.tch T hS⟩, T⟩

/-- What Done tells of a message that is whole. -/
def RetDone (w : World) (j : J) (r : Ending) (w' : World) : Prop :=
  ∃ A c A2 c2 A3 c3, r = .returned (.tuple #[j.m.val A c, .slice A2 j.props.len c2, .slice A3 j.body.length c3]) ∧ Kp (Sl w' (fun _ => True) A j.m.ar) ∧ Kp (Sl w' (fun _ => True) A2 j.props) ∧ Kp (Bs w' (fun x => w.heap.size ≤ x) A3 j.body ∧ j.body.length ≤ c3 ∧ c3 ≤ 9223372036854775807) ∧ Kp (Still w w')

set_option maxHeartbeats 1000000 in
theorem done28 (j : J) (b : Nat) (Z : Nat → Prop) (w : World) (h : JZ w Z b j) (hwh : j.whole = true) (hp : j.props.len ≤ 1099511627776) (hbl : j.body.length ≤ 1000000000) :
    Calls Try.prog 28 #[.pointer (some ⟨b, 0, none⟩)] w (RetDone w j) := by
  have HZ := Kp.mk h; clear h
  obtain ⟨AM, cM, AP, cP, AB, cB, hj, hb⟩ := HZ.out.at_
  have hblt := hj.lt
  have hjo := hj.old
  have x3 := hj.wh
  rw [hwh] at x3
  have HJ := Kp.mk hjo
  have HOB := Kp.mk (fun x hx => (hj.own.base (b := x) hx).2)
  clear hj hb hwh hjo
  go_enter Try.func28, Try.ntmps28
  go_wp2_with fail
  have ht0 : Still w (w.alloc (Obj.cells #[Value.int IntKind.i64 0, Value.string { data := #[] }, Value.string { data := #[] }, Value.string { data := #[] }, Value.string { data := #[] }, Value.string { data := #[] }, Value.int IntKind.i64 0, Value.int IntKind.i64 0, Value.int IntKind.u64 0, Value.bool false, Value.bool false, Value.slice none 0 0] 42)) := (Still.refl w).alloc _
  have hf0 : ∀ o, (w.alloc (Obj.cells #[Value.int IntKind.i64 0, Value.string { data := #[] }, Value.string { data := #[] }, Value.string { data := #[] }, Value.string { data := #[] }, Value.string { data := #[] }, Value.int IntKind.i64 0, Value.int IntKind.i64 0, Value.int IntKind.u64 0, Value.bool false, Value.bool false, Value.slice none 0 0] 42)).frozen? ⟨w.heap.size, o, none⟩ = false := fun o => by go_simp
  have hm0 : MAt (w.alloc (Obj.cells #[Value.int IntKind.i64 0, Value.string { data := #[] }, Value.string { data := #[] }, Value.string { data := #[] }, Value.string { data := #[] }, Value.string { data := #[] }, Value.int IntKind.i64 0, Value.int IntKind.i64 0, Value.int IntKind.u64 0, Value.bool false, Value.bool false, Value.slice none 0 0] 42)) (fun _ => False) w.heap.size none 0 M.zero := MAt.new (w := w) (S := fun _ => False) (A := none) (c := 0) M.zero (Sl.nil _ _ _)
  have hx0 : w.heap.size < (w.alloc (Obj.cells #[Value.int IntKind.i64 0, Value.string { data := #[] }, Value.string { data := #[] }, Value.string { data := #[] }, Value.string { data := #[] }, Value.string { data := #[] }, Value.int IntKind.i64 0, Value.int IntKind.i64 0, Value.int IntKind.u64 0, Value.bool false, Value.bool false, Value.slice none 0 0] 42)).heap.size := by simp
  clear x3
  generalize w.alloc (Obj.cells #[Value.int IntKind.i64 0, Value.string { data := #[] }, Value.string { data := #[] }, Value.string { data := #[] }, Value.string { data := #[] }, Value.string { data := #[] }, Value.int IntKind.i64 0, Value.int IntKind.i64 0, Value.int IntKind.u64 0, Value.bool false, Value.bool false, Value.slice none 0 0] 42) = W at *
  have HT0 := Kp.mk ht0; have HM0 := Kp.mk hm0; have HF0 := Kp.mk hf0; have HX0 := Kp.mk hx0
  have HJ0 := Kp.mk (HJ.out.still ht0)
  clear ht0 hm0 hf0 hx0
  generalize hX : w.heap.size = X at *
  have HXX := Kp.mk hX; clear hX
  have hbx : ¬ b = X := by omega
  have HJT := Kp.mk (fun W' (h : Tch (· = X) W W') => HJ0.out.tch h hbx (fun x hx e => by have := hx.2; have := HXX.out; omega) (fun x hx e => by have := HOB.out x hx; have := HXX.out; omega))
  have HPJ := Kp.mk (fun W (h : JAt W (fun x => (Z x ∧ x ≠ b ∧ ¬ blk AB x) ∧ x < X) 0 b AM cM AP cP AB cB j) => show (fun W => W.cell? ⟨b, 4, none⟩ = some (.int .i64 j.m.id) ∧ W.cell? ⟨b, 5, none⟩ = some (.string j.m.nm) ∧ W.cell? ⟨b, 6, none⟩ = some (.string j.m.ty) ∧ W.cell? ⟨b, 7, none⟩ = some (.string j.m.ex) ∧ W.cell? ⟨b, 8, none⟩ = some (.string j.m.ky) ∧ W.cell? ⟨b, 9, none⟩ = some (.string j.m.tx) ∧ W.cell? ⟨b, 10, none⟩ = some (.int .i64 j.m.co) ∧ W.cell? ⟨b, 11, none⟩ = some (.int .i64 j.m.cn) ∧ W.cell? ⟨b, 12, none⟩ = some (.int .u64 j.m.tg) ∧ W.cell? ⟨b, 13, none⟩ = some (.bool j.m.fl) ∧ W.cell? ⟨b, 14, none⟩ = some (.bool j.m.bk) ∧ W.cell? ⟨b, 15, none⟩ = some (.slice AM j.m.ar.len cM) ∧ W.cell? ⟨b, 16, none⟩ = some (.slice AP j.props.len cP) ∧ W.cell? ⟨b, 17, none⟩ = some (.slice AB j.body.length cB)) W from ⟨h.id, h.nm, h.ty, h.ex, h.ky, h.tx, h.co, h.cn, h.tg, h.fl, h.bk, h.ar, h.pr, h.bo⟩)
  have HP := Kp.mk (fun W' (h : Tch (· = X) W W') => HPJ.out W' (HJT.out W' h))
  refine wp_region_held_drew (S := fun W => W.cell? ⟨b, 4, none⟩ = some (.int .i64 j.m.id) ∧ W.cell? ⟨b, 5, none⟩ = some (.string j.m.nm) ∧ W.cell? ⟨b, 6, none⟩ = some (.string j.m.ty) ∧ W.cell? ⟨b, 7, none⟩ = some (.string j.m.ex) ∧ W.cell? ⟨b, 8, none⟩ = some (.string j.m.ky) ∧ W.cell? ⟨b, 9, none⟩ = some (.string j.m.tx) ∧ W.cell? ⟨b, 10, none⟩ = some (.int .i64 j.m.co) ∧ W.cell? ⟨b, 11, none⟩ = some (.int .i64 j.m.cn) ∧ W.cell? ⟨b, 12, none⟩ = some (.int .u64 j.m.tg) ∧ W.cell? ⟨b, 13, none⟩ = some (.bool j.m.fl) ∧ W.cell? ⟨b, 14, none⟩ = some (.bool j.m.bk) ∧ W.cell? ⟨b, 15, none⟩ = some (.slice AM j.m.ar.len cM) ∧ W.cell? ⟨b, 16, none⟩ = some (.slice AP j.props.len cP) ∧ W.cell? ⟨b, 17, none⟩ = some (.slice AB j.body.length cB)) (by kernel_rfl) (HP.out _ ((Tch.refl _ W).drew)) (fun hHeld0 => ?_)
  refine wpAnyH_take (i := 0) (v := .pointer (some ⟨b, 0, none⟩)) rfl (by kernel_rfl) (by kernel_rfl) (by kernel_rfl) (fun _ _ _ h => h) (Or.inl ⟨by rfl, ?_⟩) hHeld0 ?_
  · (intro w hSw; (try dsimp only at hSw); go_simp)
  simp only [Act.put, List.getElem_toArray, List.getElem_cons_zero, List.getElem_cons_succ, List.setIfInBounds_toArray, List.set_cons_zero, List.set_cons_succ]
  refine wpAnyH_take (i := 1) (v := .pointer (some ⟨b, 0, none⟩)) rfl (by kernel_rfl) (by kernel_rfl) (by kernel_rfl) (fun _ _ _ h => h) (Or.inl ⟨by rfl, ?_⟩) hHeld0 ?_
  · (intro w hSw; (try dsimp only at hSw); go_simp)
  simp only [Act.put, List.getElem_toArray, List.getElem_cons_zero, List.getElem_cons_succ, List.setIfInBounds_toArray, List.set_cons_zero, List.set_cons_succ]
  refine wpAnyH_take (i := 2) (v := .pointer (some ⟨b, 4, none⟩)) rfl (by kernel_rfl) (by kernel_rfl) (by kernel_rfl) (fun _ _ _ h => h) (Or.inl ⟨by rfl, ?_⟩) hHeld0 ?_
  · (intro w hSw; (try dsimp only at hSw); go_simp)
  simp only [Act.put, List.getElem_toArray, List.getElem_cons_zero, List.getElem_cons_succ, List.setIfInBounds_toArray, List.set_cons_zero, List.set_cons_succ]
  refine wpAnyH_take (i := 3) (v := .agg #[.int .i64 j.m.id, .string j.m.nm, .string j.m.ty, .string j.m.ex, .string j.m.ky, .string j.m.tx, .int .i64 j.m.co, .int .i64 j.m.cn, .int .u64 j.m.tg, .bool j.m.fl, .bool j.m.bk, .slice AM j.m.ar.len cM]) rfl (by kernel_rfl) (by kernel_rfl) (by kernel_rfl) (fun _ _ _ h => h) (Or.inl ⟨by rfl, ?_⟩) hHeld0 ?_
  · (intro w hSw; (try dsimp only at hSw); go_simp)
  simp only [Act.put, List.getElem_toArray, List.getElem_cons_zero, List.getElem_cons_succ, List.setIfInBounds_toArray, List.set_cons_zero, List.set_cons_succ]
  refine wpAnyH_take (i := 4) (v := .pointer (some ⟨b, 0, none⟩)) rfl (by kernel_rfl) (by kernel_rfl) (by kernel_rfl) (fun _ _ _ h => h) (Or.inl ⟨by rfl, ?_⟩) hHeld0 ?_
  · (intro w hSw; (try dsimp only at hSw); go_simp)
  simp only [Act.put, List.getElem_toArray, List.getElem_cons_zero, List.getElem_cons_succ, List.setIfInBounds_toArray, List.set_cons_zero, List.set_cons_succ]
  refine wpAnyH_take (i := 5) (v := .pointer (some ⟨b, 0, none⟩)) rfl (by kernel_rfl) (by kernel_rfl) (by kernel_rfl) (fun _ _ _ h => h) (Or.inl ⟨by rfl, ?_⟩) hHeld0 ?_
  · (intro w hSw; (try dsimp only at hSw); go_simp)
  simp only [Act.put, List.getElem_toArray, List.getElem_cons_zero, List.getElem_cons_succ, List.setIfInBounds_toArray, List.set_cons_zero, List.set_cons_succ]
  refine wpAnyH_take (i := 6) (v := .pointer (some ⟨b, 16, none⟩)) rfl (by kernel_rfl) (by kernel_rfl) (by kernel_rfl) (fun _ _ _ h => h) (Or.inl ⟨by rfl, ?_⟩) hHeld0 ?_
  · (intro w hSw; (try dsimp only at hSw); go_simp)
  simp only [Act.put, List.getElem_toArray, List.getElem_cons_zero, List.getElem_cons_succ, List.setIfInBounds_toArray, List.set_cons_zero, List.set_cons_succ]
  refine wpAnyH_take (i := 7) (v := .slice AP j.props.len cP) rfl (by kernel_rfl) (by kernel_rfl) (by kernel_rfl) (fun _ _ _ h => h) (Or.inl ⟨by rfl, ?_⟩) hHeld0 ?_
  · (intro w hSw; (try dsimp only at hSw); go_simp)
  simp only [Act.put, List.getElem_toArray, List.getElem_cons_zero, List.getElem_cons_succ, List.setIfInBounds_toArray, List.set_cons_zero, List.set_cons_succ]
  refine wpAnyH_take (i := 9) (v := .pointer (some ⟨b, 0, none⟩)) rfl (by kernel_rfl) (by kernel_rfl) (by kernel_rfl) (fun _ _ _ h => h) (Or.inl ⟨by rfl, ?_⟩) hHeld0 ?_
  · (intro w hSw; (try dsimp only at hSw); go_simp)
  simp only [Act.put, List.getElem_toArray, List.getElem_cons_zero, List.getElem_cons_succ, List.setIfInBounds_toArray, List.set_cons_zero, List.set_cons_succ]
  refine wpAnyH_take (i := 10) (v := .pointer (some ⟨b, 0, none⟩)) rfl (by kernel_rfl) (by kernel_rfl) (by kernel_rfl) (fun _ _ _ h => h) (Or.inl ⟨by rfl, ?_⟩) hHeld0 ?_
  · (intro w hSw; (try dsimp only at hSw); go_simp)
  simp only [Act.put, List.getElem_toArray, List.getElem_cons_zero, List.getElem_cons_succ, List.setIfInBounds_toArray, List.set_cons_zero, List.set_cons_succ]
  refine wpAnyH_take (i := 11) (v := .pointer (some ⟨b, 17, none⟩)) rfl (by kernel_rfl) (by kernel_rfl) (by kernel_rfl) (fun _ _ _ h => h) (Or.inl ⟨by rfl, ?_⟩) hHeld0 ?_
  · (intro w hSw; (try dsimp only at hSw); go_simp)
  simp only [Act.put, List.getElem_toArray, List.getElem_cons_zero, List.getElem_cons_succ, List.setIfInBounds_toArray, List.set_cons_zero, List.set_cons_succ]
  refine wpAnyH_take (i := 12) (v := .slice AB j.body.length cB) rfl (by kernel_rfl) (by kernel_rfl) (by kernel_rfl) (fun _ _ _ h => h) (Or.inl ⟨by rfl, ?_⟩) hHeld0 ?_
  · (intro w hSw; (try dsimp only at hSw); go_simp)
  simp only [Act.put, List.getElem_toArray, List.getElem_cons_zero, List.getElem_cons_succ, List.setIfInBounds_toArray, List.set_cons_zero, List.set_cons_succ]
  refine wpAnyH_ready (rs := [8]) (by kernel_rfl) (by simp) ?_
  refine AllReadyH.cons (o := ?o1) ?ho1 (fun K hK => ?_) AllReadyH.nil
  case ho1 => (first | (simp only [List.getElem?_toArray, List.getElem?_cons_succ, List.getElem?_cons_zero]; done) | (simp only [List.getElem?_toArray, List.getElem?_cons_succ, List.getElem?_cons_zero]; rfl))
  go_simp
  go_at_call 57
  refine (clone57s j.props AP cP _ _ (HJT.out _ ((Tch.refl _ W).drew)).slp hp).mono ?_
  rintro e w5 ⟨A2, c2, rfl, hs2, ht5⟩
  have HT5 := Kp.mk (((Still.refl W).drew).strans ht5.out); have HT5t := Kp.mk (Tch.of_still (S := (· = X)) HT5.out); clear ht5
  go_simp
  refine hK.out _ _ (HP.out _ HT5t.out) (fun hHeld1 => ?_)
  clear hK K
  try simp only [Act.put, List.getElem_toArray, List.getElem_cons_zero, List.getElem_cons_succ, List.setIfInBounds_toArray, List.set_cons_zero, List.set_cons_succ]
  refine wpAnyH_ready (rs := [13]) (by kernel_rfl) (by simp) ?_
  refine AllReadyH.cons (o := ?o2) ?ho2 (fun K hK => ?_) AllReadyH.nil
  case ho2 => (first | (simp only [List.getElem?_toArray, List.getElem?_cons_succ, List.getElem?_cons_zero]; done) | (simp only [List.getElem?_toArray, List.getElem?_cons_succ, List.getElem?_cons_zero]; rfl))
  go_simp
  go_at_call 52
  refine (clone52 j.body AB cB w5 _ (HJT.out w5 HT5t.out).own.bs (by omega)).mono ?_
  rintro e w6 ⟨A3, c3, rfl, hs3, ht6⟩
  have HT6 := Kp.mk (HT5.out.strans ht6.out); have HT6t := Kp.mk (Tch.of_still (S := (· = X)) HT6.out); have HS26 := Kp.mk (hs2.out.still ht6.out); have HM6 := Kp.mk (HM0.out.still HT6.out)
  have qf := (fun o => (HT6.out.frozen (a := ⟨X, o, none⟩) HX0.out (fun f => f)).trans (HF0.out o)); clear ht6 hs2
  go_simp
  refine hK.out _ _ (HP.out _ HT6t.out) (fun hHeld2 => ?_)
  clear hK K
  try simp only [Act.put, List.getElem_toArray, List.getElem_cons_zero, List.getElem_cons_succ, List.setIfInBounds_toArray, List.set_cons_zero, List.set_cons_succ]
  refine wpAnyH_ready (rs := [14]) (by kernel_rfl) (by simp) ?_
  refine AllReadyH.cons (o := ?o3) ?ho3 (fun K hK => ?_) AllReadyH.nil
  case ho3 => (first | (simp only [List.getElem?_toArray, List.getElem?_cons_succ, List.getElem?_cons_zero]; done) | (simp only [List.getElem?_toArray, List.getElem?_cons_succ, List.getElem?_cons_zero]; rfl))
  refine step_storeM (by rfl) _ _ rfl HM6.out qf j.m AM cM rfl rfl ?_
  obtain ⟨hm7, ht7⟩ := HM6.out.store j.m (A' := AM) (c' := cM) ((HJT.out _ HT6t.out).slm) (fun x hx => by have := hx.2; have := HXX.out; omega)
  have HM7 := Kp.mk hm7; have HT7 := Kp.mk ht7; clear hm7 ht7
  refine hK.out _ _ (HP.out _ (HT6t.out.trans HT7.out (fun _ _ e => e))) (fun hHeld3 => ?_)
  clear hK K
  try simp only [Act.put, List.getElem_toArray, List.getElem_cons_zero, List.getElem_cons_succ, List.setIfInBounds_toArray, List.set_cons_zero, List.set_cons_succ]
  refine wpAnyH_ready (rs := [15]) (by kernel_rfl) (by simp) ?_
  refine AllReadyH.cons (o := ?o4) ?ho4 (fun K hK => ?_) AllReadyH.nil
  case ho4 => (first | (simp only [List.getElem?_toArray, List.getElem?_cons_succ, List.getElem?_cons_zero]; done) | (simp only [List.getElem?_toArray, List.getElem?_cons_succ, List.getElem?_cons_zero]; rfl))
  go_simp
  refine hK.out _ _ (HP.out _ (HT6t.out.trans HT7.out (fun _ _ e => e))) (fun hHeld4 => ?_)
  clear hK K
  try simp only [Act.put, List.getElem_toArray, List.getElem_cons_zero, List.getElem_cons_succ, List.setIfInBounds_toArray, List.set_cons_zero, List.set_cons_succ]
  refine wpAnyH_ready (rs := [16]) (by kernel_rfl) (by simp) ?_
  refine AllReadyH.cons (o := ?o5) ?ho5 (fun K hK => ?_) AllReadyH.nil
  case ho5 => (first | (simp only [List.getElem?_toArray, List.getElem?_cons_succ, List.getElem?_cons_zero]; done) | (simp only [List.getElem?_toArray, List.getElem?_cons_succ, List.getElem?_cons_zero]; rfl))
  go_simp
  refine hK.out _ _ (HP.out _ (HT6t.out.trans HT7.out (fun _ _ e => e))) (fun hHeld5 => ?_)
  clear hK K
  try simp only [Act.put, List.getElem_toArray, List.getElem_cons_zero, List.getElem_cons_succ, List.setIfInBounds_toArray, List.set_cons_zero, List.set_cons_succ]
  refine wpAnyH_done (by kernel_rfl) ?_ _
  generalize w6.setCells X 0 (j.m.vs AM cM) = w7 at *
  have q0 := HM7.out.id
  have q1 := HM7.out.nm
  have q2 := HM7.out.ty
  have q3 := HM7.out.ex
  have q4 := HM7.out.ky
  have q5 := HM7.out.tx
  have q6 := HM7.out.co
  have q7 := HM7.out.cn
  have q8 := HM7.out.tg
  have q9 := HM7.out.fl
  have q10 := HM7.out.bk
  have q11 := HM7.out.ar
  go_wp2_with fail
  refine bodyPost_ret (v := .tuple #[j.m.val AM cM, .slice A2 j.props.len c2, .slice A3 j.body.length c3]) (by simp [results, Try.results28, go_sem, q0, q1, q2, q3, q4, q5, q6, q7, q8, q9, q10, q11]) rfl ?_
  have hz5 := HT5.out.size
  have hx0 := HX0.out
  refine ⟨AM, cM, A2, c2, A3, c3, rfl, ⟨HM7.out.sl.weak (fun _ _ => trivial)⟩, ⟨(HS26.out.tch HT7.out (fun x hx e => ?_)).weak (fun _ _ => trivial)⟩, ⟨(hs3.out.1.tch HT7.out (fun x hx e => by omega)).weak (fun x hx => by have := HT0.out.size; have := HXX.out; omega), hs3.out.2⟩, ⟨(HT0.out.strans HT6.out).trans HT7.out (fun x hx e => by have := HXX.out; omega)⟩⟩
  rcases hx with hx | hx
  · have := hx.1.2; omega
  · simp only [World.size_drew] at hx; omega
end Go.Proofs.Ytaeainkfllfdfaa
