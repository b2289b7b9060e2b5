/- The walk of ValueFinds. -/
import Derived.Test.YtaeainkfllfdfaaB16
import Derived.Test.YtaeainkfllfdfaaA5
import Derived.Deep.RegionHeld3
import Derived.Outline
import Derived.Deep.DeepCutAuto
namespace Go.Proofs.Ytaeainkfllfdfaa
open Go.RowKit
set_option linter.unusedVariables false
set_option linter.unusedSimpArgs false
set_option maxRecDepth 100000

/-- A number's rest by a length: a place. -/
theorem remL (i : Int) (n : Nat) (h0 : 0 < n) (h1 : n ≤ 140737488351232) : ∃ k : Nat, wrap64 ((IntKind.u64.wrap i).tmod (n : Int)) = k ∧ k < n := by
  have h2 : 0 ≤ IntKind.u64.wrap i := by simp only [IntKind.wrap]; exact Int.emod_nonneg _ (by decide)
  rw [Int.tmod_eq_emod_of_nonneg h2]
  have h3 := Int.emod_nonneg (IntKind.u64.wrap i) (show (n : Int) ≠ 0 by omega)
  have h4 := Int.emod_lt_of_pos (IntKind.u64.wrap i) (show (0 : Int) < n by omega)
  generalize (IntKind.u64.wrap i) % (n : Int) = r at *
  exact ⟨r.toNat, by unfold wrap64; omega, by omega⟩

theorem step_appI {ops : Array Oper} {o : Oper} {a : Act} {K : Act → World → Prop} {Q : Exit → Act → World → Prop} (w : World) (hw : Region.wanted o (yielded ops a.tmps) = true) (s x : Operand)
    (hop : o.op = Op.call { callee := Callee.builtin Builtin.append, args := #[s, x], argTypes := #[22, 22] })
    (base : Nat) (S T : Nat → Prop) (A : Option Addr) (c n m : Nat) (l xs : L) (hs : a.eval s = .slice A n c) (hn : n = l.len) (ho : OwnI w base S A c l) (B : Option Addr) (cB : Nat) (vs : List Value)
    (hx : a.eval x = .slice B m cB) (hm : m = xs.len) (hB : xs.len = 0 ∨ ∃ b off, B = some ⟨b, off, none⟩ ∧ ∀ j u, vs[j]? = some u → w.cell? ⟨b, off + j, none⟩ = some u) (hv : Vals w T xs vs) (hT : ∀ b, T b → b < w.heap.size → S b ∧ ¬ blk A b)
    (hlen : l.len + xs.len ≤ 1099511627776) (hbase : base ≤ w.heap.size)
    (hK : ∀ A' c' w', OwnI w' base S A' c' (l.app xs) → Tch (blk A) w w' → (∀ b, blk A' b → blk A b ∨ w.heap.size ≤ b) → K (a.put o.dst (.slice A' (n + m) c')) w') :
    if Region.wanted o (yielded ops a.tmps) = true then Oper.wp Try.prog o a w K Q else K (a.put o.dst undef) w := by
  rw [if_pos hw]; exact wp_appI w s x hop base S T A c n m l xs hs hn ho B cB vs hx hm hB hv hT hlen hbase hK

/-- A row of no items that was just laid. -/
theorem OwnI.made {w : World} {base g : Nat} (S : Nat → Prop) (h : w.heap[g]? = some (.cells #[] 37)) (hb : base ≤ g) : OwnI w base S (some ⟨g, 0, none⟩) 0 .nil :=
  ⟨[], ⟨rfl, .inr ⟨g, 0, #[], rfl, hb, h, Nat.le_refl _, by decide, rfl, rfl⟩⟩, rfl⟩
theorem hn1 (W : World) (o : Obj) : (W.alloc o).drew.heap[W.heap.size]? = some o := heap_alloc_new W o
theorem hn3 (W : World) (o o' : Obj) : ((W.alloc o).alloc o').drew.heap[W.heap.size + 1]? = some o' := by
  have := heap_alloc_new (W.alloc o) o'
  rwa [World.size_alloc] at this
theorem hn2 (W : World) (o o' : Obj) : ((W.alloc o).alloc o').drew.heap[W.heap.size]? = some o :=
  (Below.heap_alloc (W.alloc o) o' W.heap.size (by simp)).trans (heap_alloc_new W o)
theorem app_still {W Wx w2 : World} {g : Nat} (h : Still W Wx) (hg : W.heap.size ≤ g) (ht : Tch (blk (some ⟨g, 0, none⟩)) Wx w2) : Still W w2 :=
  h.trans ht (fun b hb ⟨y, hy, e⟩ => by simp only [Option.some.injEq] at hy; subst hy; simp only at e; omega)
theorem app_still2 {W Wx w2 : World} {A : Option Addr} (h : Still W Wx) (hg : ∀ b, blk A b → W.heap.size ≤ b) (ht : Tch (blk A) Wx w2) : Still W w2 :=
  h.trans ht (fun b hb e => by have := hg b e; omega)
theorem cn1 {W w2 : World} {g j : Nat} {us : List Value} {e e0 : Obj} {u : Value} (he : e = .cells us.toArray 37) (h : Tch (blk (some ⟨g, 0, none⟩)) ((W.alloc e0).alloc e).drew w2) (hg : g = W.heap.size) (hj : us[j]? = some u) : w2.cell? ⟨W.heap.size + 1, j, none⟩ = some u :=
  h.cell (a := ⟨W.heap.size + 1, j, none⟩) (by subst he; exact cell_new' (W := W.alloc e0) (by simp) (by rw [← hj]; simp only [List.getElem?_toArray])) (fun ⟨y, hy, e⟩ => by simp only [Option.some.injEq] at hy; subst hy; simp only at e; omega)
theorem cn2 {W w2 : World} {g j : Nat} {us : List Value} {e e0 : Obj} {u : Value} (he : e = .cells us.toArray 37) (h : Tch (blk (some ⟨g, 0, none⟩)) ((W.alloc e).alloc e0).drew w2) (hg : g = W.heap.size + 1) (hj : us[j]? = some u) : w2.cell? ⟨W.heap.size, j, none⟩ = some u :=
  h.cell (a := ⟨W.heap.size, j, none⟩) (by subst he; exact ((Still.refl (W.alloc _)).alloc _).scell (cell_new' (W := W) rfl (by rw [← hj]; simp only [List.getElem?_toArray]))) (fun ⟨y, hy, e⟩ => by simp only [Option.some.injEq] at hy; subst hy; simp only at e; omega)
theorem Sl.parts {w : World} {S : Nat → Prop} {A : Option Addr} {l : L} (h : Sl w S A l) (hl : 0 < l.len) :
    ∃ b o us, A = some ⟨b, o, none⟩ ∧ S b ∧ Vals w S l us ∧ ∀ j u, us[j]? = some u → w.cell? ⟨b, o + j, none⟩ = some u := h.resolve_left (by omega)

set_option maxHeartbeats 8000000 in
theorem finds4 (l : L) (A : Option Addr) (c : Nat) (at_ : Int) (w : World) (hl : l.len ≤ 140737488351232) (hO : l.Ok) (hS : Sl w (fun b => b < w.heap.size) A l) :
    Calls Try.prog 4 #[.slice A l.len c, .int .i64 at_] w fun e w' => e = .returned (.bool true) ∧ Still w w' := by
  have HO := Kp.mk hO; clear hO
  have HS := Kp.mk hS; clear hS
  go_enter Try.func4, Try.ntmps4
  go_wp2_with fail
  refine (few16 l A c _ w hl HO.out HS.out).mono ?_
  rintro e w1 ⟨⟨fw, rfl⟩, ht1⟩
  have HT1 := Kp.mk ht1; clear ht1
  cases fw with
  | false =>
    go_wp2_with fail
    refine (told17 w1).mono ?_
    rintro e w2 ⟨rfl, ht2⟩
    have HT2 := Kp.mk (HT1.out.strans ht2); clear ht2
    go_wp2_with fail
    go_ret
    exact ⟨rfl, HT2.out⟩
  | true =>
  go_wp2_with fail
  refine (mayTable_ok l A c _ w1 hl HO.out (HS.out.still HT1.out)).mono ?_
  rintro e w2 ⟨rfl, ht2⟩
  have HT2 := Kp.mk (HT1.out.strans ht2); clear ht2 HT1
  cases hm : l.mayTab 1 with
  | false =>
    clear hm
    go_wp2_with fail
    refine (told17 w2).mono ?_
    rintro e w3 ⟨rfl, ht3⟩
    have HT3 := Kp.mk (HT2.out.strans ht3); clear ht3
    go_wp2_with fail
    go_ret
    exact ⟨rfl, HT3.out⟩
  | true =>
  have HM := Kp.mk hm; clear hm
  by_cases hz : l.len = 0
  · have hn := L.len_zero hz
    subst hn
    clear hz hl
    go_wp2_with fail
    refine (told17 w2).mono ?_
    rintro e w3 ⟨rfl, ht3⟩
    have HT3 := Kp.mk (HT2.out.strans ht3); clear ht3
    go_wp2_with fail
    refine (find_ok .nil ⟨#[120]⟩ A c _ w3 (by decide) (Sl.nil _ (fun _ => True) _)).mono ?_
    rintro e w4 ⟨A4, c4, rfl, hs4, ht4⟩
    have HT4 := Kp.mk (HT3.out.strans ht4); clear ht4
    have hf := field34_0 (L.nil.find ⟨#[120]⟩).k (L.nil.find ⟨#[120]⟩).n (L.nil.find ⟨#[120]⟩).s A4 (L.nil.find ⟨#[120]⟩).it.len c4 w4
    rw [show L.nil.find ⟨#[120]⟩ = It.zero from rfl] at *
    go_wp2_with fail
    go_ret
    exact ⟨rfl, HT4.out⟩
  · obtain ⟨k, hk, hkl⟩ := remL at_ l.len (by omega) hl
    have hzb : ((l.len : Int) == 0) = false := by simp; omega
    obtain ⟨b, o, rfl, hb, hat⟩ := (HS.out.still HT2.out).at (by omega)
    obtain ⟨A', ca', p0, p1, p2, p3, p4, hsa⟩ := hat k hkl
    have HSA := Kp.mk hsa; clear hsa hat
    go_wp2_with fail
    refine (find_ok l (l.get k).nm (some ⟨b, o, none⟩) c _ w2 hl (HS.out.still HT2.out)).mono ?_
    rintro e w3 ⟨A3, c3, rfl, hs3, ht3⟩
    rw [find_may HM.out hkl] at hs3 ⊢
    have HT3 := Kp.mk (HT2.out.strans ht3)
    have HS3 := Kp.mk hs3; clear hs3
    have HSA3 := Kp.mk (HSA.out.still ht3)
    have p0 := ht3.scell p0
    have p1 := ht3.scell p1
    have p2 := ht3.scell p2
    have p3 := ht3.scell p3
    have p4 := ht3.scell p4
    clear ht3 HSA HT2
    go_wp2_with fail
    have hl32 := ((mayTab_iff 1 l).1 HM.out).2.1
    have hW : Still w3 (w3.alloc (Obj.cells #[Value.int IntKind.i64 (l.get k).k, Value.int IntKind.i64 (l.get k).n, Value.string (l.get k).s, Value.slice A3 (l.get k).it.len c3] 34)) := (Still.refl _).alloc _
    have v0 : (w3.alloc (Obj.cells #[Value.int IntKind.i64 (l.get k).k, Value.int IntKind.i64 (l.get k).n, Value.string (l.get k).s, Value.slice A3 (l.get k).it.len c3] 34)).cell? ⟨w3.heap.size, 0, none⟩ = some (.int .i64 (l.get k).k) := by go_simp
    have v1 : (w3.alloc (Obj.cells #[Value.int IntKind.i64 (l.get k).k, Value.int IntKind.i64 (l.get k).n, Value.string (l.get k).s, Value.slice A3 (l.get k).it.len c3] 34)).cell? ⟨w3.heap.size, 1, none⟩ = some (.int .i64 (l.get k).n) := by go_simp
    have v2 : (w3.alloc (Obj.cells #[Value.int IntKind.i64 (l.get k).k, Value.int IntKind.i64 (l.get k).n, Value.string (l.get k).s, Value.slice A3 (l.get k).it.len c3] 34)).cell? ⟨w3.heap.size, 2, none⟩ = some (.string (l.get k).s) := by go_simp
    have v3 : (w3.alloc (Obj.cells #[Value.int IntKind.i64 (l.get k).k, Value.int IntKind.i64 (l.get k).n, Value.string (l.get k).s, Value.slice A3 (l.get k).it.len c3] 34)).cell? ⟨w3.heap.size, 3, none⟩ = some (.slice A3 (l.get k).it.len c3) := by go_simp
    generalize w3.alloc (Obj.cells #[Value.int IntKind.i64 (l.get k).k, Value.int IntKind.i64 (l.get k).n, Value.string (l.get k).s, Value.slice A3 (l.get k).it.len c3] 34) = W at *
    have HT := Kp.mk (HT3.out.strans hW)
    have HS4 := Kp.mk (HS3.out.still hW)
    have HSA4 := Kp.mk (HSA3.out.still hW)
    have p0 := hW.scell p0
    have p1 := hW.scell p1
    have p2 := hW.scell p2
    have p3 := hW.scell p3
    have p4 := hW.scell p4
    generalize w3.heap.size = vb at *
    clear hW HT3 HS3 HSA3
    obtain ⟨b', o', us, hA, _, hvs, hcs⟩ := HS.out.parts (by omega)
    obtain ⟨rfl, rfl⟩ : b = b' ∧ o = o' := by simpa using hA
    have HP := Kp.mk (fun W' (h : Still W W') => And.intro (h.scell p0) (And.intro (h.scell p1) (And.intro (h.scell p2) (And.intro (h.scell p3) (h.scell p4)))))
    have HV := Kp.mk (fun W' (h : Still W W') => hvs.still (HT.out.strans h))
    have HC := Kp.mk (fun W' (h : Still W W') j u (hj : us[j]? = some u) => (HT.out.strans h).scell (hcs j u hj))
    have HX := Kp.mk (fun W' (h : Still W W') => (show Vals W' (fun x => x < w.heap.size) (L.one (l.get k)) [.string (l.get k).nm, .int .i64 (l.get k).k, .int .i64 (l.get k).n, .string (l.get k).s, .slice A' (l.get k).it.len ca'] from ⟨A', ca', [], rfl, HSA4.out.still h, rfl⟩))
    clear hA hvs hcs
    have hwW := HT.out.size
    go_cut [7] (fun v wc => ∃ A7 c7, v = .slice A7 (l.app (L.one (l.get k))).len c7 ∧ Kp (Sl wc (fun _ => True) A7 (l.app (L.one (l.get k)))) ∧ Kp (Still W wc))
    case first =>
      go_region_held3 (fun W => W.cell? ⟨b, o + k * 5, none⟩ = some (.string (l.get k).nm) ∧ W.cell? ⟨b, o + k * 5 + 1, none⟩ = some (.int .i64 (l.get k).k) ∧ W.cell? ⟨b, o + k * 5 + 2, none⟩ = some (.int .i64 (l.get k).n) ∧ W.cell? ⟨b, o + k * 5 + 3, none⟩ = some (.string (l.get k).s) ∧ W.cell? ⟨b, o + k * 5 + 4, none⟩ = some (.slice A' (l.get k).it.len ca'))
        ((refine HP.out _ ?_; (repeat' (first | exact Tch.refl _ _ | exact HT3.out | exact HT2.out | refine Tch.alloc ?_ _ | refine Tch.drew ?_))))
        (first
         | (refine step_appI _ (by rfl) _ _ rfl W.heap.size (fun x => x < W.heap.size) (fun x => x < w.heap.size) _ 0 0 _ .nil l (by rfl) rfl ?_ (some ⟨b, o, none⟩) c us (by rfl) rfl (.inr ⟨b, o, rfl, HC.out _ ?_⟩) (HV.out _ ?_) ?_ ?_ ?_ ?_; (first | exact OwnI.made _ (hn1 _ _) (by omega) | exact OwnI.made _ (hn2 _ _ _) (by omega) | exact OwnI.made _ (hn3 _ _ _) (by omega)); (repeat' (first | exact Tch.refl _ _ | refine Tch.alloc ?_ _ | refine Tch.drew ?_)); (repeat' (first | exact Tch.refl _ _ | refine Tch.alloc ?_ _ | refine Tch.drew ?_)); (intro x hx _; refine ⟨by omega, fun ⟨y, hy, e⟩ => ?_⟩; simp only [Option.some.injEq] at hy; subst hy; (try dsimp only at e); omega); (simp only [L.len]; omega); ((try simp only [World.size_alloc, World.size_drew]); omega); intro A2 c2 w2 ho2 ht2 hat2; have HO2 := Kp.mk ho2; have HH2 := Kp.mk ht2; have hst : Still W w2 := app_still (by (repeat' (first | exact Tch.refl _ _ | refine Tch.alloc ?_ _ | refine Tch.drew ?_))) (by omega) ht2; have HT2 := Kp.mk hst; clear ho2 ht2 hat2 hst)
         | (refine step_appI _ (by rfl) _ _ rfl W.heap.size (fun x => x < W.heap.size) (fun x => x < w.heap.size) A2 c2 _ 1 (L.nil.app l) (L.one (l.get k)) (by rfl) ?_ (HO2.out.still ?_) _ 1 [.string (l.get k).nm, .int .i64 (l.get k).k, .int .i64 (l.get k).n, .string (l.get k).s, .slice A' (l.get k).it.len ca'] (by rfl) rfl (.inr ⟨_, 0, rfl, ?_⟩) (HX.out _ ?_) ?_ ?_ ?_ ?_; (first | rfl | exact Nat.zero_add _); (repeat' (first | exact Tch.refl _ _ | refine Tch.alloc ?_ _ | refine Tch.drew ?_)); (intro j u hj; rw [Nat.zero_add]; first | exact cell_new' (by simp) (by rw [← hj]; simp only [List.getElem?_toArray]) | exact cn1 rfl HH2.out rfl hj | exact cn2 rfl HH2.out rfl hj); (repeat' (first | exact Tch.refl _ _ | exact HT2.out | refine Tch.alloc ?_ _ | refine Tch.drew ?_)); (intro x hx _; refine ⟨by omega, fun h => ?_⟩; have := (HO2.out.base h).1; omega); (simp only [L.len, L.app, L.len_one]; omega); (have := HT2.out.size; (try simp only [World.size_alloc, World.size_drew]); omega); intro A3 c3 w3 ho3 ht3 hat3; have HO3 := Kp.mk ho3; have HT3 := Kp.mk (app_still2 (by (repeat' (first | exact Tch.refl _ _ | exact HT2.out | refine Tch.alloc ?_ _ | refine Tch.drew ?_))) (fun b hb => (HO2.out.base hb).1) ht3); clear ho3 ht3 hat3))
      all_goals (go_wp2_with fail; go_meet)
      all_goals exact ⟨A3, c3, by rw [L.len_app, L.len_one], ⟨HO3.out.sl (fun _ _ => trivial) (fun _ _ => trivial)⟩, HT3⟩
    case rest =>
      obtain ⟨A7, c7, rfl, HS7, HT7⟩ := hcut
      have hiO := HO.out.get k hkl
      have hone : (L.one ⟨⟨#[118]⟩, (l.get k).k, (l.get k).n, (l.get k).s, (l.get k).it⟩).Ok := ⟨⟨(by decide : (ByteArray.mk #[118]).size ≤ 140737488351232), hiO.1.2⟩, hiO.2, trivial⟩
      have HONE := Kp.mk hone; clear hone hiO
      have HQ := Kp.mk (fun W' (h : Still wc W') => (show W'.cell? ⟨vb, 0, none⟩ = some (.int .i64 (l.get k).k) ∧ W'.cell? ⟨vb, 1, none⟩ = some (.int .i64 (l.get k).n) ∧ W'.cell? ⟨vb, 2, none⟩ = some (.string (l.get k).s) ∧ W'.cell? ⟨vb, 3, none⟩ = some (.slice A3 (l.get k).it.len c3) ∧
        W'.cell? ⟨b, o + k * 5 + 1, none⟩ = some (.int .i64 (l.get k).k) ∧ W'.cell? ⟨b, o + k * 5 + 2, none⟩ = some (.int .i64 (l.get k).n) ∧ W'.cell? ⟨b, o + k * 5 + 3, none⟩ = some (.string (l.get k).s) ∧ W'.cell? ⟨b, o + k * 5 + 4, none⟩ = some (.slice A' (l.get k).it.len ca') from
          have h' := HT7.out.strans h
          ⟨h'.scell v0, h'.scell v1, h'.scell v2, h'.scell v3, h'.scell p1, h'.scell p2, h'.scell p3, h'.scell p4⟩))
      have HVA := Kp.mk (fun W' (h : Still wc W') => (show Vals W' (fun _ => True) (L.one ⟨⟨#[118]⟩, (l.get k).k, (l.get k).n, (l.get k).s, (l.get k).it⟩) [.string ⟨#[118]⟩, .int .i64 (l.get k).k, .int .i64 (l.get k).n, .string (l.get k).s, .slice A3 (l.get k).it.len c3] from ⟨A3, c3, [], rfl, (HS4.out.still (HT7.out.strans h)).weak (fun _ _ => trivial), rfl⟩))
      have HVB := Kp.mk (fun W' (h : Still wc W') => (show Vals W' (fun _ => True) (L.one ⟨⟨#[118]⟩, (l.get k).k, (l.get k).n, (l.get k).s, (l.get k).it⟩) [.string ⟨#[118]⟩, .int .i64 (l.get k).k, .int .i64 (l.get k).n, .string (l.get k).s, .slice A' (l.get k).it.len ca'] from ⟨A', ca', [], rfl, (HSA4.out.still (HT7.out.strans h)).weak (fun _ _ => trivial), rfl⟩))
      have q0 := HQ.out wc (Tch.refl _ _)
      obtain ⟨q0, q1, q2, q3, q4, q5, q6, q7⟩ := q0
      have hl33 : (l.app (L.one (l.get k))).len = l.len + 1 := by rw [L.len_app, L.len_one]
      have HOT := Kp.mk (show (l.app (L.one (l.get k))).Ok from HO.out.app ⟨(HO.out.get k hkl).1, (HO.out.get k hkl).2, trivial⟩)
      have HTW := Kp.mk (twice_may (d := 1) hkl)
      have HLL := Kp.mk hl33; clear hl33
      clear v0 v1 v2 v3 p0 p1 p2 p3 p4 HP HV HC HX
      go_wp2_with fail
      go_region_held3 (fun W' => W'.cell? ⟨vb, 0, none⟩ = some (.int .i64 (l.get k).k) ∧ W'.cell? ⟨vb, 1, none⟩ = some (.int .i64 (l.get k).n) ∧ W'.cell? ⟨vb, 2, none⟩ = some (.string (l.get k).s) ∧ W'.cell? ⟨vb, 3, none⟩ = some (.slice A3 (l.get k).it.len c3) ∧ W'.cell? ⟨b, o + k * 5 + 1, none⟩ = some (.int .i64 (l.get k).k) ∧ W'.cell? ⟨b, o + k * 5 + 2, none⟩ = some (.int .i64 (l.get k).n) ∧ W'.cell? ⟨b, o + k * 5 + 3, none⟩ = some (.string (l.get k).s) ∧ W'.cell? ⟨b, o + k * 5 + 4, none⟩ = some (.slice A' (l.get k).it.len ca'))
        ((refine HQ.out _ ?_; (repeat' (first | exact Tch.refl _ _ | exact HT11.out | exact HT10.out | exact HT9.out | refine Tch.alloc ?_ _ | refine Tch.drew ?_))))
        (first
         | (go_at_call 17; (refine (told17 _).mono ?_); rintro e w9 ⟨rfl, ht9⟩; have HT9 := Kp.mk (show Still wc w9 from Tch.strans (by (repeat' (first | exact Tch.refl _ _ | refine Tch.drew ?_))) ht9); clear ht9)
         | (go_at_call 20; (refine (same_ok (L.one ⟨⟨#[118]⟩, (l.get k).k, (l.get k).n, (l.get k).s, (l.get k).it⟩) (L.one ⟨⟨#[118]⟩, (l.get k).k, (l.get k).n, (l.get k).s, (l.get k).it⟩) _ _ _ _ (fun _ => True) _ (by rw [L.len_one]; decide) (by rw [L.len_one]; decide) HONE.out HONE.out ?_ ?_).mono ?_); (first | (refine (Sl.new rfl rfl (HVA.out _ ?_) trivial).still ((Still.refl _).alloc _); exact HT9.out.alloc _) | (refine Sl.new (by simp) rfl (HVA.out _ ?_) trivial; exact (HT9.out.alloc _).alloc _)); (first | (refine Sl.new (by simp) rfl (HVB.out _ ?_) trivial; exact (HT9.out.alloc _).alloc _) | (refine (Sl.new rfl rfl (HVB.out _ ?_) trivial).still ((Still.refl _).alloc _); exact HT9.out.alloc _)); rintro e w10 ⟨rfl, ht10⟩; have HT10 := Kp.mk (show Still wc w10 from Tch.strans (by exact (HT9.out.alloc _).alloc _) ht10); clear ht10; rw [decide_eq_true rfl])
         | (go_at_call 21; (refine (mayTable_ok (l.app (L.one (l.get k))) A7 c7 (fun _ => True) _ (by have := HLL.out; omega) HOT.out (HS7.out.still HT10.out)).mono ?_); rintro e w11 ⟨rfl, ht11⟩; have HT11 := Kp.mk (HT10.out.strans ht11); clear ht11; rw [HTW.out]))
      all_goals go_wp2_with fail
      all_goals go_ret
      all_goals exact ⟨rfl, HT.out.strans (HT7.out.strans HT11.out)⟩
end Go.Proofs.Ytaeainkfllfdfaa
