/- Contracts of the functions that the statement reaches, each walked once, and the plain laws over them, for every input that their premises name (D10, D11). -/
import Derived.Test.YtaeainkfllfdfaaQ12
/- D10: What the document says of a message's frames: carrefourlaw6.told. -/
namespace Go.Proofs.Ytaeainkfllfdfaa
open Go.RowKit
set_option linter.unusedVariables false
set_option linter.unusedSimpArgs false
set_option maxRecDepth 100000

def mq : M := { M.zero with id := 6040, ky := ⟨#[113]⟩ }
def bq : List UInt8 := [48, 49, 50, 51, 52, 53, 54, 55, 56, 57]
def fq : List Fr := cutF 3 mq .nil bq 8
def f0q : Fr := ⟨1, 3, [0, 60, 0, 40, 0, 1, 113, 0]⟩
def f1q : Fr := ⟨2, 3, [0, 0, 0, 0, 0, 0, 0, 10, 0, 0, 0, 0]⟩
def f2q : Fr := ⟨3, 3, [48, 49, 50, 51, 52, 53, 54, 55]⟩
def f3q : Fr := ⟨3, 3, [56, 57]⟩
def j1q : J := ⟨3, 2, 0, false, mq, .nil, []⟩
def j2q : J := ⟨3, 3, 10, false, mq, .nil, []⟩
def j3q : J := ⟨3, 3, 2, false, mq, .nil, [48, 49, 50, 51, 52, 53, 54, 55]⟩
def j4q : J := ⟨3, 1, 0, true, mq, .nil, bq⟩
theorem mq_ok : mq.Ok := by constructor <;> first | decide | trivial
theorem mq_may : mq.mayB = true := by decide +kernel
theorem cut1q : cutE 3 mq .nil 10 8 = 0 := by decide +kernel
def lq : List Fr := [f0q, f1q, f2q, f3q]
theorem cut1f : cutF 3 mq .nil bq 8 = lq := by decide +kernel
theorem cut2q : cutE 0 mq .nil 0 8 = 1 := by decide +kernel
theorem cut2f : cutF 0 mq .nil [] 8 = [] := by decide +kernel
theorem add0q : (J.new 3).add f0q = (false, 0, j1q) := by decide +kernel
theorem add1q : j1q.add f1q = (false, 0, j2q) := by decide +kernel
theorem add2q : j2q.add f2q = (false, 0, j3q) := by decide +kernel
theorem add3q : j3q.add f3q = (true, 0, j4q) := by decide +kernel
theorem add4q : j4q.add f3q = (false, 501, J.new 3) := by decide +kernel
theorem Bs.newM {W : World} {S : Nat → Prop} {b : Nat} {bs : List UInt8} {fr : Nat × Nat} (hb : W.heap.size = b) (hS : S b) : Bs (W.alloc (.cells (nb bs).toArray 5 fr)) S (some ⟨b, 0, none⟩) bs := by
  refine .inr ⟨b, 0, rfl, hS, fun j hj => ?_⟩
  rw [Nat.zero_add]
  exact cell_new' hb (by simp [nb, hj])
theorem oq (w : World) : Bs ((w.alloc (mq.obj none 0)).alloc (.cells (nb bq).toArray 5 (10, 11))) (fun _ => True) (some ⟨w.heap.size + 1, 0, none⟩) bq := Bs.newM (by simp) trivial

theorem Fs.old {w : World} {S : Nat → Prop} {A : Option Addr} {l : List Fr} (h : Fs w S A l) : Fs w (fun b => S b ∧ b < w.heap.size) A l := by
  rcases h with h | ⟨b, o, us, rfl, hb, hx, hc⟩
  · exact .inl h
  · by_cases hl : l = []
    · exact .inl hl
    · have hlen := hx.length
      have hp : 0 < us.length := by have := List.length_pos_iff.2 hl; omega
      exact .inr ⟨b, o, us, rfl, ⟨hb, World.block_lt_of_cell? w ⟨b, o + 0, none⟩ (hc 0 us[0] (List.getElem?_eq_getElem hp))⟩, hx.old, hc⟩
def jq : Nat → J | 0 => J.new 3 | 1 => j1q | 2 => j2q | _ => j3q
theorem jq_ok (k : Nat) : 0 ≤ (jq k).left ∧ (jq k).left ≤ 65536 ∧ (jq k).body.length ≤ 1000000000 := by
  match k with
  | 0 => decide
  | 1 => decide
  | 2 => decide
  | k + 3 => exact (by decide : 0 ≤ j3q.left ∧ j3q.left ≤ 65536 ∧ j3q.body.length ≤ 1000000000)
theorem lq_ok (k : Nat) (h : k < lq.length) : lq[k].d.length ≤ 12 := by
  match k, h with
  | 0, _ => exact (show f0q.d.length ≤ 12 from by decide)
  | 1, _ => exact (show f1q.d.length ≤ 12 from by decide)
  | 2, _ => exact (show f2q.d.length ≤ 12 from by decide)
  | 3, _ => exact (show f3q.d.length ≤ 12 from by decide)
theorem addq (k : Nat) (h : k < 3) : (jq k).add (lq[k]'(Nat.lt_trans h (by decide))) = (false, 0, jq (k + 1)) := by
  match k, h with
  | 0, _ => exact add0q
  | 1, _ => exact add1q
  | 2, _ => exact add2q
theorem fs_frame {w : World} {S : Nat → Prop} {A : Option Addr} {l : List Fr} (h : Fs w S A l) (hl : 0 < l.length) : ∃ b o, A = some ⟨b, o, none⟩ ∧ ∀ W, Still w W → ∀ i (hi : i < l.length), ∃ A' c, W.cell? ⟨b, o + i * 3, none⟩ = some (.int .i64 l[i].k) ∧ W.cell? ⟨b, o + i * 3 + 1, none⟩ = some (.int .i64 l[i].ch) ∧
      W.cell? ⟨b, o + i * 3 + 2, none⟩ = some (.slice A' l[i].d.length c) ∧ Kp (Bs W S A' l[i].d ∧ l[i].d.length ≤ c ∧ c ≤ 9223372036854775807) := by
  obtain ⟨b, o, rfl, _, hat⟩ := h.at hl
  refine ⟨b, o, rfl, fun W hW i hi => ?_⟩
  obtain ⟨A', c, h0, h1, h2, hb, h3, h4⟩ := hat i hi
  exact ⟨A', c, hW.scell h0, hW.scell h1, hW.scell h2, ⟨hb.still hW, h3, h4⟩⟩

set_option maxHeartbeats 2000000 in
theorem told24 (w : World) : Calls Try.prog 24 #[] w fun e w' => e = .returned (.bool true) ∧ Still w w' := by
  have hcc := conv_const w
  have HB0 := Kp.mk (oq w)
  go_enter Try.func24, Try.ntmps24
  go_wp2_with fail
  refine (cut25 3 8 mq .nil bq _ (fun _ => True) (fun _ => True) (fun _ => True) none none _ 0 0 10 (by decide) (by decide) (by decide) (by decide) mq_ok trivial (by decide) (by decide) (by decide) (Sl.nil _ _ _) (Sl.nil _ _ _) HB0.out).mono ?_
  rintro e w1 ⟨A1, c1, rfl, hf1, ht1⟩
  rw [cut1f] at hf1 ⊢
  rw [show cutE 3 mq L.nil bq.length 8 = 0 from cut1q]
  have HM1 := Kp.mk ((MAt.new (w := w) (S := fun _ => False) (A := none) (c := 0) mq (Sl.nil _ _ _)).still (((Still.refl _).alloc (.cells (nb bq).toArray 5 (10, 11))).strans ht1))
  have HF1 := Kp.mk hf1.old
  have HT1 := Kp.mk ((((Still.refl w).alloc (mq.obj none 0)).alloc (.cells (nb bq).toArray 5 (10, 11))).strans ht1)
  have hll : lq.length = 4 := rfl
  rw [hll]
  clear hf1 ht1 hcc HB0 hll
  have q0 := HM1.out.id
  have q1 := HM1.out.nm
  have q2 := HM1.out.ty
  have q3 := HM1.out.ex
  have q4 := HM1.out.ky
  have q5 := HM1.out.tx
  have q6 := HM1.out.co
  have q7 := HM1.out.cn
  have q8 := HM1.out.tg
  have q9 := HM1.out.fl
  have q10 := HM1.out.bk
  have q11 := HM1.out.ar
  go_wp2_with fail
  refine (cut25 0 8 mq .nil [] _ (fun _ => True) (fun _ => True) (fun _ => True) none none none 0 0 0 (by decide) (by decide) (by decide) (by decide) mq_ok trivial (by decide) (by decide) (by decide) (Sl.nil _ _ _) (Sl.nil _ _ _) (Bs.nil _ _ _)).mono ?_
  rintro e w2 ⟨A2, c2, rfl, hf2, ht2⟩
  rw [cut2f, show cutE 0 mq L.nil ([] : List UInt8).length 8 = 1 from cut2q]
  have HT2 := Kp.mk (HT1.out.strans ht2)
  obtain ⟨bf, of_, rfl, hat⟩ := fs_frame (HF1.out.still ht2) (by decide)
  have HAT := Kp.mk hat
  have HS2 := Kp.mk ht2.size
  clear hf2 ht2 hat HM1 HF1 HT1 q0 q1 q2 q3 q4 q5 q6 q7 q8 q9 q10 q11
  go_wp2_with fail
  refine (new26 3 w2).mono ?_
  rintro e w3 ⟨rfl, rfl⟩
  have hz3 := JZ.new 3 w2
  have ht3 : Still w2 (w2.alloc ((J.new 3).obj none 0 none 0 none 0)) := (Still.refl _).alloc _
  have HZ3 := Kp.mk hz3; have HT3 := Kp.mk ht3; clear hz3 ht3
  generalize w2.alloc ((J.new 3).obj none 0 none 0 none 0) = w3 at *
  generalize hbj : w2.heap.size = bj at *
  have HBJ := Kp.mk hbj; clear hbj
  go_wp2_with fail
  go_loopw [7] (fun i wr => ∃ (k : Nat) (Z : Nat → Prop), k ≤ 3 ∧ i = .int .i64 k ∧ Kp (JZ wr Z bj (jq k)) ∧ Kp (∀ x, Z x → bj ≤ x) ∧ Kp (Still w2 wr)) (fun i _ => 3 - (intOf i).toNat)
  case atStart => exact ⟨0, _, by omega, rfl, HZ3, ⟨fun x hx => by omega⟩, HT3⟩
  case round =>
    obtain ⟨k, Z, hk, rfl, HZ, HZB, HT⟩ := hrel
    by_cases hlt : k < 3
    · obtain ⟨A', c', p0, p1, p2, HB⟩ := HAT.out wr HT.out k (Nat.lt_trans hlt (by decide))
      have hkb : (k : Int) < 4 := by omega
      have HNF := Kp.mk (fun x (hx : (fun b => (fun b => ((w.alloc (mq.obj none 0)).alloc (.cells (nb bq).toArray 5 (10, 11))).heap.size ≤ b) b ∧ b < w1.heap.size) x) => show ¬ Z x from fun hz => by have := hx.2; have := HZB.out x hz; have := HS2.out; have := HBJ.out; omega)
      go_wp2_with fail
      refine (add27 (jq k) (lq[k]'(Nat.lt_trans hlt (by decide))) bj Z _ A' c' wr HZ.out (jq_ok k).1 (jq_ok k).2.1 (jq_ok k).2.2 (by have := lq_ok k (Nat.lt_trans hlt (by decide)); omega) HB.out.2.1 HB.out.2.2 HB.out.1 HNF.out).mono ?_
      rintro e w4 ⟨rfl, ⟨Z', hz', hsub⟩, ht4⟩
      rw [addq k hlt] at hz' ⊢
      have HZ' := Kp.mk hz'
      have HZB' := Kp.mk (show ∀ x, Z' x → bj ≤ x from fun x hx => (hsub x hx).elim (HZB.out x) (fun h => by have := HT.out.size; have := HBJ.out; omega))
      have HT4 := Kp.mk (show Still w2 w4 from HT.out.trans ht4 (fun x hx hz => by have := HZB.out x hz; have := HBJ.out; omega))
      clear hz' hsub ht4 p0 p1 p2
      go_wp2_with fail
      go_roundw
      case rel => exact ⟨k + 1, Z', by omega, by go_num, HZ', HZB', HT4⟩
      case measure => go_light; simp only [intOf]; omega
    · have hk3 : k = 3 := by omega
      subst hk3
      clear hlt hk
      rw [show jq 3 = j3q from rfl] at HZ
      obtain ⟨A3, c3, p0, p1, p2, HB3⟩ := HAT.out wr HT.out 3 (by decide)
      have HNF := Kp.mk (fun x (hx : (fun b => (fun b => ((w.alloc (mq.obj none 0)).alloc (.cells (nb bq).toArray 5 (10, 11))).heap.size ≤ b) b ∧ b < w1.heap.size) x) => show ¬ Z x from fun hz => by have := hx.2; have := HZB.out x hz; have := HS2.out; have := HBJ.out; omega)
      go_wp2_with fail
      refine (add27 j3q lq[3] bj Z _ A3 c3 wr HZ.out (jq_ok 3).1 (jq_ok 3).2.1 (jq_ok 3).2.2 (by have := lq_ok 3 (by decide); omega) HB3.out.2.1 HB3.out.2.2 HB3.out.1 HNF.out).mono ?_
      rintro e w4 ⟨rfl, ⟨Z4, hz4, hsub⟩, ht4⟩
      rw [show j3q.add lq[3] = (true, 0, j4q) from add3q] at hz4 ⊢
      have HZ4 := Kp.mk hz4
      have HZB4 := Kp.mk (show ∀ x, Z4 x → bj ≤ x from fun x hx => (hsub x hx).elim (HZB.out x) (fun h => by have := HT.out.size; have := HBJ.out; omega))
      have HT4 := Kp.mk (show Still w2 w4 from HT.out.trans ht4 (fun x hx hz => by have := HZB.out x hz; have := HBJ.out; omega))
      clear hz4 hsub ht4 p0 p1 p2 HZ HZB HNF HB3
      go_wp2_with fail
      refine (done28 j4q bj Z4 w4 HZ4.out rfl (by decide) (by decide)).mono ?_
      rintro e w5 ⟨AM, cM, AP, cP, AB, cB, rfl, HSM, HSP, HSB, ht5⟩
      rw [show j4q.body.length = 10 from rfl]
      have HT5 := Kp.mk (HT4.out.strans ht5.out)
      have HZ5 := Kp.mk (HZ4.out.still ht5.out)
      have HL4 := Kp.mk HZ4.out.lt
      have HS5 := Kp.mk ht5.out.size
      clear ht5 HSM HSP HZ4
      obtain ⟨A6, c6, p0, p1, p2, HB6⟩ := HAT.out w5 HT5.out 3 (by decide)
      have r0 := fun o => ((Still.refl w5).alloc o).scell p0
      have r1 := fun o => ((Still.refl w5).alloc o).scell p1
      have r2 := fun o => ((Still.refl w5).alloc o).scell p2
      clear p0 p1 p2
      go_wp2_with fail
      have hk4 : (w5.alloc (j4q.m.obj AM cM)).cell? ⟨w5.heap.size, 4, none⟩ = some (.string j4q.m.ky) := by go_simp
      have ht6 : Still w5 (w5.alloc (j4q.m.obj AM cM)) := (Still.refl _).alloc _
      have hb6 := HB6.out.1.still ht6
      have hx6 : w5.heap.size < (w5.alloc (j4q.m.obj AM cM)).heap.size := by simp
      clear r0 r1 r2
      generalize w5.alloc (j4q.m.obj AM cM) = W6 at *
      have HNF := Kp.mk (fun x (hx : (fun b => (fun b => ((w.alloc (mq.obj none 0)).alloc (.cells (nb bq).toArray 5 (10, 11))).heap.size ≤ b) b ∧ b < w1.heap.size) x) => show ¬ Z4 x from fun hz => by have := hx.2; have := HZB4.out x hz; have := HS2.out; have := HBJ.out; omega)
      refine (add27 j4q lq[3] bj Z4 _ A6 c6 W6 (HZ5.out.still ht6) (by decide) (by decide) (by decide) (by have := lq_ok 3 (by decide); omega) HB6.out.2.1 HB6.out.2.2 hb6 HNF.out).mono ?_
      rintro e w7 ⟨rfl, ⟨Z7, hz7, hsub⟩, ht7⟩
      rw [show j4q.add lq[3] = (false, 501, J.new 3) from add4q] at hz7 ⊢
      have HT7 := Kp.mk (show Still w2 w7 from (HT5.out.strans ht6).trans ht7 (fun x hx hz => by have := HZB4.out x hz; have := HBJ.out; omega))
      have z4 := ht7.cell hk4 (fun hz => by have := HL4.out w5.heap.size hz; have := HS5.out; omega)
      have hbb := (HSB.out.1.still ht6).tch ht7 (fun x hx hz => by have := HL4.out _ hz; omega)
      have HBB := Kp.mk hbb
      obtain ⟨A8, c8, p0, p1, p2, HB8⟩ := HAT.out w7 HT7.out 0 (by decide)
      simp only [Nat.zero_mul, Nat.add_zero] at p0 p1 p2
      clear hz7 hsub ht7 hk4 ht6 hb6 hx6 HNF hbb HSB HB6
      go_wp2_with fail
      refine (add27_nil lq[0] A8 c8 w7).mono ?_
      rintro e w8 ⟨rfl, ht8⟩
      have HT8 := Kp.mk (HT7.out.strans ht8)
      have y4 := ht8.scell z4
      have hcv := run_conv (c := cB) (HBB.out.still ht8) j4q.body.length rfl
      clear ht8 z4 p0 p1 p2 HB8 HBB
      rw [show j4q.m.ky = ⟨#[113]⟩ from rfl] at y4
      rw [show j4q.body = bq from rfl] at hcv
      rw [show bq.length = 10 from rfl] at hcv
      go_wp2_with fail
      go_ret
      exact ⟨rfl, HT2.out.strans HT8.out⟩
end Go.Proofs.Ytaeainkfllfdfaa
/- D11: The walk of ContentSizes. -/
namespace Go.Proofs.Ytaeainkfllfdfaa
open Go.RowKit
set_option linter.unusedVariables false
set_option linter.unusedSimpArgs false
set_option maxRecDepth 100000

def mk : M := { M.zero with id := 6040, ky := ⟨#[107]⟩ }
theorem mk_ok : mk.Ok := by constructor <;> first | decide | trivial
theorem mk_may : mk.mayB = true := by decide +kernel
theorem mk_put : mk.putE = 0 ∧ mk.putB.length = 8 := by decide +kernel
theorem nil_put : L.nil.putE = 0 ∧ L.nil.putB.length = 4 := by decide +kernel
def zb (k : Nat) : List UInt8 := List.replicate k 0
theorem zb_len (k : Nat) : (zb k).length = k := List.length_replicate
theorem size_e (k N : Nat) (h1 : 8 ≤ N) (h2 : N ≤ 207) (hk : k ≤ 2000) : cutE 1 mk .nil k N = 0 := by
  have hm : cutMay 1 mk k N = true := by
    unfold cutMay
    rw [mk_may, show bearsB mk.id = true from rfl]
    simp; omega
  unfold cutE
  rw [hm, mk_put.1, nil_put.1, mk_put.2, nil_put.2]
  rfl
theorem size_f (k N : Nat) (h1 : 8 ≤ N) (h2 : N ≤ 207) (hk : k ≤ 2000) : (cutF 1 mk .nil (zb k) N).length = 2 + (k + N - 1) / N ∧ ∀ i (h : i < (cutF 1 mk .nil (zb k) N).length),
    (cutF 1 mk .nil (zb k) N)[i].k = (if i = 0 then 1 else if i = 1 then 2 else 3) ∧ (2 ≤ i → (cutF 1 mk .nil (zb k) N)[i].d.length = min N (k - (i - 2) * N)) := by
  have e : cutF 1 mk .nil (zb k) N = ⟨1, 1, mk.putB⟩ :: ⟨2, 1, be (zb k).length 8 ++ L.nil.putB⟩ :: bodyF 1 (zb k) N ((k + N - 1) / N) := by
    unfold cutF
    rw [zb_len, size_e k N h1 h2 hk, if_pos rfl]
    simp only [nCh, Int.toNat_natCast]
  rw [e]
  refine ⟨by simp [bodyF]; omega, fun i h => ?_⟩
  match i, h with
  | 0, _ => exact ⟨rfl, fun h => by omega⟩
  | 1, _ => exact ⟨rfl, fun h => by omega⟩
  | i + 2, h =>
    refine ⟨by simp [bodyF], fun _ => ?_⟩
    simp only [List.getElem_cons_succ, bodyF, List.getElem_map, List.getElem_range, chunk_len, Int.toNat_natCast, zb_len, Nat.add_sub_cancel]

theorem cut25n (ch most : Int) (m : M) (p : L) (body : List UInt8) (nB : Nat) (hn : nB = body.length) (w : World) (SM SP SB : Nat → Prop) (AM AP AB : Option Addr) (nM cP cB : Nat)
    (hch1 : -9223372036854775808 ≤ ch) (hch2 : ch ≤ 9223372036854775807) (hm1 : -9223372036854775808 ≤ most) (hm2 : most ≤ 9223372036854775807)
    (hM : m.Ok) (hP : p.Ok) (hp : p.len ≤ 140737488351232) (hb : body.length ≤ 140737488351232) (hcB : body.length ≤ cB) (hSM : Sl w SM AM m.ar) (hSP : Sl w SP AP p) (hSB : Bs w SB AB body) :
    Calls Try.prog 25 #[.int .i64 ch, m.val AM nM, .slice AP p.len cP, .slice AB nB cB, .int .i64 most] w (RetCut w (cutF ch m p body most) (cutE ch m p body.length most)) := by
  subst hn; exact cut25 ch most m p body w SM SP SB AM AP AB nM cP cB hch1 hch2 hm1 hm2 hM hP hp hb hcB hSM hSP hSB

set_option maxHeartbeats 400000 in
theorem sizes7 (n most : Int) (w : World) (hn1 : -9223372036854775808 ≤ n) (hn2 : n ≤ 9223372036854775807) (hm1 : -9223372036854775808 ≤ most) (hm2 : most ≤ 9223372036854775807) :
    Calls Try.prog 7 #[.int .i64 n, .int .i64 most] w fun e w' => e = .returned (.bool true) ∧ Still w w' := by
  obtain ⟨k, hk0, hkl⟩ := remL n 2001 (by decide) (by decide)
  obtain ⟨q, hq0, hql⟩ := remL most 200 (by decide) (by decide)
  have hk : wrap64 ((IntKind.u64.wrap n).tmod 2001) = (k : Int) := hk0
  have hq : wrap64 ((IntKind.u64.wrap most).tmod 200) = (q : Int) := hq0
  obtain ⟨N, hN⟩ : ∃ N, N = q + 8 := ⟨_, rfl⟩
  have h8 : wrap64 (8 + (q : Int)) = (N : Int) := by unfold wrap64; omega
  have h9 : 8 + (q : Int) = (N : Int) := by omega
  have hN1 : 8 ≤ N := by omega
  have hN2 : N ≤ 207 := by omega
  have hmk := fun w => make25 k (by omega) w
  have HE := Kp.mk (size_e k N hN1 hN2 (by omega))
  have HF := Kp.mk (size_f k N hN1 hN2 (by omega))
  clear hk0 hq0 hN
  go_enter Try.func7, Try.ntmps7
  go_wp2_with fail
  refine (cut25n 1 N mk .nil (zb k) k (zb_len k).symm _ (fun _ => True) (fun _ => True) (fun _ => True) none none _ 0 0 k (by decide) (by decide) (by omega) (by omega) mk_ok trivial (by decide) (by rw [zb_len]; omega) (by rw [zb_len]; omega) (Sl.nil _ _ _) (Sl.nil _ _ _) (made_cells w k _ trivial)).mono ?_
  rintro e w1 ⟨A1, c1, rfl, hf1, ht1⟩
  rw [zb_len, HE.out]
  have HT1 := Kp.mk (((Still.refl w).alloc _).strans ht1)
  have HLF := Kp.mk hf1
  clear hf1 ht1 HE hq h8 h9 hmk hql
  generalize cutF 1 mk L.nil (zb k) N = fs at *
  obtain ⟨hl, hat⟩ := HF.out
  have HAT := Kp.mk hat
  have hdiv : ((k : Int) + (N : Int) - 1).tdiv (N : Int) = (((k + N - 1) / N : Nat) : Int) := by
    rw [show ((k : Int) + (N : Int) - 1) = ((k + N - 1 : Nat) : Int) by omega]; rfl
  have HD := Kp.mk hdiv
  obtain ⟨bf, of_, rfl, hcl⟩ := fs_frame HLF.out (by rw [hl]; exact Nat.lt_of_lt_of_le (by decide : 0 < 2) (Nat.le_add_right _ _))
  have HCL := Kp.mk hcl
  clear hcl hat HF
  have hcb : (k + N - 1) / N ≤ 300 := by
    have : (k + N - 1) / N ≤ (k + N - 1) / 8 := Nat.div_le_div_left hN1 (by decide)
    exact Nat.le_trans this (by omega)
  rw [hl]
  generalize hC : (k + N - 1) / N = C at *
  have hcov : k ≤ C * N := by
    have h1 := Nat.div_add_mod (k + N - 1) N
    have h2 := Nat.mod_lt (k + N - 1) (show 0 < N by omega)
    rw [hC, Nat.mul_comm] at h1
    omega
  have HCOV := Kp.mk hcov
  clear hC hcov
  go_wp2_with fail
  go_loopw [9, 10] (fun v i wr => ∃ t : Nat, t ≤ C ∧ i = .int .i64 ((t : Int) + 2) ∧ v = .int .i64 ((k - t * N : Nat) : Int) ∧ wr = w1) (fun _ i _ => C + 2 - (intOf i).toNat)
  case atStart => exact ⟨0, by omega, by go_num, by simp, rfl⟩
  case round =>
    obtain ⟨t, ht, rfl, rfl, rfl⟩ := hrel
    by_cases hlt : t < C
    · obtain ⟨A', c', p0, p1, p2, HB⟩ := HCL.out wr (Still.refl _) (t + 2) (by omega)
      obtain ⟨g1, g2⟩ := HAT.out (t + 2) (by omega)
      have g2 := g2 (by omega)
      rw [if_neg (by omega), if_neg (by omega)] at g1
      rw [g1] at p0
      rw [Nat.add_sub_cancel] at g2
      rw [g2] at p2
      have hx1 : (t + 1) * N = t * N + N := Nat.succ_mul t N
      generalize hx : t * N = x at *
      have HX := Kp.mk hx; have HX1 := Kp.mk hx1
      obtain ⟨z, hz⟩ : ∃ z, z = k - x := ⟨_, rfl⟩
      rw [← hz] at p2 ⊢
      obtain ⟨y, hy⟩ : ∃ y, y = min N z := ⟨_, rfl⟩
      rw [← hy] at p2
      have hy2 : y ≤ z := by omega
      have hmin : (if (N : Int) < (z : Int) then (N : Int) else (z : Int)) = (y : Int) := by split <;> omega
      have HY := Kp.mk hy; have HZ := Kp.mk hz
      have hz2 : z ≤ 2000 := by omega
      clear hy hz hx hx1 g1 g2
      go_wp2_with fail
      go_light
      have h1 := HX.out; have h2 := HX1.out; have h3 := HY.out; have h4 := HZ.out
      refine ⟨⟨t + 1, by omega, by go_num, ?_, trivial⟩, by simp only [intOf]; omega⟩
      rw [h2]
      exact congrArg (Value.int .i64) (by omega)
    · have htC : t = C := by omega
      subst htC
      have hz0 : k - t * N = 0 := by have := HCOV.out; omega
      rw [hz0]
      obtain ⟨g1, _⟩ := HAT.out 0 (by omega)
      obtain ⟨g2, _⟩ := HAT.out 1 (by omega)
      rw [if_pos rfl] at g1
      rw [if_neg (by decide), if_pos rfl] at g2
      clear hz0 hlt
      go_wp2_with fail
      refine (told24 wr).mono ?_
      rintro e w2 ⟨rfl, ht2⟩
      obtain ⟨A0, c0, p0, _⟩ := HCL.out w2 ht2 0 (by omega)
      obtain ⟨A1, c1, p1, _⟩ := HCL.out w2 ht2 1 (by omega)
      rw [g1] at p0
      rw [g2] at p1
      simp only [Nat.zero_mul, Nat.add_zero, Nat.one_mul] at p0 p1
      have HT2 := Kp.mk (HT1.out.strans ht2)
      clear ht2 g1 g2
      go_wp2_with fail
      go_ret
      exact ⟨rfl, HT2.out⟩
end Go.Proofs.Ytaeainkfllfdfaa
