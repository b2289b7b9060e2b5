/- The contracts of value.put, value.table, value.Put: the bytes of a table. -/
import Derived.Test.YtaeainkfllfdfaaB4
import Derived.Deep.RegionHeld3
namespace Go.Proofs.Ytaeainkfllfdfaa
open Go.RowKit
set_option linter.unusedVariables false
set_option linter.unusedSimpArgs false
set_option maxRecDepth 100000

def TabC (l : L) : Prop := ∀ (A : Option Addr) (c : Nat) (S : Nat → Prop) (w : World), l.len ≤ 140737488351232 → l.Ok → l.Kinds → l.enc.length ≤ 1099511627776 → Sl w S A l →
  Calls Try.prog 41 #[.slice A l.len c] w (RetB w.heap.size l.enc (fun _ => False) w)
theorem TabC.use {l : L} (h : TabC l) (A : Option Addr) (c : Nat) (S : Nat → Prop) (w : World) (h1 : l.len ≤ 140737488351232) (h2 : l.Ok) (h3 : l.Kinds) (h4 : l.enc.length ≤ 1099511627776) (h5 : Sl w S A l) :
  Calls Try.prog 41 #[.slice A l.len c] w (RetB w.heap.size l.enc (fun _ => False) w) := h A c S w h1 h2 h3 h4 h5

/-- A value that was boxed stays while a row of the call's own, older than the box, grows. -/
theorem boxKept {w w1 : World} {base : Nat} {A : Option Addr} {c : Nat} {bs : List UInt8} (ho : OwnB w base A c bs) {cs : Array Value} {e : TypeId} {o2 : Obj} (ht : Tch (blk A) ((w.alloc (.cells cs e)).alloc o2) w1)
    (j : Nat) (v : Value) (hj : cs[j]? = some v) : w1.cell? ⟨w.heap.size, j, none⟩ = some v := by
  refine ht.cell (((Still.refl _).alloc o2).scell (w := w.alloc (.cells cs e)) ?_) (fun hb => ?_)
  · rw [cell_of_row _ w.heap.size j cs e (0, 0) (heap_alloc_new w _)]; exact hj
  · have := (ho.base hb).2; simp at this

/-- The first step of put: the letter. -/
theorem putL (bs : List UInt8) (k n : Int) (s : ByteArray) (tb : List UInt8) : ∃ us, encBody k n s tb = letter k :: us := ⟨_, rfl⟩

set_option maxHeartbeats 2000000 in
theorem put0 (n : Int) (s : ByteArray) (il : Nat) (A : Option Addr) (c : Nat) (bs : List UInt8) (base : Nat) (B : Option Addr) (cB : Nat) (w : World) (ho : OwnB w base A c bs) (hb : base ≤ w.heap.size) (hlen : bs.length + 1 ≤ 1099511627776) :
    Calls Try.prog 74 #[.slice A bs.length c, .agg #[.int .i64 0, .int .i64 n, .string s, .slice B il cB]] w (RetB base (bs ++ [86]) (base ≤ ·) w) := by
  have HO := Kp.mk ho; clear ho
  go_enter Try.func74, Try.ntmps74
  go_wp2_with (at_builtin; (refine wpList_appB _ rfl _ _ rfl base A c _ 1 bs rfl rfl (HO.out.still (((Still.refl w).alloc _).alloc _)) (some ⟨w.heap.size + 1, 0, none⟩) 1 [86] rfl rfl (fun _ => True) ?_ ?_ ?_ ?_); (refine Bs.one _ _ _ trivial (new_at ?_)); (simp only [World.size_alloc]); (simp only [List.length_cons, List.length_nil]; omega); (simp only [World.size_alloc]; omega); intro A1 c1 w1 ho1 ht1 hat1; have HO1 := Kp.mk ho1; have HT1 := Kp.mk ((((Still.refl w).alloc _).alloc _).of_still.trans ht1 (T := blk A) (S := (base ≤ ·)) (fun b _ hb => (HO.out.base hb).1)); have HA1 := Kp.mk (hat1); have p0 := boxKept HO.out ht1 0 _ rfl; have p1 := boxKept HO.out ht1 1 _ rfl; have p2 := boxKept HO.out ht1 2 _ rfl; have p3 := boxKept HO.out ht1 3 _ rfl; have hz1 : base ≤ w1.heap.size := Nat.le_trans hb HT1.out.size; clear ho1 ht1 hat1)
  go_ret
  exact ⟨A1, c1, by simp, HO1.out, HT1.out⟩
set_option maxHeartbeats 2000000 in
theorem put1 (n : Int) (s : ByteArray) (il : Nat) (A : Option Addr) (c : Nat) (bs : List UInt8) (base : Nat) (B : Option Addr) (cB : Nat) (w : World) (ho : OwnB w base A c bs) (hb : base ≤ w.heap.size) (hlen : bs.length + 2 ≤ 1099511627776) :
    Calls Try.prog 74 #[.slice A bs.length c, .agg #[.int .i64 1, .int .i64 n, .string s, .slice B il cB]] w (RetB base (bs ++ [116] ++ [UInt8.ofNat (n % 256).toNat]) (base ≤ ·) w) := by
  have HO := Kp.mk ho; clear ho
  have HN := Kp.mk (show n % 256 = ((UInt8.ofNat (n % 256).toNat).toNat : Int) by
    have h1 := Int.emod_nonneg n (show (256 : Int) ≠ 0 by omega)
    have h2 := Int.emod_lt_of_pos n (show (0 : Int) < 256 by omega)
    rw [UInt8.toNat_ofNat']; omega)
  go_enter Try.func74, Try.ntmps74
  go_wp2_with (first | (at_builtin; (refine wpList_appB _ rfl _ _ rfl base A c _ 1 bs rfl rfl (HO.out.still (((Still.refl w).alloc _).alloc _)) (some ⟨w.heap.size + 1, 0, none⟩) 1 [116] rfl rfl (fun _ => True) ?_ ?_ ?_ ?_); (refine Bs.one _ _ _ trivial (new_at ?_)); (simp only [World.size_alloc]); (simp only [List.length_cons, List.length_nil]; omega); (simp only [World.size_alloc]; omega); intro A1 c1 w1 ho1 ht1 hat1; have HO1 := Kp.mk ho1; have HT1 := Kp.mk ((((Still.refl w).alloc _).alloc _).of_still.trans ht1 (T := blk A) (S := (base ≤ ·)) (fun b _ hb => (HO.out.base hb).1)); have HA1 := Kp.mk (hat1); have p0 := boxKept HO.out ht1 0 _ rfl; have p1 := boxKept HO.out ht1 1 _ rfl; have p2 := boxKept HO.out ht1 2 _ rfl; have p3 := boxKept HO.out ht1 3 _ rfl; have hz1 : base ≤ w1.heap.size := Nat.le_trans hb HT1.out.size; clear ho1 ht1 hat1) | (at_builtin; (refine wpList_appB _ rfl _ _ rfl base A1 c1 _ 1 (bs ++ [116]) rfl ?_ (HO1.out.still ((Still.refl w1).alloc _)) (some ⟨w1.heap.size, 0, none⟩) 1 [UInt8.ofNat (n % 256).toNat] rfl rfl (fun _ => True) ?_ ?_ ?_ ?_); (simp); (refine Bs.one _ _ _ trivial ?_); (rw [← HN.out]; exact new_one _ _ _); (simp only [List.length_append, List.length_cons, List.length_nil]; omega); (simp only [World.size_alloc]; omega); intro A2 c2 w2 ho2 ht2 hat2; have HO2 := Kp.mk ho2; have HT2 := Kp.mk ((HT1.out.alloc _).trans ht2 (fun b _ hb => (HO1.out.base hb).1)); clear ho2 ht2 hat2))
  go_ret
  exact ⟨A2, c2, by simp, HO2.out, HT2.out⟩
set_option maxHeartbeats 2000000 in
theorem put2 (n : Int) (s : ByteArray) (il : Nat) (A : Option Addr) (c : Nat) (bs : List UInt8) (base : Nat) (B : Option Addr) (cB : Nat) (w : World) (ho : OwnB w base A c bs) (hb : base ≤ w.heap.size) (hlen : bs.length + 5 ≤ 1099511627776) :
    Calls Try.prog 74 #[.slice A bs.length c, .agg #[.int .i64 2, .int .i64 n, .string s, .slice B il cB]] w (RetB base (bs ++ [73] ++ be (u64w n) 4) (base ≤ ·) w) := by
  have HO := Kp.mk ho; clear ho
  have HU := Kp.mk (u64w_eq n)
  go_enter Try.func74, Try.ntmps74
  go_wp2_with (at_builtin; (refine wpList_appB _ rfl _ _ rfl base A c _ 1 bs rfl rfl (HO.out.still (((Still.refl w).alloc _).alloc _)) (some ⟨w.heap.size + 1, 0, none⟩) 1 [73] rfl rfl (fun _ => True) ?_ ?_ ?_ ?_); (refine Bs.one _ _ _ trivial (new_at ?_)); (simp only [World.size_alloc]); (simp only [List.length_cons, List.length_nil]; omega); (simp only [World.size_alloc]; omega); intro A1 c1 w1 ho1 ht1 hat1; have HO1 := Kp.mk ho1; have HT1 := Kp.mk ((((Still.refl w).alloc _).alloc _).of_still.trans ht1 (T := blk A) (S := (base ≤ ·)) (fun b _ hb => (HO.out.base hb).1)); have HA1 := Kp.mk (hat1); have p0 := boxKept HO.out ht1 0 _ rfl; have p1 := boxKept HO.out ht1 1 _ rfl; have p2 := boxKept HO.out ht1 2 _ rfl; have p3 := boxKept HO.out ht1 3 _ rfl; have hz1 : base ≤ w1.heap.size := Nat.le_trans hb HT1.out.size; clear ho1 ht1 hat1)
  rw [HU.out]
  refine (num75 A1 c1 (bs ++ [73]) _ 4 _ base _ w1 (by simp) rfl (by omega) (by omega) (u64w_lt n) HO1.out hz1 (by simp only [List.length_append, List.length_cons, List.length_nil]; omega)).mono ?_
  rintro e w2 ⟨A2, c2, rfl, ho2, ht2, _⟩
  have HO2 := Kp.mk ho2
  have HT2 := Kp.mk (HT1.out.trans ht2 (fun b _ hb => (HO1.out.base hb).1))
  clear ho2 ht2
  go_wp2_with fail
  go_ret
  exact ⟨A2, c2, by simp, HO2.out, HT2.out⟩
set_option maxHeartbeats 2000000 in
theorem put3 (n : Int) (s : ByteArray) (il : Nat) (A : Option Addr) (c : Nat) (bs : List UInt8) (base : Nat) (B : Option Addr) (cB : Nat) (w : World) (ho : OwnB w base A c bs) (hb : base ≤ w.heap.size) (hlen : bs.length + 9 ≤ 1099511627776) :
    Calls Try.prog 74 #[.slice A bs.length c, .agg #[.int .i64 3, .int .i64 n, .string s, .slice B il cB]] w (RetB base (bs ++ [108] ++ be (u64w n) 8) (base ≤ ·) w) := by
  have HO := Kp.mk ho; clear ho
  have HU := Kp.mk (u64w_eq n)
  go_enter Try.func74, Try.ntmps74
  go_wp2_with (at_builtin; (refine wpList_appB _ rfl _ _ rfl base A c _ 1 bs rfl rfl (HO.out.still (((Still.refl w).alloc _).alloc _)) (some ⟨w.heap.size + 1, 0, none⟩) 1 [108] rfl rfl (fun _ => True) ?_ ?_ ?_ ?_); (refine Bs.one _ _ _ trivial (new_at ?_)); (simp only [World.size_alloc]); (simp only [List.length_cons, List.length_nil]; omega); (simp only [World.size_alloc]; omega); intro A1 c1 w1 ho1 ht1 hat1; have HO1 := Kp.mk ho1; have HT1 := Kp.mk ((((Still.refl w).alloc _).alloc _).of_still.trans ht1 (T := blk A) (S := (base ≤ ·)) (fun b _ hb => (HO.out.base hb).1)); have HA1 := Kp.mk (hat1); have p0 := boxKept HO.out ht1 0 _ rfl; have p1 := boxKept HO.out ht1 1 _ rfl; have p2 := boxKept HO.out ht1 2 _ rfl; have p3 := boxKept HO.out ht1 3 _ rfl; have hz1 : base ≤ w1.heap.size := Nat.le_trans hb HT1.out.size; clear ho1 ht1 hat1)
  rw [HU.out]
  refine (num75 A1 c1 (bs ++ [108]) _ 8 _ base _ w1 (by simp) rfl (by omega) (by omega) (u64w_lt n) HO1.out hz1 (by simp only [List.length_append, List.length_cons, List.length_nil]; omega)).mono ?_
  rintro e w2 ⟨A2, c2, rfl, ho2, ht2, _⟩
  have HO2 := Kp.mk ho2
  have HT2 := Kp.mk (HT1.out.trans ht2 (fun b _ hb => (HO1.out.base hb).1))
  clear ho2 ht2
  go_wp2_with fail
  go_ret
  exact ⟨A2, c2, by simp, HO2.out, HT2.out⟩
set_option maxHeartbeats 2000000 in
theorem put5 (n : Int) (s : ByteArray) (it : L) (hC : TabC it) (hO : it.Ok) (hKd : it.Kinds) (hil : it.len ≤ 140737488351232) (A : Option Addr) (c : Nat) (bs : List UInt8) (base : Nat) (B : Option Addr) (cB : Nat) (S : Nat → Prop) (w : World) (ho : OwnB w base A c bs) (hb : base ≤ w.heap.size)
    (hS : Sl w S B it) (hSb : ∀ b, S b → b < base) (hlen : bs.length + (1 + it.enc.length) ≤ 1099511627776) :
    Calls Try.prog 74 #[.slice A bs.length c, .agg #[.int .i64 5, .int .i64 n, .string s, .slice B it.len cB]] w (RetB base (bs ++ [70] ++ it.enc) (base ≤ ·) w) := by
  have HO := Kp.mk ho; clear ho
  have HS := Kp.mk hS; clear hS
  have HSB := Kp.mk hSb; clear hSb
  have HC := Kp.mk hC; clear hC
  have HQ := Kp.mk hO; clear hO
  have HKD := Kp.mk hKd; clear hKd
  go_enter Try.func74, Try.ntmps74
  go_wp2_with (at_builtin; (refine wpList_appB _ rfl _ _ rfl base A c _ 1 bs rfl rfl (HO.out.still (((Still.refl w).alloc _).alloc _)) (some ⟨w.heap.size + 1, 0, none⟩) 1 [70] rfl rfl (fun _ => True) ?_ ?_ ?_ ?_); (refine Bs.one _ _ _ trivial (new_at ?_)); (simp only [World.size_alloc]); (simp only [List.length_cons, List.length_nil]; omega); (simp only [World.size_alloc]; omega); intro A1 c1 w1 ho1 ht1 hat1; have HO1 := Kp.mk ho1; have HT1 := Kp.mk ((((Still.refl w).alloc _).alloc _).of_still.trans ht1 (T := blk A) (S := (base ≤ ·)) (fun b _ hb => (HO.out.base hb).1)); have HA1 := Kp.mk (hat1); have p0 := boxKept HO.out ht1 0 _ rfl; have p1 := boxKept HO.out ht1 1 _ rfl; have p2 := boxKept HO.out ht1 2 _ rfl; have p3 := boxKept HO.out ht1 3 _ rfl; have hz1 : base ≤ w1.heap.size := Nat.le_trans hb HT1.out.size; clear ho1 ht1 hat1)
  have HS1 := Kp.mk (HS.out.tch HT1.out (fun b h1 h2 => by have := HSB.out b h1; omega))
  refine (HC.out.use B cB S _ hil HQ.out HKD.out (by omega) HS1.out).mono ?_
  rintro e w2 ⟨A2, c2, rfl, ho2, ht2⟩
  have HO2 := Kp.mk ho2
  have HO1' := Kp.mk (HO1.out.still ht2)
  have HT2 := Kp.mk (HT1.out.still ht2)
  have hz2 : base ≤ w2.heap.size := Nat.le_trans hz1 ht2.size
  clear ho2 ht2
  go_wp2_with (at_builtin; (refine wpList_appB _ rfl _ _ rfl base A1 c1 _ _ (bs ++ [70]) rfl ?_ HO1'.out A2 c2 it.enc rfl rfl _ HO2.out.bs ?_ hz2 ?_); (simp); (simp only [List.length_append, List.length_cons, List.length_nil]; omega); intro A3 c3 w3 ho3 ht3 hat3; have HO3 := Kp.mk ho3; have HT3 := Kp.mk (HT2.out.trans ht3 (fun b _ hb => (HO1'.out.base hb).1)); clear ho3 ht3 hat3)
  go_ret
  exact ⟨A3, c3, by simp; omega, HO3.out, HT3.out⟩
set_option maxHeartbeats 2000000 in
theorem put4 (n : Int) (s : ByteArray) (il : Nat) (A : Option Addr) (c : Nat) (bs : List UInt8) (base : Nat) (B : Option Addr) (cB : Nat) (w : World) (ho : OwnB w base A c bs) (hb : base ≤ w.heap.size) (hs : s.size ≤ 140737488351232) (hlen : bs.length + (5 + s.size) ≤ 1099511627776) :
    Calls Try.prog 74 #[.slice A bs.length c, .agg #[.int .i64 4, .int .i64 n, .string s, .slice B il cB]] w (RetB base (bs ++ [83] ++ be s.size 4 ++ s.data.toList) (base ≤ ·) w) := by
  have HO := Kp.mk ho; clear ho
  go_enter Try.func74, Try.ntmps74
  go_wp2_with (at_builtin; (refine wpList_appB _ rfl _ _ rfl base A c _ 1 bs rfl rfl (HO.out.still (((Still.refl w).alloc _).alloc _)) (some ⟨w.heap.size + 1, 0, none⟩) 1 [83] rfl rfl (fun _ => True) ?_ ?_ ?_ ?_); (refine Bs.one _ _ _ trivial (new_at ?_)); (simp only [World.size_alloc]); (simp only [List.length_cons, List.length_nil]; omega); (simp only [World.size_alloc]; omega); intro A1 c1 w1 ho1 ht1 hat1; have HO1 := Kp.mk ho1; have HT1 := Kp.mk ((((Still.refl w).alloc _).alloc _).of_still.trans ht1 (T := blk A) (S := (base ≤ ·)) (fun b _ hb => (HO.out.base hb).1)); have HA1 := Kp.mk (hat1); have p0 := boxKept HO.out ht1 0 _ rfl; have p1 := boxKept HO.out ht1 1 _ rfl; have p2 := boxKept HO.out ht1 2 _ rfl; have p3 := boxKept HO.out ht1 3 _ rfl; have hz1 : base ≤ w1.heap.size := Nat.le_trans hb HT1.out.size; clear ho1 ht1 hat1)
  have hbk : ∀ b, blk A1 b → b ≠ w.heap.size := fun b hb e => by
    rcases HA1.out b hb with h | h
    · have := (HO.out.base h).2; omega
    · simp only [World.size_alloc] at h; omega
  have HBK := Kp.mk hbk; clear hbk
  clear p0 p1 p3
  have hwr := u64_small s.size (by omega)
  go_region_held3 (fun W => W.cell? ⟨w.heap.size, 2, none⟩ = some (.string s)) (first | exact p2 | exact hq2 | exact hq3)
    (first
     | (go_simp; go_at_call 75; refine (num75 A1 c1 (bs ++ [83]) _ 4 _ base _ _ (by simp) rfl (by omega) (by omega) (by omega) (OwnB.drew HO1.out) hz1 (by simp only [List.length_append, List.length_cons, List.length_nil]; omega)).mono ?_; rintro e w2 ⟨A2, c2, rfl, ho2, ht2, hat2⟩; have HO2 := Kp.mk ho2; have hq2 := ht2.cell (a := ⟨w.heap.size, 2, none⟩) (v := .string s) p2 (fun h => HBK.out _ h rfl); have HT2 := Kp.mk (HT1.out.drew.trans ht2 (fun b _ hb => (HO1.out.base hb).1)); have hz2 : base ≤ w2.heap.size := Nat.le_trans hz1 ht2.size; have hbk2 : ∀ b, blk A2 b → b ≠ w.heap.size := (fun b hb e => by rcases hat2 b hb with h | h; exact HBK.out b h e; (have h0 := HT1.out.size; have h1 := World.block_lt_of_cell? w1 _ p2; (have h2 : w1.heap.size ≤ b := h); simp only at h1; omega)); have HBK2 := Kp.mk hbk2; clear ho2 ht2 hat2 hbk2)
     | (refine step_appS _ (by rfl) _ _ rfl base A2 c2 _ (bs ++ [83] ++ be s.size 4) (by rfl) ?_ HO2.out s (by rfl) ?_ hz2 ?_; (simp [be_length]); (simp only [List.length_append, List.length_cons, List.length_nil, be_length]; omega); intro A3 c3 w3 ho3 ht3 hat3; have HO3 := Kp.mk ho3; have hq3 := ht3.cell (a := ⟨w.heap.size, 2, none⟩) (v := .string s) hq2 (fun h => HBK2.out _ h rfl); have HT3 := Kp.mk (HT2.out.trans ht3 (fun b _ hb => (HO2.out.base hb).1)); clear ho3 ht3 hat3))
  go_wp2_with fail

  go_ret
  exact ⟨A3, c3, by simp [be_length]; omega, HO3.out, HT3.out⟩

theorem putC (x : It) (hC : TabC x.it) (hO : x.Ok) (hKd : x.Kinds) (A : Option Addr) (c m : Nat) (bs : List UInt8) (base : Nat) (B : Option Addr) (cB : Nat) (S : Nat → Prop) (w : World) (hm : m = bs.length) (ho : OwnB w base A c bs) (hb : base ≤ w.heap.size)
    (hS : Sl w S B x.it) (hSb : ∀ b, S b → b < base) (hlen : bs.length + x.encV.length ≤ 1099511627776) :
    Calls Try.prog 74 #[.slice A m c, .agg #[.int .i64 x.k, .int .i64 x.n, .string x.s, .slice B x.it.len cB]] w (RetB base (bs ++ x.encV) (base ≤ ·) w) := by
  subst hm
  obtain ⟨nm, k, n, s, it⟩ := x
  obtain ⟨⟨hk0, hk5⟩, hKi⟩ := hKd
  obtain ⟨⟨q1, q2, q3, q4, q5, q6, q7⟩, q8⟩ := hO
  simp only at *
  have hk : k = 0 ∨ k = 1 ∨ k = 2 ∨ k = 3 ∨ k = 4 ∨ k = 5 := by omega
  rcases hk with rfl | rfl | rfl | rfl | rfl | rfl
  · have h := put0 n s it.len A c bs base B cB w ho hb (by simp [It.encV, encBody] at hlen; omega)
    simpa [It.encV, encBody, letter] using h
  · have h := put1 n s it.len A c bs base B cB w ho hb (by simp [It.encV, encBody] at hlen; omega)
    simpa [It.encV, encBody, letter] using h
  · have h := put2 n s it.len A c bs base B cB w ho hb (by simp [It.encV, encBody, be_length] at hlen; omega)
    simpa [It.encV, encBody, letter] using h
  · have h := put3 n s it.len A c bs base B cB w ho hb (by simp [It.encV, encBody, be_length] at hlen; omega)
    simpa [It.encV, encBody, letter] using h
  · have h := put4 n s it.len A c bs base B cB w ho hb q2 (by simp [It.encV, encBody, be_length] at hlen; omega)
    simpa [It.encV, encBody, letter] using h
  · have h := put5 n s it hC q8 hKi q3 A c bs base B cB S w ho hb hS hSb (by simp [It.encV, encBody] at hlen; omega)
    simpa [It.encV, encBody, letter] using h

end Go.Proofs.Ytaeainkfllfdfaa
