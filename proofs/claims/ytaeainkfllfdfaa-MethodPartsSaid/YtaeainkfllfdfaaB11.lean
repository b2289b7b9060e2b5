/- What the reader makes is within Go's kinds; bytes.Equal; the contract of value.Get. -/
import Derived.Test.YtaeainkfllfdfaaB10
namespace Go.Proofs.Ytaeainkfllfdfaa
open Go.RowKit
set_option linter.unusedVariables false
set_option linter.unusedSimpArgs false
set_option maxRecDepth 100000

theorem wrap64_in (n : Int) : -9223372036854775808 ≤ wrap64 n ∧ wrap64 n ≤ 9223372036854775807 := by unfold wrap64; omega
theorem kindOf_in (n : Nat) : -1 ≤ kindOf n ∧ kindOf n ≤ 5 := by
  unfold kindOf
  split; omega
  split; omega
  split; omega
  split; omega
  split; omega
  split <;> omega
theorem Rd.num_le (r : Rd) (k : Nat) : (r.num k).2.b.length ≤ r.b.length := (r.raw_le k).2

/-- What a reader of tables gives: within Go's kinds, no longer than what it had. -/
def TabOk (M : Nat) (tab : Rd → L × Rd) : Prop := ∀ r : Rd, r.b.length ≤ M → (tab r).1.Ok ∧ (tab r).1.len ≤ 33 ∧ (tab r).2.b.length ≤ r.b.length
theorem ba_size (x : List UInt8) : (ByteArray.mk x.toArray).size = x.length := by simp [ByteArray.size]
theorem Rd.value_ok {tab : Rd → L × Rd} (M : Nat) (hM : M ≤ 140737488351232) (hT : TabOk M tab) (r : Rd) (hr : r.b.length ≤ M) :
    (r.value tab).1.s.size ≤ 140737488351232 ∧ (r.value tab).1.it.len ≤ 140737488351232 ∧ (-1 ≤ (r.value tab).1.k ∧ (r.value tab).1.k ≤ 5) ∧ (-9223372036854775808 ≤ (r.value tab).1.n ∧ (r.value tab).1.n ≤ 9223372036854775807) ∧ (r.value tab).1.it.Ok ∧ (r.value tab).2.b.length ≤ r.b.length := by
  have hk := kindOf_in (r.num 1).1
  have h1 := r.num_le 1
  unfold Rd.value
  simp only
  split
  · exact ⟨Nat.zero_le _, Nat.zero_le _, hk, wrap64_in _, trivial, Nat.le_trans (Rd.num_le _ _) h1⟩
  split
  · exact ⟨Nat.zero_le _, Nat.zero_le _, hk, wrap64_in _, trivial, Nat.le_trans (Rd.num_le _ _) h1⟩
  split
  · exact ⟨Nat.zero_le _, Nat.zero_le _, hk, wrap64_in _, trivial, Nat.le_trans (Rd.num_le _ _) h1⟩
  split
  · have h2 := (r.num 1).2.num_le 4
    have h3 := ((r.num 1).2.num 4).2.raw_le ((r.num 1).2.num 4).1
    refine ⟨?_, Nat.zero_le _, hk, by simp, trivial, by simp only; omega⟩
    rw [ba_size]; omega
  split
  · have h2 := hT (r.num 1).2 (by omega)
    exact ⟨Nat.zero_le _, by simp only; omega, hk, by simp, h2.1, by simp only; omega⟩
  · exact ⟨Nat.zero_le _, Nat.zero_le _, hk, by simp, trivial, h1⟩
theorem Rd.item_ok {tab : Rd → L × Rd} (M : Nat) (hM : M ≤ 140737488351232) (hT : TabOk M tab) (r : Rd) (hr : r.b.length ≤ M) : (r.item tab).1.Ok ∧ (r.item tab).2.b.length ≤ r.b.length := by
  have h1 := r.num_le 1
  have h2 := (r.num 1).2.raw_le (r.num 1).1
  obtain ⟨v1, v2, v3, v4, v5, v6⟩ := Rd.value_ok M hM hT ((r.num 1).2.raw (r.num 1).1).2 (by omega)
  unfold Rd.item
  refine ⟨⟨⟨?_, v1, v2, by simp only; omega, by simp only; omega, v4.1, v4.2⟩, v5⟩, by simp only; omega⟩
  simp only
  rw [ba_size]; omega
theorem Rd.items_ok {tab : Rd → L × Rd} (M : Nat) (hM : M ≤ 140737488351232) (hT : TabOk M tab) : ∀ (f : Nat) (l : L) (r : Rd), r.b.length ≤ M → l.Ok → l.len ≤ 33 →
    (Rd.items tab f l r).1.Ok ∧ (Rd.items tab f l r).1.len ≤ 33 ∧ (Rd.items tab f l r).2.b.length ≤ r.b.length
  | 0, l, r, _, hl, hn => ⟨hl, hn, Nat.le_refl _⟩
  | f + 1, l, r, hr, hl, hn => by
    unfold Rd.items
    split
    · rename_i h
      have h1 := Rd.item_ok M hM hT r hr
      have h2 := Rd.items_ok M hM hT f (l.app (L.one (r.item tab).1)) (r.item tab).2 (by omega) (hl.app ⟨h1.1.1, h1.1.2, trivial⟩) (by rw [L.len_app, L.len_one]; omega)
      exact ⟨h2.1, h2.2.1, by omega⟩
    · exact ⟨hl, hn, Nat.le_refl _⟩
theorem Rd.table_ok (M : Nat) (hM : M ≤ 140737488351232) : ∀ (j deep : Nat), TabOk M (Rd.table j deep)
  | 0, deep => fun r hr => ⟨trivial, Nat.zero_le _, Nat.le_refl _⟩
  | j + 1, deep => fun r hr => by
    have h1 := r.num_le 4
    have h2 := (r.num 4).2.raw_le (r.num 4).1
    have h3 := Rd.items_ok M hM (Rd.table_ok M hM j (deep + 1)) 33 .nil ⟨((r.num 4).2.raw (r.num 4).1).1, ((r.num 4).2.raw (r.num 4).1).2.bad || decide (4 < deep)⟩ (by simp only; omega) trivial (by simp [L.len])
    unfold Rd.table
    exact ⟨h3.1, h3.2.1, by simp only; omega⟩

theorem Bs.old {w : World} {S : Nat → Prop} {A : Option Addr} {bs : List UInt8} (h : Bs w S A bs) : Bs w (fun b => S b ∧ b < w.heap.size) A bs := by
  cases bs with
  | nil => exact .inl rfl
  | cons c cs =>
    rcases h with h | ⟨b, o, rfl, hb, hc⟩
    · cases h
    · exact .inr ⟨b, o, rfl, ⟨hb, World.block_lt_of_cell? w _ (hc 0 (by simp))⟩, hc⟩

theorem bytes_eq (x y : List UInt8) : (ByteArray.mk x.toArray).toList = (ByteArray.mk y.toArray).toList ↔ x = y := by
  rw [ByteArray.toList_eq, ByteArray.toList_eq]

/-- bytes.Equal. -/
theorem equal43 (x y : List UInt8) (A B : Option Addr) (ca cb n m : Nat) (S T : Nat → Prop) (w : World) (hn : n = x.length) (hm : m = y.length) (hx : Bs w S A x) (hy : Bs w T B y) :
    Calls Try.prog 43 #[.slice A n ca, .slice B m cb] w fun e w' => e = .returned (.bool (decide (x = y))) ∧ Still w w' := by
  subst hn; subst hm
  have c1 := run_conv (c := ca) hx _ rfl
  have c2 := run_conv (c := cb) hy _ rfl
  clear hx hy
  go_enter Try.func43, Try.ntmps43
  go_wp2_with fail
  go_ret
  exact ⟨ret_bool (by rw [Bool.eq_iff_iff]; simp [bytes_eq]), Still.refl _⟩

/-- What Get makes of bytes before it looks at them. -/
def getR (b : List UInt8) : L × Rd := Rd.table 5 1 ⟨b, false⟩
/-- Do the bytes hold a table: what was read was not bad, may be put, and is put so. -/
def getOk (b : List UInt8) : Bool := !(getR b).2.bad && (decide ((getR b).1.putE = 0) && decide ((getR b).1.putB = b))
def getL (b : List UInt8) : L := if getOk b then (getR b).1 else .nil
def getE (b : List UInt8) : Int := if getOk b then 0 else 502

/-- What Get leaves. -/
def RetGet (w : World) (b : List UInt8) (e : Ending) (w' : World) : Prop :=
  ∃ A c, e = .returned (.tuple #[.slice A (getL b).len c, .int .i64 (getE b)]) ∧ Sl w' (fun k => w.heap.size ≤ k) A (getL b) ∧ Still w w'

set_option maxHeartbeats 4000000 in
theorem get_ok (b : List UInt8) (A : Option Addr) (c n : Nat) (S : Nat → Prop) (w : World) (hn : n = b.length) (h0 : b.length ≤ 140737488351232) (h1 : b.length ≤ c) (h2 : c ≤ 9223372036854775807) (hB : Bs w S A b) :
    Calls Try.prog 19 #[.slice A n c] w (RetGet w b) := by
  subst hn
  unfold RetGet
  have hG : getL b = if getOk b then (getR b).1 else .nil := rfl
  have hE : getE b = if getOk b then 0 else 502 := rfl
  have hO : getOk b = (!(getR b).2.bad && (decide ((getR b).1.putE = 0) && decide ((getR b).1.putB = b))) := rfl
  obtain ⟨k1, k2, k3⟩ := Rd.table_ok 140737488351232 (by omega) 5 1 ⟨b, false⟩ (by simp only; omega)
  have hT := fun w' (hh : RdAt w' w.heap.size (fun k => k < w.heap.size) ⟨b, false⟩) (hs : w'.heap.size = w.heap.size + 1) => (TabRC_all 4 1 (by omega) (by omega)).use w.heap.size (fun k => k < w.heap.size) ⟨b, false⟩ 1 w' rfl hh (by omega) (by omega) (fun b hb => by omega)
  change ∀ w' _ _, Calls _ _ _ _ (RetTab w' w.heap.size _ (getR b)) at hT
  change (getR b).1.Ok at k1
  change (getR b).1.len ≤ 33 at k2
  generalize getL b = gl at *
  generalize getE b = ge at *
  generalize getOk b = go at *
  have HB := Kp.mk hB; clear hB
  have HT := Kp.mk hT; clear hT
  have HK := Kp.mk k1; clear k1 k3
  have HGG := Kp.mk hG; have HEE := Kp.mk hE; have HOO := Kp.mk hO; clear hG hE hO
  generalize getR b = x at *
  go_enter Try.func19, Try.ntmps19
  go_wp2_with fail
  refine (HT.out _ (RdAt.new false rfl (HB.out.old.weak (fun b hb => hb.2)) h1 h2) (by simp)).mono ?_
  rintro e w1 ⟨AT, cT, rfl, hs1, hr1, ht1⟩
  have HT1 := Kp.mk ((Still.refl w).alloc _ |>.trans ht1 (S := fun _ => False) (fun b hb e => by omega))
  have HS1 := Kp.mk hs1; have HR1 := Kp.mk hr1; clear hs1 hr1 ht1
  go_wp2_with fail
  refine (put_ok x.1 AT cT _ w1 (by omega) HK.out HS1.out).mono ?_
  rintro e w2 ⟨AP, cP, rfl, ho2, ht2⟩
  have HO2 := Kp.mk ho2; have HT2 := Kp.mk ht2; clear ho2 ht2
  obtain ⟨AR, cR, k0, k1, f0, f1, _, _, _⟩ := HR1.out.still HT2.out
  have HW := Kp.mk (HT1.out.strans HT2.out)
  cases hbad : x.2.bad with
  | true =>
    rw [hbad] at k1
    have hgo : go = false := by rw [HOO.out, hbad]; rfl
    subst hgo
    clear hbad
    go_wp2_with fail
    go_ret2
    rw [HGG.out, HEE.out]
    exact ⟨none, 0, rfl, Sl.nil _ _ _, HW.out⟩
  | false =>
    rw [hbad] at k1
    by_cases hpe : x.1.putE = 0
    · have HPE := Kp.mk hpe
      have HBD := Kp.mk hbad; clear hbad
      rw [hpe]
      clear hpe
      have hS1 : ∀ w3, Still w2 w3 → Sl w3 (fun b => w.heap.size ≤ b) AT x.1 := fun w3 h3 => (HS1.out.still (HT2.out.strans h3)).weak (fun b hb => by simp only [World.size_alloc] at hb; omega)
      have HS2 := Kp.mk hS1; clear hS1
      go_wp2_with fail
      refine (equal43 x.1.putB b AP A cP c _ _ _ S w2 rfl rfl HO2.out.bs (HB.out.still HW.out)).mono ?_
      rintro e w3 ⟨rfl, ht3⟩
      have HT3 := Kp.mk ht3; clear ht3
      by_cases he : x.1.putB = b
      · have hgo : go = true := by rw [HOO.out, HBD.out, HPE.out]; simp [he]
        have hd : decide (x.1.putB = b) = true := decide_eq_true he
        rw [hd]
        clear he hd
        subst hgo
        go_wp2_with fail
        go_ret2
        rw [HGG.out, HEE.out]
        exact ⟨AT, cT, rfl, HS2.out _ HT3.out, HW.out.strans HT3.out⟩
      · have hgo : go = false := by rw [HOO.out, HBD.out, HPE.out]; simp [he]
        have hd : decide (x.1.putB = b) = false := decide_eq_false he
        rw [hd]
        clear he hd
        subst hgo
        go_wp2_with fail
        go_ret2
        rw [HGG.out, HEE.out]
        exact ⟨none, 0, rfl, Sl.nil _ _ _, HW.out.strans HT3.out⟩
    · have hgo : go = false := by rw [HOO.out]; simp [hpe]
      subst hgo
      clear hbad
      go_wp2_with fail
      go_ret2
      rw [HGG.out, HEE.out]
      exact ⟨none, 0, rfl, Sl.nil _ _ _, HW.out⟩
end Go.Proofs.Ytaeainkfllfdfaa
