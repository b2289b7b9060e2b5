/- Contracts of the functions that the statement reaches, each walked once, and the plain laws over them, for every input that their premises name (A0, A1). -/
import Derived.WalkKit
import Derived.WalkSpells
import Derived.WalkLawsBesides
/- A0: Tables as plain data, what a slice of items or of bytes reads as, and which blocks a call may turn. No program in sight. -/
namespace Go.Proofs.Ytaeainkfllfdfaa
open Go.RowKit
set_option linter.unusedVariables false
set_option linter.unusedSimpArgs false

/-- A fact that the walk does not look into. -/
structure Kp (p : Prop) : Prop where
  mk ::
  out : p

/-- A list of items: each has a name, a kind, a number, a text and items of its own. -/
inductive L where
  | nil : L
  | cons (nm : ByteArray) (k n : Int) (s : ByteArray) (it rest : L) : L
  deriving DecidableEq

/-- One item. -/
structure It where
  nm : ByteArray
  k : Int
  n : Int
  s : ByteArray
  it : L
  deriving DecidableEq

namespace L
def len : L → Nat
  | .nil => 0
  | .cons _ _ _ _ _ rest => rest.len + 1
def app : L → L → L
  | .nil, m => m
  | .cons nm k n s it rest, m => .cons nm k n s it (rest.app m)
def get : L → Nat → It
  | .nil, _ => ⟨.empty, 0, 0, .empty, .nil⟩
  | .cons nm k n s it _, 0 => ⟨nm, k, n, s, it⟩
  | .cons _ _ _ _ _ rest, i + 1 => rest.get i
def one (x : It) : L := .cons x.nm x.k x.n x.s x.it .nil
def set : L → Nat → It → L
  | .nil, _, _ => .nil
  | .cons _ _ _ _ _ rest, 0, x => .cons x.nm x.k x.n x.s x.it rest
  | .cons nm k n s it rest, i + 1, x => .cons nm k n s it (rest.set i x)
def drop : Nat → L → L
  | 0, l => l
  | _ + 1, .nil => .nil
  | i + 1, .cons _ _ _ _ _ rest => rest.drop i
def take : Nat → L → L
  | 0, _ => .nil
  | _ + 1, .nil => .nil
  | i + 1, .cons nm k n s it rest => .cons nm k n s it (rest.take i)

theorem len_app (l m : L) : (l.app m).len = l.len + m.len := by
  induction l with
  | nil => simp [app, len]
  | cons _ _ _ _ _ _ _ ih => simp [app, len, ih]; omega
theorem len_one (x : It) : (one x).len = 1 := rfl
theorem len_set (l : L) (i : Nat) (x : It) : (l.set i x).len = l.len := by
  induction l generalizing i with
  | nil => rfl
  | cons _ _ _ _ _ _ _ ih => cases i <;> simp [set, len, ih]
theorem app_nil (l : L) : l.app .nil = l := by
  induction l with
  | nil => rfl
  | cons _ _ _ _ _ _ _ ih => simp [app, ih]
theorem app_assoc (a b c : L) : (a.app b).app c = a.app (b.app c) := by
  induction a with
  | nil => rfl
  | cons _ _ _ _ _ _ _ ih => simp [app, ih]
theorem len_drop (l : L) (i : Nat) : (l.drop i).len = l.len - i := by
  induction i generalizing l with
  | zero => simp [drop]
  | succ i ih => cases l <;> simp [drop, len, ih]
theorem len_take (l : L) (i : Nat) : (l.take i).len = min i l.len := by
  induction i generalizing l with
  | zero => simp [take, len]
  | succ i ih =>
    cases l with
    | nil => rfl
    | cons _ _ _ _ _ r => simp only [take, len]; rw [ih r]; omega
theorem take_all (l : L) (i : Nat) (h : l.len ≤ i) : l.take i = l := by
  induction i generalizing l with
  | zero => cases l with
    | nil => rfl
    | cons _ _ _ _ _ _ => simp [len] at h
  | succ i ih =>
    cases l with
    | nil => rfl
    | cons _ _ _ _ _ r => simp only [take]; rw [ih r (by simp [len] at h; omega)]
theorem take_succ (l : L) (i : Nat) (h : i < l.len) : l.take (i + 1) = (l.take i).app (one (l.get i)) := by
  induction l generalizing i with
  | nil => simp [len] at h
  | cons nm k n s it rest _ ih =>
    cases i with
    | zero => simp [take, get, one, app]
    | succ i => simp only [take, get, app]; rw [ih i (by simp [len] at h; omega)]
theorem drop_get (l : L) (i : Nat) (h : i < l.len) : l.drop i = .cons (l.get i).nm (l.get i).k (l.get i).n (l.get i).s (l.get i).it (l.drop (i + 1)) := by
  induction l generalizing i with
  | nil => simp [len] at h
  | cons nm k n s it rest _ ih =>
    cases i with
    | zero => simp [drop, get]
    | succ i => simp only [drop, get]; exact ih i (by simp [len] at h; omega)
theorem len_zero {l : L} (h : l.len = 0) : l = .nil := by
  cases l with
  | nil => rfl
  | cons _ _ _ _ _ _ => simp [len] at h
theorem get_app_left (l m : L) (i : Nat) (h : i < l.len) : (l.app m).get i = l.get i := by
  induction l generalizing i with
  | nil => simp [len] at h
  | cons nm k n s it rest _ ih =>
    cases i with
    | zero => rfl
    | succ i => simp only [app, get]; exact ih i (by simp [len] at h; omega)
theorem get_app_right (l m : L) (i : Nat) : (l.app m).get (l.len + i) = m.get i := by
  induction l with
  | nil => simp [app, len]
  | cons nm k n s it rest _ ih => simp only [app, len]; rw [show rest.len + 1 + i = (rest.len + i) + 1 from by omega]; exact ih
theorem ext_get (l m : L) (h : l.len = m.len) (hg : ∀ i, i < l.len → l.get i = m.get i) : l = m := by
  induction l generalizing m with
  | nil => exact (len_zero h.symm).symm
  | cons nm k n s it rest _ ih =>
    cases m with
    | nil => simp [len] at h
    | cons nm' k' n' s' it' rest' =>
      have h0 := hg 0 (by simp [len])
      simp only [get, It.mk.injEq] at h0
      obtain ⟨rfl, rfl, rfl, rfl, rfl⟩ := h0
      rw [ih rest' (by simpa [len] using h) (fun i hi => by have := hg (i + 1) (by simp [len]; omega); simpa [get] using this)]
theorem get_set (l : L) (i j : Nat) (x : It) (h : i < l.len) : (l.set i x).get j = if j = i then x else l.get j := by
  induction l generalizing i j with
  | nil => simp [len] at h
  | cons nm k n s it rest _ ih =>
    cases i with
    | zero => cases j <;> simp [set, get]
    | succ i =>
      cases j with
      | zero => simp [set, get]
      | succ j => simp only [set, get]; rw [ih i j (by simp [len] at h; omega)]; simp
end L

/-! ### Which blocks a call may turn -/

/-- From w to w' nothing has turned but, of the blocks that lay in w, some of those of which S holds. -/
structure Tch (S : Nat → Prop) (w w' : World) : Prop where
  os : w'.os = w.os
  tape : w'.tape = w.tape
  output : w'.output = w.output
  size : w.heap.size ≤ w'.heap.size
  block : ∀ k, k < w.heap.size → ¬ S k → w'.heap[k]? = w.heap[k]?

/-- Nothing that lay in w has turned. -/
abbrev Still (w w' : World) : Prop := Tch (fun _ => False) w w'

namespace Tch
variable {S T : Nat → Prop} {w w1 w2 : World}
theorem refl (S : Nat → Prop) (w : World) : Tch S w w := ⟨rfl, rfl, rfl, Nat.le_refl _, fun _ _ _ => rfl⟩
theorem trans (h : Tch S w w1) (k : Tch T w1 w2) (hst : ∀ b, b < w.heap.size → T b → S b) : Tch S w w2 :=
  ⟨k.os.trans h.os, k.tape.trans h.tape, k.output.trans h.output, Nat.le_trans h.size k.size, fun b hb hs =>
    (k.block b (Nat.lt_of_lt_of_le hb h.size) (fun ht => hs (hst b hb ht))).trans (h.block b hb hs)⟩
theorem mono (h : Tch S w w1) (hst : ∀ b, b < w.heap.size → S b → T b) : Tch T w w1 :=
  ⟨h.os, h.tape, h.output, h.size, fun b hb ht => h.block b hb fun hs => ht (hst b hb hs)⟩
theorem still (h : Tch S w w1) (k : Still w1 w2) : Tch S w w2 := h.trans k (fun _ _ f => f.elim)
theorem of_still (k : Still w w1) : Tch S w w1 := k.mono (fun _ _ f => f.elim)
theorem drew (h : Tch S w w1) : Tch S w w1.drew := ⟨h.os, h.tape, h.output, h.size, h.block⟩
theorem drewN (h : Tch S w w1) (n : Nat) : Tch S w (w1.drewN n) := ⟨h.os, h.tape, h.output, h.size, h.block⟩
theorem alloc (h : Tch S w w1) (o : Obj) : Tch S w (w1.alloc o) :=
  h.still ⟨rfl, rfl, rfl, by simp, fun k hk _ => Below.heap_alloc _ _ _ hk⟩
theorem setCell (h : Tch S w w1) (p : Addr) (v : Value) (hp : p.block < w.heap.size → S p.block) : Tch S w (w1.setCell p v) :=
  h.trans (T := fun b => b = p.block) ⟨rfl, rfl, rfl, by simp [World.setCell], fun k _ hk => Below.heap_setCell _ _ _ _ hk⟩ (fun b hb e => by subst e; exact hp hb)
theorem grown (h : Tch S w w1) {row : Option Nat} (hg : w1.grownBy w2 row) (hr : ∀ k, row = some k → k < w.heap.size → S k) : Tch S w w2 :=
  h.trans (T := fun b => row = some b) ⟨hg.os, hg.tape, hg.output, hg.size, fun k hk hn => hg.block k hk (fun e => hn e.symm)⟩ (fun b hb e => hr b e hb)
theorem below (h : Still w w1) : Below w.heap.size w w1 := ⟨h.os, h.tape, h.output, h.size, fun k hk => h.block k hk (fun f => f)⟩
theorem of_below (h : Below w.heap.size w w1) : Still w w1 := ⟨h.os, h.tape, h.output, h.size, fun k hk _ => h.block k hk⟩
theorem cell (h : Tch S w w1) {a : Addr} {v : Value} (hc : w.cell? a = some v) (hs : ¬ S a.block) : w1.cell? a = some v :=
  (World.cell?_of_block (w := w) (h.block a.block (World.block_lt_of_cell? w a hc) hs)).trans hc
theorem frozen (h : Tch S w w1) {a : Addr} (hb : a.block < w.heap.size) (hs : ¬ S a.block) : w1.frozen? a = w.frozen? a :=
  World.frozen?_of_block (w := w) (h.block a.block hb hs)
theorem own (h : Tch S w w1) {base : Nat} {e : TypeId} {size : Nat} {v : Value} {n : Nat} {xs : List Value} (ho : w.ownsRow base e size v n xs)
    (hs : ∀ g, v.ownBlock = some g → ¬ S g) : w1.ownsRow base e size v n xs := by
  obtain ⟨h1, h2⟩ := ho
  refine ⟨h1, ?_⟩
  rcases h2 with h2 | ⟨g, cap, cur, hv, hg, hh, r⟩
  · exact .inl h2
  · refine .inr ⟨g, cap, cur, hv, hg, ?_, r⟩
    rw [h.block g (Array.getElem?_eq_some_iff.1 hh).1 (hs g (by rw [hv]; rfl))]; exact hh
end Tch
theorem Still.refl (w : World) : Still w w := Tch.refl _ w
theorem Tch.scell {w w1 : World} (h : Still w w1) {a : Addr} {v : Value} (hc : w.cell? a = some v) : w1.cell? a = some v := Tch.cell h hc (fun f => f)
theorem Tch.strans {w w1 w2 : World} (h : Still w w1) (k : Still w1 w2) : Still w w2 := h.trans k (fun _ _ f => f)

/-! ### What a slice of items reads as -/

/-- The cells us hold the items l; the blocks that they lead to are such that S holds of them. -/
def Vals (w : World) (S : Nat → Prop) : L → List Value → Prop
  | .nil, us => us = []
  | .cons nm k n s it rest, us => ∃ A c vs, us = .string nm :: .int .i64 k :: .int .i64 n :: .string s :: .slice A it.len c :: vs ∧
      (it.len = 0 ∨ ∃ b o xs, A = some ⟨b, o, none⟩ ∧ S b ∧ Vals w S it xs ∧ ∀ j u, xs[j]? = some u → w.cell? ⟨b, o + j, none⟩ = some u) ∧ Vals w S rest vs

/-- A slice that begins at A holds the items l. -/
def Sl (w : World) (S : Nat → Prop) (A : Option Addr) (l : L) : Prop :=
  l.len = 0 ∨ ∃ b o us, A = some ⟨b, o, none⟩ ∧ S b ∧ Vals w S l us ∧ ∀ j u, us[j]? = some u → w.cell? ⟨b, o + j, none⟩ = some u

theorem Vals_cons (w : World) (S : Nat → Prop) (nm : ByteArray) (k n : Int) (s : ByteArray) (it rest : L) (us : List Value) :
    Vals w S (.cons nm k n s it rest) us ↔ ∃ A c vs, us = .string nm :: .int .i64 k :: .int .i64 n :: .string s :: .slice A it.len c :: vs ∧ Sl w S A it ∧ Vals w S rest vs := Iff.rfl

theorem Vals.length {w : World} {S : Nat → Prop} : ∀ {l : L} {us : List Value}, Vals w S l us → us.length = l.len * 5
  | .nil, us, h => by cases h; rfl
  | .cons nm k n s it rest, us, h => by
    obtain ⟨A, c, vs, rfl, _, hr⟩ := h
    have := Vals.length hr
    simp [L.len, this]; omega

theorem Vals.imp {w w' : World} {S S' : Nat → Prop} (hS : ∀ b, S b → S' b) (hw : ∀ b o u, S b → w.cell? ⟨b, o, none⟩ = some u → w'.cell? ⟨b, o, none⟩ = some u) :
    ∀ {l : L} {us : List Value}, Vals w S l us → Vals w' S' l us
  | .nil, us, h => h
  | .cons nm k n s it rest, us, h => by
    obtain ⟨A, c, vs, rfl, hi, hr⟩ := h
    refine ⟨A, c, vs, rfl, ?_, Vals.imp hS hw hr⟩
    rcases hi with hi | ⟨b, o, xs, rfl, hb, hx, hc⟩
    · exact .inl hi
    · exact .inr ⟨b, o, xs, rfl, hS b hb, Vals.imp hS hw hx, fun j u hj => hw b _ u hb (hc j u hj)⟩

theorem Sl.imp {w w' : World} {S S' : Nat → Prop} (hS : ∀ b, S b → S' b) (hw : ∀ b o u, S b → w.cell? ⟨b, o, none⟩ = some u → w'.cell? ⟨b, o, none⟩ = some u)
    {A : Option Addr} {l : L} (h : Sl w S A l) : Sl w' S' A l := by
  rcases h with h | ⟨b, o, us, rfl, hb, hx, hc⟩
  · exact .inl h
  · exact .inr ⟨b, o, us, rfl, hS b hb, hx.imp hS hw, fun j u hj => hw b _ u hb (hc j u hj)⟩

/-- Behind a call that turns none of these blocks. -/
theorem Sl.tch {w w' : World} {S T : Nat → Prop} {A : Option Addr} {l : L} (h : Sl w S A l) (k : Tch T w w') (hd : ∀ b, S b → ¬ T b) : Sl w' S A l :=
  h.imp (fun _ hb => hb) (fun b _ _ hb hc => k.cell hc (hd b hb))
theorem Vals.tch {w w' : World} {S T : Nat → Prop} {us : List Value} {l : L} (h : Vals w S l us) (k : Tch T w w') (hd : ∀ b, S b → ¬ T b) : Vals w' S l us :=
  h.imp (fun _ hb => hb) (fun b _ _ hb hc => k.cell hc (hd b hb))
theorem Sl.still {w w' : World} {S : Nat → Prop} {A : Option Addr} {l : L} (h : Sl w S A l) (k : Still w w') : Sl w' S A l := h.tch k (fun _ _ f => f)
theorem Vals.still {w w' : World} {S : Nat → Prop} {us : List Value} {l : L} (h : Vals w S l us) (k : Still w w') : Vals w' S l us := h.tch k (fun _ _ f => f)
theorem Sl.weak {w : World} {S S' : Nat → Prop} {A : Option Addr} {l : L} (h : Sl w S A l) (hS : ∀ b, S b → S' b) : Sl w S' A l := h.imp hS (fun _ _ _ _ h => h)
theorem Vals.weak {w : World} {S S' : Nat → Prop} {us : List Value} {l : L} (h : Vals w S l us) (hS : ∀ b, S b → S' b) : Vals w S' l us := h.imp hS (fun _ _ _ _ h => h)
theorem Sl.nil (w : World) (S : Nat → Prop) (A : Option Addr) : Sl w S A .nil := .inl rfl

/-- What is read lies in blocks that are there. -/
theorem Vals.old {w : World} {S : Nat → Prop} : ∀ {l : L} {us : List Value}, Vals w S l us → Vals w (fun b => S b ∧ b < w.heap.size) l us
  | .nil, us, h => h
  | .cons nm k n s it rest, us, h => by
    obtain ⟨A, c, vs, rfl, hi, hr⟩ := h
    refine ⟨A, c, vs, rfl, ?_, Vals.old hr⟩
    rcases hi with hi | ⟨b, o, xs, rfl, hb, hx, hc⟩
    · exact .inl hi
    · by_cases hz : it.len = 0
      · exact .inl hz
      · have hlen := hx.length
        exact .inr ⟨b, o, xs, rfl, ⟨hb, World.block_lt_of_cell? w _ (hc 0 (xs[0]'(by omega)) (List.getElem?_eq_getElem _))⟩, Vals.old hx, hc⟩
theorem Sl.old {w : World} {S : Nat → Prop} {A : Option Addr} {l : L} (h : Sl w S A l) : Sl w (fun b => S b ∧ b < w.heap.size) A l := by
  rcases h with h | ⟨b, o, us, rfl, hb, hx, hc⟩
  · exact .inl h
  · by_cases hz : l.len = 0
    · exact .inl hz
    · have hlen := hx.length
      exact .inr ⟨b, o, us, rfl, ⟨hb, World.block_lt_of_cell? w _ (hc 0 (us[0]'(by omega)) (List.getElem?_eq_getElem _))⟩, hx.old, hc⟩
theorem Vals.app {w : World} {S : Nat → Prop} : ∀ {l m : L} {us vs : List Value}, Vals w S l us → Vals w S m vs → Vals w S (l.app m) (us ++ vs)
  | .nil, m, us, vs, h, k => by cases h; exact k
  | .cons nm _ n s it rest, m, us, vs, h, hk => by
    obtain ⟨A, c, xs, rfl, hi, hr⟩ := h
    exact ⟨A, c, xs ++ vs, rfl, hi, hr.app hk⟩

/-- The five cells of item number i. -/
theorem Vals.at {w : World} {S : Nat → Prop} : ∀ {l : L} {us : List Value} (_ : Vals w S l us) (i : Nat), i < l.len →
    ∃ A c, us[i * 5]? = some (.string (l.get i).nm) ∧ us[i * 5 + 1]? = some (.int .i64 (l.get i).k) ∧ us[i * 5 + 2]? = some (.int .i64 (l.get i).n) ∧
      us[i * 5 + 3]? = some (.string (l.get i).s) ∧ us[i * 5 + 4]? = some (.slice A (l.get i).it.len c) ∧ Sl w S A (l.get i).it
  | .nil, _, _, i, hi => by simp [L.len] at hi
  | .cons nm k n s it rest, _, h, 0, _ => by
    obtain ⟨A, c, vs, rfl, hs, _⟩ := h
    exact ⟨A, c, rfl, rfl, rfl, rfl, rfl, hs⟩
  | .cons nm k n s it rest, _, h, i + 1, hi => by
    obtain ⟨A, c, vs, rfl, _, hr⟩ := h
    obtain ⟨A', c', h0, h1, h2, h3, h4, hs⟩ := Vals.at hr i (by simp [L.len] at hi; omega)
    refine ⟨A', c', ?_, ?_, ?_, ?_, ?_, hs⟩
    · rw [show (i + 1) * 5 = (i * 5) + 5 from by omega]; exact h0
    · rw [show (i + 1) * 5 + 1 = (i * 5 + 1) + 5 from by omega]; exact h1
    · rw [show (i + 1) * 5 + 2 = (i * 5 + 2) + 5 from by omega]; exact h2
    · rw [show (i + 1) * 5 + 3 = (i * 5 + 3) + 5 from by omega]; exact h3
    · rw [show (i + 1) * 5 + 4 = (i * 5 + 4) + 5 from by omega]; exact h4

/-- A slice of items, item number i: the five cells in memory. -/
theorem Sl.at {w : World} {S : Nat → Prop} {A : Option Addr} {l : L} (h : Sl w S A l) (hl : 0 < l.len) :
    ∃ b o, A = some ⟨b, o, none⟩ ∧ S b ∧ ∀ i, i < l.len → ∃ A' c, w.cell? ⟨b, o + i * 5, none⟩ = some (.string (l.get i).nm) ∧ w.cell? ⟨b, o + i * 5 + 1, none⟩ = some (.int .i64 (l.get i).k) ∧
      w.cell? ⟨b, o + i * 5 + 2, none⟩ = some (.int .i64 (l.get i).n) ∧ w.cell? ⟨b, o + i * 5 + 3, none⟩ = some (.string (l.get i).s) ∧
      w.cell? ⟨b, o + i * 5 + 4, none⟩ = some (.slice A' (l.get i).it.len c) ∧ Sl w S A' (l.get i).it := by
  rcases h with h | ⟨b, o, us, rfl, hb, hx, hc⟩
  · omega
  · refine ⟨b, o, rfl, hb, fun i hi => ?_⟩
    obtain ⟨A', c, h0, h1, h2, h3, h4, hs⟩ := hx.at i hi
    refine ⟨A', c, hc _ _ h0, ?_, ?_, ?_, ?_, hs⟩
    · have := hc _ _ h1; rwa [← Nat.add_assoc] at this
    · have := hc _ _ h2; rwa [← Nat.add_assoc] at this
    · have := hc _ _ h3; rwa [← Nat.add_assoc] at this
    · have := hc _ _ h4; rwa [← Nat.add_assoc] at this

/-! ### What a slice of bytes reads as -/
def nb (bs : List UInt8) : List Value := bs.map fun c => .int .u8 c.toNat
theorem nb_length (bs : List UInt8) : (nb bs).length = bs.length := by simp [nb]
theorem nb_app (as bs : List UInt8) : nb (as ++ bs) = nb as ++ nb bs := by simp [nb]
theorem nb_one (bs : List UInt8) : ∀ u ∈ nb bs, u.oneCell' = true := by
  intro u hu; obtain ⟨_, _, rfl⟩ := List.mem_map.1 hu; rfl

def Bs (w : World) (S : Nat → Prop) (A : Option Addr) (bs : List UInt8) : Prop :=
  bs = [] ∨ ∃ b o, A = some ⟨b, o, none⟩ ∧ S b ∧ ∀ j (h : j < bs.length), w.cell? ⟨b, o + j, none⟩ = some (.int .u8 (bs[j]'h).toNat)
theorem Bs.imp {w w' : World} {S S' : Nat → Prop} (hS : ∀ b, S b → S' b) (hw : ∀ b o u, S b → w.cell? ⟨b, o, none⟩ = some u → w'.cell? ⟨b, o, none⟩ = some u)
    {A : Option Addr} {bs : List UInt8} (h : Bs w S A bs) : Bs w' S' A bs := by
  rcases h with h | ⟨b, o, rfl, hb, hc⟩
  · exact .inl h
  · exact .inr ⟨b, o, rfl, hS b hb, fun j hj => hw b _ _ hb (hc j hj)⟩
theorem Bs.tch {w w' : World} {S T : Nat → Prop} {A : Option Addr} {bs : List UInt8} (h : Bs w S A bs) (k : Tch T w w') (hd : ∀ b, S b → ¬ T b) : Bs w' S A bs :=
  h.imp (fun _ hb => hb) (fun b _ _ hb hc => k.cell hc (hd b hb))
theorem Bs.still {w w' : World} {S : Nat → Prop} {A : Option Addr} {bs : List UInt8} (h : Bs w S A bs) (k : Still w w') : Bs w' S A bs := h.tch k (fun _ _ f => f)
theorem Bs.weak {w : World} {S S' : Nat → Prop} {A : Option Addr} {bs : List UInt8} (h : Bs w S A bs) (hS : ∀ b, S b → S' b) : Bs w S' A bs := h.imp hS (fun _ _ _ _ h => h)
theorem Bs.nil (w : World) (S : Nat → Prop) (A : Option Addr) : Bs w S A [] := .inl rfl

/-! ### Rows of the call's own, in the form '.slice A n c' -/
theorem own_form {w : World} {base : Nat} {e : TypeId} {size : Nat} {v : Value} {n : Nat} {xs : List Value} (h : w.ownsRow base e size v n xs) : ∃ A c, v = .slice A n c := by
  rcases h.2 with ⟨rfl, rfl⟩ | ⟨g, cap, cur, rfl, _⟩
  · exact ⟨none, 0, rfl⟩
  · exact ⟨some ⟨g, 0, none⟩, cap, rfl⟩

/-- An own row of bytes reads as its bytes. -/
theorem own_bs {w : World} {base : Nat} {e : TypeId} {A : Option Addr} {c : Nat} {bs : List UInt8} (h : w.ownsRow base e 1 (.slice A bs.length c) bs.length (nb bs)) :
    Bs w (fun b => base ≤ b ∧ b < w.heap.size ∧ (Value.slice A bs.length c).ownBlock = some b) A bs := by
  have hlt := h.lt
  have hcells := @World.ownsRow.cells _ _ _ _ _ _ _ h
  rcases h.2 with ⟨hv, hn⟩ | ⟨g, cap, cur, hv, hg, hh, r⟩
  · exact .inl (List.eq_nil_of_length_eq_zero hn)
  · by_cases hb : bs = []
    · exact .inl hb
    have hA : A = some ⟨g, 0, none⟩ := by simp at hv; exact hv.1
    subst hA
    have hg' : (Value.slice (some ⟨g, 0, none⟩) bs.length c).ownBlock = some g := rfl
    refine .inr ⟨g, 0, rfl, ⟨hg, (hlt g hg').2, hg'⟩, fun j hj => ?_⟩
    have := hcells hg' j (.int .u8 (bs[j]'hj).toNat) (by simp [nb, hj])
    rw [Addr.add_lit] at this
    exact this

end Go.Proofs.Ytaeainkfllfdfaa
/- A1: The plain laws of tables: which may be (MayTable), as plain functions. No program in sight. -/
namespace Go.Proofs.Ytaeainkfllfdfaa
open Go.RowKit
set_option linter.unusedVariables false
set_option linter.unusedSimpArgs false

/-- Is a name among those that were seen? -/
def seenB (seen : List ByteArray) (nm : ByteArray) : Bool := seen.any fun x => decide (x = nm)

/-- May a value be, of which this is its kind, its number, its text's length, how many items it has, and whether these may be. -/
def kindOk (k n : Int) (ss il : Nat) (sub : Bool) : Bool :=
  if k ≠ 4 ∧ ss ≠ 0 ∨ k ≠ 5 ∧ 0 < il then false
  else if k = 1 then decide (n = 0 ∨ n = 1)
  else if k = 2 then decide (-2147483648 ≤ n ∧ n ≤ 2147483647)
  else if k = 3 then true
  else if k = 0 then decide (n = 0)
  else if k = 4 then decide (n = 0 ∧ ss ≤ 200)
  else if k = 5 then decide (n = 0) && sub
  else false

def L.mayIts : Nat → List ByteArray → L → Bool
  | _, _, .nil => true
  | d, seen, .cons nm k n s it rest =>
    (decide (1 ≤ nm.size) && decide (nm.size ≤ 40) && !seenB seen nm && kindOk k n s.size it.len (decide (d + 1 ≤ 4) && decide (it.len ≤ 32) && L.mayIts (d + 1) [] it)) && L.mayIts d (nm :: seen) rest
def L.mayTab (d : Nat) (l : L) : Bool := decide (d ≤ 4) && decide (l.len ≤ 32) && l.mayIts d []
def It.may (d : Nat) (x : It) : Bool := kindOk x.k x.n x.s.size x.it.len (x.it.mayTab (d + 1))
/-- An item may be, behind names that were seen. -/
def It.ok (d : Nat) (seen : List ByteArray) (x : It) : Bool := decide (1 ≤ x.nm.size) && decide (x.nm.size ≤ 40) && !seenB seen x.nm && x.may d
/-- The names of the first i items, the last first. -/
def L.names (l : L) : Nat → List ByteArray
  | 0 => []
  | i + 1 => (l.get i).nm :: l.names i

theorem L.mayIts_from (d : Nat) (l : L) (S : List ByteArray) : ∀ i, i ≤ l.len → (l.mayIts d S = true ↔ (∀ j, j < i → (l.get j).ok d (l.names j ++ S) = true) ∧ (l.drop i).mayIts d (l.names i ++ S) = true) := by
  induction l generalizing S with
  | nil => intro i hi; simp [L.len] at hi; subst hi; simp [L.drop, L.names, L.mayIts]
  | cons nm k n s it rest _ ih =>
    intro i hi
    have e2 : ∀ m, L.names (.cons nm k n s it rest) (m + 1) = rest.names m ++ [nm] := by
      intro m
      induction m with
      | zero => rfl
      | succ m ihm => rw [L.names, ihm]; rfl
    cases i with
    | zero => simp [L.drop, L.names]
    | succ i =>
      have h1 : L.mayIts d S (.cons nm k n s it rest) = (It.ok d S ⟨nm, k, n, s, it⟩ && L.mayIts d (nm :: S) rest) := by
        simp [L.mayIts, It.ok, It.may, L.mayTab, Bool.and_assoc]
      rw [h1, Bool.and_eq_true, ih (nm :: S) i (by simp [L.len] at hi; omega)]
      constructor
      · rintro ⟨h0, hj, hd⟩
        refine ⟨fun j hji => ?_, ?_⟩
        · cases j with
          | zero => exact h0
          | succ j => rw [e2]; have := hj j (by omega); rw [List.append_assoc]; exact this
        · rw [e2, List.append_assoc]; exact hd
      · rintro ⟨hj, hd⟩
        refine ⟨hj 0 (by omega), fun j hji => ?_, ?_⟩
        · have := hj (j + 1) (by omega); rw [e2, List.append_assoc] at this; exact this
        · rw [e2, List.append_assoc] at hd; exact hd

/-- All items may be just where none is bad. -/
theorem L.mayIts_all (d : Nat) (l : L) : l.mayIts d [] = true ↔ ∀ j, j < l.len → (l.get j).ok d (l.names j) = true := by
  rw [L.mayIts_from d l [] l.len (Nat.le_refl _)]
  have : l.drop l.len = .nil := L.len_zero (by rw [L.len_drop]; omega)
  simp [this, L.mayIts]

/-- Numbers and lengths as Go's kinds and the model's reach have them. -/
def L.Ok : L → Prop
  | .nil => True
  | .cons nm k n s it rest => (nm.size ≤ 140737488351232 ∧ s.size ≤ 140737488351232 ∧ it.len ≤ 140737488351232 ∧ -9223372036854775808 ≤ k ∧ k ≤ 9223372036854775807 ∧ -9223372036854775808 ≤ n ∧ n ≤ 9223372036854775807) ∧ it.Ok ∧ rest.Ok
def It.Ok (x : It) : Prop :=
  (x.nm.size ≤ 140737488351232 ∧ x.s.size ≤ 140737488351232 ∧ x.it.len ≤ 140737488351232 ∧ -9223372036854775808 ≤ x.k ∧ x.k ≤ 9223372036854775807 ∧ -9223372036854775808 ≤ x.n ∧ x.n ≤ 9223372036854775807) ∧ x.it.Ok
theorem L.Ok.get {l : L} (h : l.Ok) : ∀ i, i < l.len → (l.get i).Ok := by
  induction l with
  | nil => intro i hi; simp [L.len] at hi
  | cons nm k n s it rest _ ih =>
    intro i hi
    cases i with
    | zero => exact ⟨h.1, h.2.1⟩
    | succ i => exact ih h.2.2 i (by simp [L.len] at hi; omega)
theorem L.Ok.of_get {l : L} (h : ∀ i, i < l.len → (l.get i).Ok) : l.Ok := by
  induction l with
  | nil => trivial
  | cons nm k n s it rest _ ih =>
    have h0 := h 0 (by simp [L.len])
    exact ⟨h0.1, h0.2, ih fun i hi => h (i + 1) (by simp [L.len]; omega)⟩
theorem L.Ok.app {l m : L} (h : l.Ok) (k : m.Ok) : (l.app m).Ok := by
  induction l with
  | nil => exact k
  | cons nm k n s it rest _ ih => exact ⟨h.1, h.2.1, ih h.2.2⟩

/-- To prove something of every table it is enough to prove it of one whose items' tables have it. -/
theorem L.ind {P : L → Prop} (h : ∀ l, (∀ i, i < l.len → P (l.get i).it) → P l) : ∀ l, P l := by
  have : ∀ l : L, P l ∧ ∀ i, i < l.len → P (l.get i).it := by
    intro l
    induction l with
    | nil => exact ⟨h _ (fun i hi => by simp [L.len] at hi), fun i hi => by simp [L.len] at hi⟩
    | cons nm k n s it rest h1 h2 =>
      have hall : ∀ i, i < (L.cons nm k n s it rest).len → P ((L.cons nm k n s it rest).get i).it := by
        intro i hi
        cases i with
        | zero => exact h1.1
        | succ i => exact h2.2 i (by simp [L.len] at hi; omega)
      exact ⟨h _ hall, hall⟩
  exact fun l => (this l).1

end Go.Proofs.Ytaeainkfllfdfaa
