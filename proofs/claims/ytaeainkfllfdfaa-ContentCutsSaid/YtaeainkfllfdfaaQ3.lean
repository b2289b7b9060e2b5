/- Contracts of the functions that the statement reaches, each walked once, and the plain laws over them, for every input that their premises name (B4, B5, B6, A3, B7). -/
import Derived.Test.YtaeainkfllfdfaaQ2
import Derived.Lib.AppendStr
import Derived.Deep.RegionHeld3
/- B4: Appending bytes and texts to a row of bytes of the call's own; numbers put as bytes, the greatest first (value.num, method.num). -/
namespace Go.Proofs.Ytaeainkfllfdfaa
open Go.RowKit
set_option linter.unusedVariables false
set_option linter.unusedSimpArgs false
set_option maxRecDepth 100000

/-- A row of bytes of the call's own, from block base on. -/
def OwnB (w : World) (base : Nat) (A : Option Addr) (c : Nat) (bs : List UInt8) : Prop := w.ownsRow base 5 1 (.slice A bs.length c) bs.length (nb bs)
/-- The block in which a slice lies. -/
def blk (A : Option Addr) (b : Nat) : Prop := ∃ a, A = some a ∧ a.block = b
theorem ownBlock_iff (A : Option Addr) (n c b : Nat) : (Value.slice A n c).ownBlock = some b ↔ blk A b := by
  cases A <;> simp [Value.ownBlock, blk]
theorem OwnB.nil (w : World) (base : Nat) : OwnB w base none 0 [] := World.ownsRow_nil w base 5 1
theorem OwnB.tch {w w' : World} {base : Nat} {A : Option Addr} {c : Nat} {bs : List UInt8} {S : Nat → Prop} (h : OwnB w base A c bs) (k : Tch S w w') (hs : ∀ b, blk A b → ¬ S b) : OwnB w' base A c bs :=
  k.own h (fun g hg => hs g ((ownBlock_iff _ _ _ _).1 hg))
theorem OwnB.still {w w' : World} {base : Nat} {A : Option Addr} {c : Nat} {bs : List UInt8} (h : OwnB w base A c bs) (k : Still w w') : OwnB w' base A c bs := h.tch k (fun _ _ f => f)
theorem OwnB.drew {w : World} {base : Nat} {A : Option Addr} {c : Nat} {bs : List UInt8} (h : OwnB w base A c bs) : OwnB w.drew base A c bs := h
theorem OwnB.base {w : World} {base : Nat} {A : Option Addr} {c : Nat} {bs : List UInt8} (h : OwnB w base A c bs) {b : Nat} (hb : blk A b) : base ≤ b ∧ b < w.heap.size := h.lt b ((ownBlock_iff _ _ _ _).2 hb)
theorem OwnB.bs {w : World} {base : Nat} {A : Option Addr} {c : Nat} {bs : List UInt8} (h : OwnB w base A c bs) : Bs w (fun b => base ≤ b ∧ b < w.heap.size ∧ blk A b) A bs :=
  (own_bs h).weak (fun b hb => ⟨hb.1, hb.2.1, (ownBlock_iff _ _ _ _).1 hb.2.2⟩)
theorem OwnB.mono {w : World} {base base' : Nat} {A : Option Addr} {c : Nat} {bs : List UInt8} (h : OwnB w base A c bs) (hb : ∀ b, blk A b → base' ≤ b) : OwnB w base' A c bs := by
  refine ⟨h.1, ?_⟩
  rcases h.2 with h2 | ⟨g, cap, cur, hv, hg, r⟩
  · exact .inl h2
  · exact .inr ⟨g, cap, cur, hv, hb g (by simp at hv; exact ⟨_, hv.1, rfl⟩), r⟩

theorem info5 : (Try.prog.info? 5).map (fun i => (i.zero, i.size, i.bytes)) = some (some (.int .u8 0), 1, 1) := by kernel_rfl

/-- The address of an own row's slice: none, or the head of a block. -/
theorem OwnB.form {w : World} {base : Nat} {A : Option Addr} {c : Nat} {bs : List UInt8} (h : OwnB w base A c bs) : (A = none ∧ c = 0 ∧ bs = []) ∨ ∃ g, A = some ⟨g, 0, none⟩ ∧ bs.length ≤ c := by
  rcases h.2 with ⟨hv, hn⟩ | ⟨g, cap, cur, hv, hg, hh, hle, _⟩
  · simp at hv; exact .inl ⟨hv.1, hv.2.2, List.eq_nil_of_length_eq_zero hn⟩
  · simp at hv; obtain ⟨rfl, rfl⟩ := hv; exact .inr ⟨g, rfl, hle⟩

theorem run_append_zero {w : World} {base : Nat} {A : Option Addr} {c : Nat} {bs : List UInt8} (h : OwnB w base A c bs) (B : Option Addr) (cB : Nat) (ty : TypeId) :
    (Builtin.append_ #[25, 25] ty #[.slice A bs.length c, .slice B 0 cB]).run Try.prog w = .ok (.slice A bs.length c) w := by
  obtain ⟨i, hi, hz0, hz1, hz2⟩ := info_parts info5
  have hA : A = none ∨ ∃ a, A = some a := by cases A <;> simp
  have hle : bs.length ≤ c := by
    rcases h.form with ⟨_, rfl, rfl⟩ | ⟨g, _, hle⟩
    · simp
    · exact hle
  cases A with
  | none => cases B <;> simp [Builtin.append_, run_underlying Try.underlying25, sizeOf, typeInfo, hi, Builtin.lenOf, Builtin.firstCells, loadCells, loadCellsFrom, hle]
  | some a => cases B <;> simp [Builtin.append_, run_underlying Try.underlying25, sizeOf, typeInfo, hi, Builtin.lenOf, Builtin.firstCells, loadCells, loadCellsFrom, storeCells, hle]

/-- The kit's law on appending to an own row, and where the new row lies: in the old row's block, or in one that was not there. -/
theorem run_append_at {w : World} (base : Nat) (t ty e : TypeId) (i : TypeInfo) (z : Value) (size bytes : Nat) (ht : Try.prog.underlying t = some (.slice e)) (hi : Try.prog.info? e = some i) (hz : i.zero = some z)
    (hsize : i.size = size) (hby : i.bytes = bytes) (hzs : z.cells.size = size) (hsz : 0 < size)
    (v : Value) (n : Nat) (xs : List Value) (hown : w.ownsRow base e size v n xs)
    (a : Addr) (m c : Nat) (news : List Value) (hl : news.length = m * size) (hnews : ∀ j u, news[j]? = some u → w.cell? (a.add j) = some u) (h1 : ∀ u ∈ news, u.oneCell' = true)
    (h63 : n + m ≤ maxLen) (hbytes : (n + m) * bytes ≤ 140737488355328) (hbase : base ≤ w.heap.size) :
    ∃ v' w', (Builtin.append_ #[t, t] ty #[v, .slice (some a) m c]).run Try.prog w = .ok v' w' ∧ w'.ownsRow base e size v' (n + m) (xs ++ news) ∧ w.grownBy w' v.ownBlock ∧
      (∀ b, v'.ownBlock = some b → v.ownBlock = some b ∨ w.heap.size ≤ b) := by
  obtain ⟨v', w', hr, ho, hg, _⟩ := run_append_own (P := Try.prog) w base t ty e i z size bytes ht hi hz hsize hby hzs hsz v n xs hown a m c news hl hnews h1 h63 hbytes hbase
  refine ⟨v', w', hr, ho, hg, fun b hb => ?_⟩
  have hsmall : n + m ≤ 9223372036854775807 := by simp only [maxLen] at h63; omega
  rcases hown.2 with ⟨rfl, rfl⟩ | ⟨g, cap, cur, rfl, hbg, hgg, hnc, hcm, hcs, htake⟩
  · have hown2 : w.ownsRow w.heap.size e size (.slice none 0 0) 0 xs := ⟨hown.1, .inl ⟨rfl, rfl⟩⟩
    obtain ⟨v2, w2, hr2, ho2, _, _⟩ := run_append_own (P := Try.prog) w w.heap.size t ty e i z size bytes ht hi hz hsize hby hzs hsz _ 0 xs hown2 a m c news hl hnews h1 h63 hbytes (Nat.le_refl _)
    rw [hr] at hr2
    obtain ⟨rfl, rfl⟩ : v' = v2 ∧ w' = w2 := by simpa using hr2
    exact .inr (ho2.lt b hb).1
  · by_cases hroom : n + m ≤ cap
    · subst hsize
      have hfit : n * i.size + news.length ≤ cur.size := by rw [hl, hcs, ← Nat.add_mul]; exact Nat.mul_le_mul_right _ hroom
      have hr2 := run_append_room (P := Try.prog) w t ty e i ht hi g n cap cur hgg a m c news hl hnews h1 hroom hfit
      rw [hr] at hr2
      obtain ⟨rfl, _⟩ : v' = _ ∧ w' = _ := by simpa using hr2
      exact .inl hb
    · subst hsize; subst hby
      have holds : ∀ j u, xs[j]? = some u → w.cell? ((⟨g, 0, none⟩ : Addr).add j) = some u := hown.cells (g := g) rfl
      have hr2 := run_append_grow (P := Try.prog) w t ty e i z ht hi hz ⟨g, 0, none⟩ n cap xs hown.1 holds a m c news hl hnews (by omega) (by omega) (growslice_fits (by omega) hbytes)
      rw [hr] at hr2
      obtain ⟨rfl, _⟩ : v' = _ ∧ w' = _ := by simpa using hr2
      simp [Value.ownBlock] at hb
      exact .inr (by omega)
theorem run_appendS_at {w : World} (base : Nat) (ty : TypeId) (v : Value) (n : Nat) (xs : List Value) (hown : w.ownsRow base 5 1 v n xs) (s : ByteArray)
    (h63 : n + s.size ≤ maxLen) (hbytes : n + s.size ≤ 140737488355328) (hbase : base ≤ w.heap.size) :
    ∃ v' w', (Builtin.append_ #[25, 9] ty #[v, .string s]).run Try.prog w = .ok v' w' ∧ w'.ownsRow base 5 1 v' (n + s.size) (xs ++ Lib.strCells s) ∧ w.grownBy w' v.ownBlock ∧
      (∀ b, v'.ownBlock = some b → v.ownBlock = some b ∨ w.heap.size ≤ b) := by
  obtain ⟨i, hi, hz, hsize, hby⟩ := info_parts info5
  obtain ⟨v', w', hr, ho, hg, _⟩ := Lib.run_append_own_string (P := Try.prog) w base 25 9 ty 5 i Try.underlying25 Try.underlying9 hi hz hsize hby v n xs hown s h63 hbytes hbase
  refine ⟨v', w', hr, ho, hg, fun b hb => ?_⟩
  have hsmall : n + s.size ≤ 9223372036854775807 := by simp only [maxLen] at h63; omega
  rcases hown.2 with ⟨rfl, rfl⟩ | ⟨g, cap, cur, rfl, hbg, hgg, hnc, hcm, hcs, htake⟩
  · have hown2 : w.ownsRow w.heap.size 5 1 (.slice none 0 0) 0 xs := ⟨hown.1, .inl ⟨rfl, rfl⟩⟩
    obtain ⟨v2, w2, hr2, ho2, _, _⟩ := Lib.run_append_own_string (P := Try.prog) w w.heap.size 25 9 ty 5 i Try.underlying25 Try.underlying9 hi hz hsize hby _ 0 xs hown2 s h63 hbytes (Nat.le_refl _)
    rw [hr] at hr2
    obtain ⟨rfl, rfl⟩ : v' = v2 ∧ w' = w2 := by simpa using hr2
    exact .inr (ho2.lt b hb).1
  · by_cases hroom : n + s.size ≤ cap
    · have hr2 := Lib.run_append_room_string (P := Try.prog) w 25 9 ty 5 i Try.underlying25 Try.underlying9 hi hsize g n cap cur hgg s hroom (by omega)
      rw [hr] at hr2
      obtain ⟨rfl, _⟩ : v' = _ ∧ w' = _ := by simpa using hr2
      exact .inl hb
    · have holds : ∀ j u, xs[j]? = some u → w.cell? ((⟨g, 0, none⟩ : Addr).add j) = some u := hown.cells (g := g) rfl
      have hr2 := Lib.run_append_grow_string (P := Try.prog) w 25 9 ty 5 i (.int .u8 0) Try.underlying25 Try.underlying9 hi hz ⟨g, 0, none⟩ n cap xs (by rw [hsize]; exact hown.1) holds s (by omega) (by omega) (by rw [hby]; exact growslice_fits (by omega) (by omega))
      rw [hr] at hr2
      obtain ⟨rfl, _⟩ : v' = _ ∧ w' = _ := by simpa using hr2
      simp [Value.ownBlock] at hb
      exact .inr (by omega)

/-- 'append(s, x...)', s a row of bytes of the call's own, x any slice of bytes. -/
theorem wp_appB {o : Oper} {a : Act} {K : Act → World → Prop} {Q : Exit → Act → World → Prop} (w : World) (s x : Operand)
    (hop : o.op = Op.call { callee := Callee.builtin Builtin.append, args := #[s, x], argTypes := #[25, 25] })
    (base : Nat) (A : Option Addr) (c n m : Nat) (bs : List UInt8) (hs : a.eval s = .slice A n c) (hn : n = bs.length) (ho : OwnB w base A c bs) (B : Option Addr) (cB : Nat) (us : List UInt8) (hx : a.eval x = .slice B m cB) (hm : m = us.length) (S : Nat → Prop) (hB : Bs w S B us)
    (hlen : bs.length + us.length ≤ 140737488355328) (hbase : base ≤ w.heap.size)
    (hK : ∀ A' c' w', OwnB w' base A' c' (bs ++ us) → Tch (blk A) w w' → (∀ b, blk A' b → blk A b ∨ w.heap.size ≤ b) → K (a.put o.dst (.slice A' (n + m) c')) w') : o.wp Try.prog a w K Q := by
  subst hn; subst hm
  rcases hB with rfl | ⟨b, off, rfl, _, hc⟩
  · have hrun := run_append_zero ho B cB o.type
    unfold Oper.wp
    simp only [List.length_nil] at hx
    simp [execOp, hop, resolve, invoke, builtin, hs, hx, hrun, Result.andThen]
    have := hK A c w (by simpa using ho) (Tch.refl _ _) (fun b hb => .inl hb)
    rw [Oper.upon_value]
    simpa using this
  · obtain ⟨i, hi, hz0, hz1, hz2⟩ := info_parts info5
    obtain ⟨v', w', hrun, hown, hgrow, hat⟩ := run_append_at base 25 o.type 5 i (.int .u8 0) 1 1 Try.underlying25 hi hz0 hz1 hz2 rfl (by decide) (.slice A bs.length c) bs.length (nb bs) ho ⟨b, off, none⟩ us.length cB (nb us) (by simp [nb]) (by
      intro j u hj
      have hjl : j < us.length := by have := (List.getElem?_eq_some_iff.1 hj).1; simpa [nb] using this
      have := hc j hjl
      rw [Addr.add_lit, this]
      simp [nb, hjl] at hj
      rw [hj]) (nb_one us) (by unfold maxLen; omega) (by omega) hbase
    obtain ⟨A', c', rfl⟩ := own_form hown
    unfold Oper.wp
    simp [execOp, hop, resolve, invoke, builtin, hs, hx, hrun, Result.andThen]
    exact hK A' c' w' (by unfold OwnB; rw [nb_app, List.length_append]; exact hown) ((Tch.refl _ w).grown hgrow (fun k hk _ => (ownBlock_iff _ _ _ _).1 hk))
      (fun b hb => (hat b ((ownBlock_iff _ _ _ _).2 hb)).imp (fun h => (ownBlock_iff _ _ _ _).1 h) id)
theorem wpList_appB {ops : Array Oper} {rest : List Oper} {o : Oper} {a : Act} {Q : Exit → Act → World → Prop} (w : World) (hg : o.guard = none) (s x : Operand)
    (hop : o.op = Op.call { callee := Callee.builtin Builtin.append, args := #[s, x], argTypes := #[25, 25] })
    (base : Nat) (A : Option Addr) (c n m : Nat) (bs : List UInt8) (hs : a.eval s = .slice A n c) (hn : n = bs.length) (ho : OwnB w base A c bs) (B : Option Addr) (cB : Nat) (us : List UInt8) (hx : a.eval x = .slice B m cB) (hm : m = us.length) (S : Nat → Prop) (hB : Bs w S B us)
    (hlen : bs.length + us.length ≤ 140737488355328) (hbase : base ≤ w.heap.size)
    (hK : ∀ A' c' w', OwnB w' base A' c' (bs ++ us) → Tch (blk A) w w' → (∀ b, blk A' b → blk A b ∨ w.heap.size ≤ b) → wpList Try.prog ops Q rest (a.put o.dst (.slice A' (n + m) c')) w') : wpList Try.prog ops Q (o :: rest) a w :=
  wpList_plain hg fun K' hK' => wp_appB w s x hop base A c n m bs hs hn ho B cB us hx hm S hB hlen hbase fun A' c' w' h1 h2 h3 => hK' _ _ (hK A' c' w' h1 h2 h3)
theorem step_appB {ops : Array Oper} {o : Oper} {a : Act} {K : Act → World → Prop} {Q : Exit → Act → World → Prop} (w : World) (hw : Region.wanted o (yielded ops a.tmps) = true) (s x : Operand)
    (hop : o.op = Op.call { callee := Callee.builtin Builtin.append, args := #[s, x], argTypes := #[25, 25] })
    (base : Nat) (A : Option Addr) (c n m : Nat) (bs : List UInt8) (hs : a.eval s = .slice A n c) (hn : n = bs.length) (ho : OwnB w base A c bs) (B : Option Addr) (cB : Nat) (us : List UInt8) (hx : a.eval x = .slice B m cB) (hm : m = us.length) (S : Nat → Prop) (hB : Bs w S B us)
    (hlen : bs.length + us.length ≤ 140737488355328) (hbase : base ≤ w.heap.size)
    (hK : ∀ A' c' w', OwnB w' base A' c' (bs ++ us) → Tch (blk A) w w' → (∀ b, blk A' b → blk A b ∨ w.heap.size ≤ b) → K (a.put o.dst (.slice A' (n + m) c')) w') :
    if Region.wanted o (yielded ops a.tmps) = true then Oper.wp Try.prog o a w K Q else K (a.put o.dst undef) w := by
  rw [if_pos hw]; exact wp_appB w s x hop base A c n m bs hs hn ho B cB us hx hm S hB hlen hbase hK

/-- 'append(s, t...)', t a text. -/
theorem wp_appS {o : Oper} {a : Act} {K : Act → World → Prop} {Q : Exit → Act → World → Prop} (w : World) (s x : Operand)
    (hop : o.op = Op.call { callee := Callee.builtin Builtin.append, args := #[s, x], argTypes := #[25, 9] })
    (base : Nat) (A : Option Addr) (c n : Nat) (bs : List UInt8) (hs : a.eval s = .slice A n c) (hn : n = bs.length) (ho : OwnB w base A c bs) (t : ByteArray) (hx : a.eval x = .string t)
    (hlen : bs.length + t.size ≤ 140737488355328) (hbase : base ≤ w.heap.size)
    (hK : ∀ A' c' w', OwnB w' base A' c' (bs ++ t.data.toList) → Tch (blk A) w w' → (∀ b, blk A' b → blk A b ∨ w.heap.size ≤ b) → K (a.put o.dst (.slice A' (n + t.size) c')) w') : o.wp Try.prog a w K Q := by
  subst hn
  obtain ⟨v', w', hrun, hown, hgrow, hat⟩ := run_appendS_at base o.type (.slice A bs.length c) bs.length (nb bs) ho t (by unfold maxLen; omega) hlen hbase
  obtain ⟨A', c', rfl⟩ := own_form hown
  unfold Oper.wp
  simp [execOp, hop, resolve, invoke, builtin, hs, hx, hrun, Result.andThen]
  have e1 : (bs ++ t.data.toList).length = bs.length + t.size := by simp
  have e2 : nb (bs ++ t.data.toList) = nb bs ++ Lib.strCells t := by simp [nb, Lib.strCells]
  exact hK A' c' w' (by unfold OwnB; rw [e1, e2]; exact hown) ((Tch.refl _ w).grown hgrow (fun k hk _ => (ownBlock_iff _ _ _ _).1 hk))
    (fun b hb => (hat b ((ownBlock_iff _ _ _ _).2 hb)).imp (fun h => (ownBlock_iff _ _ _ _).1 h) id)
theorem wpList_appS {ops : Array Oper} {rest : List Oper} {o : Oper} {a : Act} {Q : Exit → Act → World → Prop} (w : World) (hg : o.guard = none) (s x : Operand)
    (hop : o.op = Op.call { callee := Callee.builtin Builtin.append, args := #[s, x], argTypes := #[25, 9] })
    (base : Nat) (A : Option Addr) (c n : Nat) (bs : List UInt8) (hs : a.eval s = .slice A n c) (hn : n = bs.length) (ho : OwnB w base A c bs) (t : ByteArray) (hx : a.eval x = .string t)
    (hlen : bs.length + t.size ≤ 140737488355328) (hbase : base ≤ w.heap.size)
    (hK : ∀ A' c' w', OwnB w' base A' c' (bs ++ t.data.toList) → Tch (blk A) w w' → (∀ b, blk A' b → blk A b ∨ w.heap.size ≤ b) → wpList Try.prog ops Q rest (a.put o.dst (.slice A' (n + t.size) c')) w') : wpList Try.prog ops Q (o :: rest) a w :=
  wpList_plain hg fun K' hK' => wp_appS w s x hop base A c n bs hs hn ho t hx hlen hbase fun A' c' w' h1 h2 h3 => hK' _ _ (hK A' c' w' h1 h2 h3)
theorem step_appS {ops : Array Oper} {o : Oper} {a : Act} {K : Act → World → Prop} {Q : Exit → Act → World → Prop} (w : World) (hw : Region.wanted o (yielded ops a.tmps) = true) (s x : Operand)
    (hop : o.op = Op.call { callee := Callee.builtin Builtin.append, args := #[s, x], argTypes := #[25, 9] })
    (base : Nat) (A : Option Addr) (c n : Nat) (bs : List UInt8) (hs : a.eval s = .slice A n c) (hn : n = bs.length) (ho : OwnB w base A c bs) (t : ByteArray) (hx : a.eval x = .string t)
    (hlen : bs.length + t.size ≤ 140737488355328) (hbase : base ≤ w.heap.size)
    (hK : ∀ A' c' w', OwnB w' base A' c' (bs ++ t.data.toList) → Tch (blk A) w w' → (∀ b, blk A' b → blk A b ∨ w.heap.size ≤ b) → K (a.put o.dst (.slice A' (n + t.size) c')) w') :
    if Region.wanted o (yielded ops a.tmps) = true then Oper.wp Try.prog o a w K Q else K (a.put o.dst undef) w := by
  rw [if_pos hw]; exact wp_appS w s x hop base A c n bs hs hn ho t hx hlen hbase hK

/-- A row of bytes that the call has left. -/
def RetB (base : Nat) (bs : List UInt8) (S : Nat → Prop) (w : World) (e : Ending) (w' : World) : Prop :=
  ∃ A c, e = .returned (.slice A bs.length c) ∧ OwnB w' base A c bs ∧ Tch S w w'

theorem byte_at (n : Int) (h : 0 ≤ n) (j : Nat) : n / 2 ^ (8 * j) % 256 = ((UInt8.ofNat (n.toNat / 256 ^ j)).toNat : Int) := by
  obtain ⟨m, rfl⟩ := Int.eq_ofNat_of_zero_le h
  have e : (256 : Nat) ^ j = 2 ^ (8 * j) := by rw [Nat.pow_mul]
  simp only [Int.toNat_natCast, UInt8.toNat_ofNat', e]
  rfl
theorem Bs.one {w : World} (S : Nat → Prop) (b : Nat) (u : UInt8) (hb : S b) (h : w.cell? ⟨b, 0, none⟩ = some (.int .u8 u.toNat)) : Bs w S (some ⟨b, 0, none⟩) [u] :=
  .inr ⟨b, 0, rfl, hb, fun j hj => by
    have : j = 0 := by simpa using hj
    subst this; exact h⟩
theorem new_at {W : World} {b : Nat} {v : Value} {e : TypeId} (hb : W.heap.size = b) : (W.alloc (.cells #[v] e)).cell? ⟨b, 0, none⟩ = some v := by subst hb; go_simp
theorem new_at_drew {W : World} {b : Nat} {v : Value} {e : TypeId} (hb : W.heap.size = b) : ((W.alloc (.cells #[v] e)).drew).cell? ⟨b, 0, none⟩ = some v := new_at hb
theorem u8_small (n : Nat) : IntKind.u8.wrap (n : Int) = ((UInt8.ofNat n).toNat : Int) := by
  rw [UInt8.toNat_ofNat']
  simp only [IntKind.wrap, IntKind.signed, Bool.false_and]
  rfl
theorem new_one (w : World) (v : Value) (e : TypeId) : (w.alloc (.cells #[v] e)).cell? ⟨w.heap.size, 0, none⟩ = some v := by go_simp

/-- A row of bytes, once at A, that has grown: it lies where it lay, or in a block that was not there; nothing else has turned. -/
def RetA (base : Nat) (A : Option Addr) (bs : List UInt8) (w : World) (e : Ending) (w' : World) : Prop :=
  ∃ A' c, e = .returned (.slice A' bs.length c) ∧ OwnB w' base A' c bs ∧ Tch (blk A) w w' ∧ ∀ b, blk A' b → blk A b ∨ w.heap.size ≤ b

set_option maxHeartbeats 1000000 in
theorem num75 (A : Option Addr) (c : Nat) (bs : List UInt8) (n : Int) (k : Nat) (K : Int) (base : Nat) (m : Nat) (w : World) (hm : m = bs.length) (hK : K = k) (hk : k ≤ 8) (hn0 : 0 ≤ n) (hn : n < 18446744073709551616) (ho : OwnB w base A c bs) (hb : base ≤ w.heap.size) (hlen : bs.length + k ≤ 140737488355328) :
    Calls Try.prog 75 #[.slice A m c, .int .u64 n, .int .i64 K] w (RetA base A (bs ++ be n.toNat k) w) := by
  subst hK; subst hm
  have HO := Kp.mk ho; clear ho
  have HQ := Kp.mk (fun j => byte_at n hn0 j)
  have hkb := be_length n.toNat k
  have HKB := Kp.mk hkb; clear hkb
  go_enter Try.func75, Try.ntmps75
  go_wp2_with fail
  go_loopw [0, 2] (fun v i wr => ∃ (j : Nat) (A' : Option Addr) (c' : Nat) (ds : List UInt8), j ≤ k ∧ i = .int .i64 ((j : Int) - 1) ∧ v = .slice A' ds.length c' ∧ Kp (ds ++ be n.toNat j = bs ++ be n.toNat k) ∧ Kp (OwnB wr base A' c' ds) ∧ Kp (Tch (blk A) w wr) ∧ Kp (∀ b, blk A' b → blk A b ∨ w.heap.size ≤ b)) (fun _ i _ => (intOf i + 1).toNat)
  case atStart => exact ⟨k, A, c, bs, by omega, by go_num, rfl, ⟨rfl⟩, HO, ⟨Tch.refl _ _⟩, ⟨fun b hb => .inl hb⟩⟩
  case round =>
    obtain ⟨j, A', c', ds, hj, rfl, rfl, HE, HW, HT, HB⟩ := hrel
    cases j with
    | zero =>
      have he := HE.out
      simp only [be, List.append_nil] at he
      subst he
      go_wp2_with fail
      go_ret
      exact ⟨A', c', rfl, HW.out, HT.out, HB.out⟩
    | succ j =>
      have g0 : (0 : Int) ≤ ((j + 1 : Nat) : Int) - 1 := by omega
      have hsz : ds.length + (j + 1) = bs.length + k := by have := congrArg List.length HE.out; simpa [be_length] using this
      have hbr : base ≤ wr.heap.size := Nat.le_trans hb HT.out.size
      go_wp2_with (at_builtin; (refine wpList_appB _ rfl _ _ rfl base A' c' _ 1 ds rfl rfl (HW.out.still ((Still.refl wr).alloc _)) (some ⟨wr.heap.size, 0, none⟩) 1 [UInt8.ofNat (n.toNat / 256 ^ j)] rfl rfl (fun _ => True) ?_ ?_ ?_ ?_); (rw [HQ.out]; exact Bs.one _ _ _ trivial (new_one _ _ _)); (simp only [List.length_cons, List.length_nil]; omega); (simp only [World.size_alloc]; omega); intro A2 c2 w2 ho2 ht2 hat2; have HO2 := Kp.mk ho2; have HT2 := Kp.mk ht2; have HA2 := Kp.mk hat2; clear ho2 ht2 hat2)
      go_roundw
      case rel =>
        refine ⟨j, A2, c2, ds ++ [UInt8.ofNat (n.toNat / 256 ^ j)], by omega, by go_num, by simp, ⟨?_⟩, HO2, ⟨?_⟩, ⟨?_⟩⟩
        · rw [← HE.out]; simp [be]
        · exact (HT.out.alloc _).trans HT2.out (fun b hb e => (HB.out b e).resolve_right (by omega))
        · intro b hb
          rcases HA2.out b hb with h | h
          · exact HB.out b h
          · have := HT.out.size; simp only [World.size_alloc] at h; exact .inr (by omega)
      case measure => go_light; simp only [intOf]; omega
end Go.Proofs.Ytaeainkfllfdfaa
/- B5: The contracts of value.put, value.table, value.Put: the bytes of a table. -/
namespace Go.Proofs.Ytaeainkfllfdfaa
open Go.RowKit
set_option linter.unusedVariables false
set_option linter.unusedSimpArgs false
set_option maxRecDepth 100000

def TabC (l : L) : Prop := ∀ (A : Option Addr) (c : Nat) (S : Nat → Prop) (w : World), l.len ≤ 140737488351232 → l.Ok → l.Kinds → l.enc.length ≤ 1099511627776 → Sl w S A l →
  Calls Try.prog 41 #[.slice A l.len c] w (RetB w.heap.size l.enc (fun _ => False) w)
theorem TabC.use {l : L} (h : TabC l) (A : Option Addr) (c : Nat) (S : Nat → Prop) (w : World) (h1 : l.len ≤ 140737488351232) (h2 : l.Ok) (h3 : l.Kinds) (h4 : l.enc.length ≤ 1099511627776) (h5 : Sl w S A l) :
  Calls Try.prog 41 #[.slice A l.len c] w (RetB w.heap.size l.enc (fun _ => False) w) := h A c S w h1 h2 h3 h4 h5

/-- A value that was boxed stays while a row of the call's own, older than the box, grows. -/
theorem boxKept {w w1 : World} {base : Nat} {A : Option Addr} {c : Nat} {bs : List UInt8} (ho : OwnB w base A c bs) {cs : Array Value} {e : TypeId} {o2 : Obj} (ht : Tch (blk A) ((w.alloc (.cells cs e)).alloc o2) w1)
    (j : Nat) (v : Value) (hj : cs[j]? = some v) : w1.cell? ⟨w.heap.size, j, none⟩ = some v := by
  refine ht.cell (((Still.refl _).alloc o2).scell (w := w.alloc (.cells cs e)) ?_) (fun hb => ?_)
  · rw [cell_of_row _ w.heap.size j cs e (0, 0) (heap_alloc_new w _)]; exact hj
  · have := (ho.base hb).2; simp at this

/-- The first step of put: the letter. -/
theorem putL (bs : List UInt8) (k n : Int) (s : ByteArray) (tb : List UInt8) : ∃ us, encBody k n s tb = letter k :: us := ⟨_, rfl⟩

set_option maxHeartbeats 2000000 in
theorem put0 (n : Int) (s : ByteArray) (il : Nat) (A : Option Addr) (c : Nat) (bs : List UInt8) (base : Nat) (B : Option Addr) (cB : Nat) (w : World) (ho : OwnB w base A c bs) (hb : base ≤ w.heap.size) (hlen : bs.length + 1 ≤ 1099511627776) :
    Calls Try.prog 74 #[.slice A bs.length c, .agg #[.int .i64 0, .int .i64 n, .string s, .slice B il cB]] w (RetB base (bs ++ [86]) (base ≤ ·) w) := by
  have HO := Kp.mk ho; clear ho
  go_enter Try.func74, Try.ntmps74
  go_wp2_with (at_builtin; (refine wpList_appB _ rfl _ _ rfl base A c _ 1 bs rfl rfl (HO.out.still (((Still.refl w).alloc _).alloc _)) (some ⟨w.heap.size + 1, 0, none⟩) 1 [86] rfl rfl (fun _ => True) ?_ ?_ ?_ ?_); (refine Bs.one _ _ _ trivial (new_at ?_)); (simp only [World.size_alloc]); (simp only [List.length_cons, List.length_nil]; omega); (simp only [World.size_alloc]; omega); intro A1 c1 w1 ho1 ht1 hat1; have HO1 := Kp.mk ho1; have HT1 := Kp.mk ((((Still.refl w).alloc _).alloc _).of_still.trans ht1 (T := blk A) (S := (base ≤ ·)) (fun b _ hb => (HO.out.base hb).1)); have HA1 := Kp.mk (hat1); have p0 := boxKept HO.out ht1 0 _ rfl; have p1 := boxKept HO.out ht1 1 _ rfl; have p2 := boxKept HO.out ht1 2 _ rfl; have p3 := boxKept HO.out ht1 3 _ rfl; have hz1 : base ≤ w1.heap.size := Nat.le_trans hb HT1.out.size; clear ho1 ht1 hat1)
  go_ret
  exact ⟨A1, c1, by simp, HO1.out, HT1.out⟩
set_option maxHeartbeats 2000000 in
theorem put1 (n : Int) (s : ByteArray) (il : Nat) (A : Option Addr) (c : Nat) (bs : List UInt8) (base : Nat) (B : Option Addr) (cB : Nat) (w : World) (ho : OwnB w base A c bs) (hb : base ≤ w.heap.size) (hlen : bs.length + 2 ≤ 1099511627776) :
    Calls Try.prog 74 #[.slice A bs.length c, .agg #[.int .i64 1, .int .i64 n, .string s, .slice B il cB]] w (RetB base (bs ++ [116] ++ [UInt8.ofNat (n % 256).toNat]) (base ≤ ·) w) := by
  have HO := Kp.mk ho; clear ho
  have HN := Kp.mk (show n % 256 = ((UInt8.ofNat (n % 256).toNat).toNat : Int) by
    have h1 := Int.emod_nonneg n (show (256 : Int) ≠ 0 by omega)
    have h2 := Int.emod_lt_of_pos n (show (0 : Int) < 256 by omega)
    rw [UInt8.toNat_ofNat']; omega)
  go_enter Try.func74, Try.ntmps74
  go_wp2_with (first | (at_builtin; (refine wpList_appB _ rfl _ _ rfl base A c _ 1 bs rfl rfl (HO.out.still (((Still.refl w).alloc _).alloc _)) (some ⟨w.heap.size + 1, 0, none⟩) 1 [116] rfl rfl (fun _ => True) ?_ ?_ ?_ ?_); (refine Bs.one _ _ _ trivial (new_at ?_)); (simp only [World.size_alloc]); (simp only [List.length_cons, List.length_nil]; omega); (simp only [World.size_alloc]; omega); intro A1 c1 w1 ho1 ht1 hat1; have HO1 := Kp.mk ho1; have HT1 := Kp.mk ((((Still.refl w).alloc _).alloc _).of_still.trans ht1 (T := blk A) (S := (base ≤ ·)) (fun b _ hb => (HO.out.base hb).1)); have HA1 := Kp.mk (hat1); have p0 := boxKept HO.out ht1 0 _ rfl; have p1 := boxKept HO.out ht1 1 _ rfl; have p2 := boxKept HO.out ht1 2 _ rfl; have p3 := boxKept HO.out ht1 3 _ rfl; have hz1 : base ≤ w1.heap.size := Nat.le_trans hb HT1.out.size; clear ho1 ht1 hat1) | (at_builtin; (refine wpList_appB _ rfl _ _ rfl base A1 c1 _ 1 (bs ++ [116]) rfl ?_ (HO1.out.still ((Still.refl w1).alloc _)) (some ⟨w1.heap.size, 0, none⟩) 1 [UInt8.ofNat (n % 256).toNat] rfl rfl (fun _ => True) ?_ ?_ ?_ ?_); (simp); (refine Bs.one _ _ _ trivial ?_); (rw [← HN.out]; exact new_one _ _ _); (simp only [List.length_append, List.length_cons, List.length_nil]; omega); (simp only [World.size_alloc]; omega); intro A2 c2 w2 ho2 ht2 hat2; have HO2 := Kp.mk ho2; have HT2 := Kp.mk ((HT1.out.alloc _).trans ht2 (fun b _ hb => (HO1.out.base hb).1)); clear ho2 ht2 hat2))
  go_ret
  exact ⟨A2, c2, by simp, HO2.out, HT2.out⟩
set_option maxHeartbeats 2000000 in
theorem put2 (n : Int) (s : ByteArray) (il : Nat) (A : Option Addr) (c : Nat) (bs : List UInt8) (base : Nat) (B : Option Addr) (cB : Nat) (w : World) (ho : OwnB w base A c bs) (hb : base ≤ w.heap.size) (hlen : bs.length + 5 ≤ 1099511627776) :
    Calls Try.prog 74 #[.slice A bs.length c, .agg #[.int .i64 2, .int .i64 n, .string s, .slice B il cB]] w (RetB base (bs ++ [73] ++ be (u64w n) 4) (base ≤ ·) w) := by
  have HO := Kp.mk ho; clear ho
  have HU := Kp.mk (u64w_eq n)
  go_enter Try.func74, Try.ntmps74
  go_wp2_with (at_builtin; (refine wpList_appB _ rfl _ _ rfl base A c _ 1 bs rfl rfl (HO.out.still (((Still.refl w).alloc _).alloc _)) (some ⟨w.heap.size + 1, 0, none⟩) 1 [73] rfl rfl (fun _ => True) ?_ ?_ ?_ ?_); (refine Bs.one _ _ _ trivial (new_at ?_)); (simp only [World.size_alloc]); (simp only [List.length_cons, List.length_nil]; omega); (simp only [World.size_alloc]; omega); intro A1 c1 w1 ho1 ht1 hat1; have HO1 := Kp.mk ho1; have HT1 := Kp.mk ((((Still.refl w).alloc _).alloc _).of_still.trans ht1 (T := blk A) (S := (base ≤ ·)) (fun b _ hb => (HO.out.base hb).1)); have HA1 := Kp.mk (hat1); have p0 := boxKept HO.out ht1 0 _ rfl; have p1 := boxKept HO.out ht1 1 _ rfl; have p2 := boxKept HO.out ht1 2 _ rfl; have p3 := boxKept HO.out ht1 3 _ rfl; have hz1 : base ≤ w1.heap.size := Nat.le_trans hb HT1.out.size; clear ho1 ht1 hat1)
  rw [HU.out]
  refine (num75 A1 c1 (bs ++ [73]) _ 4 _ base _ w1 (by simp) rfl (by omega) (by omega) (u64w_lt n) HO1.out hz1 (by simp only [List.length_append, List.length_cons, List.length_nil]; omega)).mono ?_
  rintro e w2 ⟨A2, c2, rfl, ho2, ht2, _⟩
  have HO2 := Kp.mk ho2
  have HT2 := Kp.mk (HT1.out.trans ht2 (fun b _ hb => (HO1.out.base hb).1))
  clear ho2 ht2
  go_wp2_with fail
  go_ret
  exact ⟨A2, c2, by simp, HO2.out, HT2.out⟩
set_option maxHeartbeats 2000000 in
theorem put3 (n : Int) (s : ByteArray) (il : Nat) (A : Option Addr) (c : Nat) (bs : List UInt8) (base : Nat) (B : Option Addr) (cB : Nat) (w : World) (ho : OwnB w base A c bs) (hb : base ≤ w.heap.size) (hlen : bs.length + 9 ≤ 1099511627776) :
    Calls Try.prog 74 #[.slice A bs.length c, .agg #[.int .i64 3, .int .i64 n, .string s, .slice B il cB]] w (RetB base (bs ++ [108] ++ be (u64w n) 8) (base ≤ ·) w) := by
  have HO := Kp.mk ho; clear ho
  have HU := Kp.mk (u64w_eq n)
  go_enter Try.func74, Try.ntmps74
  go_wp2_with (at_builtin; (refine wpList_appB _ rfl _ _ rfl base A c _ 1 bs rfl rfl (HO.out.still (((Still.refl w).alloc _).alloc _)) (some ⟨w.heap.size + 1, 0, none⟩) 1 [108] rfl rfl (fun _ => True) ?_ ?_ ?_ ?_); (refine Bs.one _ _ _ trivial (new_at ?_)); (simp only [World.size_alloc]); (simp only [List.length_cons, List.length_nil]; omega); (simp only [World.size_alloc]; omega); intro A1 c1 w1 ho1 ht1 hat1; have HO1 := Kp.mk ho1; have HT1 := Kp.mk ((((Still.refl w).alloc _).alloc _).of_still.trans ht1 (T := blk A) (S := (base ≤ ·)) (fun b _ hb => (HO.out.base hb).1)); have HA1 := Kp.mk (hat1); have p0 := boxKept HO.out ht1 0 _ rfl; have p1 := boxKept HO.out ht1 1 _ rfl; have p2 := boxKept HO.out ht1 2 _ rfl; have p3 := boxKept HO.out ht1 3 _ rfl; have hz1 : base ≤ w1.heap.size := Nat.le_trans hb HT1.out.size; clear ho1 ht1 hat1)
  rw [HU.out]
  refine (num75 A1 c1 (bs ++ [108]) _ 8 _ base _ w1 (by simp) rfl (by omega) (by omega) (u64w_lt n) HO1.out hz1 (by simp only [List.length_append, List.length_cons, List.length_nil]; omega)).mono ?_
  rintro e w2 ⟨A2, c2, rfl, ho2, ht2, _⟩
  have HO2 := Kp.mk ho2
  have HT2 := Kp.mk (HT1.out.trans ht2 (fun b _ hb => (HO1.out.base hb).1))
  clear ho2 ht2
  go_wp2_with fail
  go_ret
  exact ⟨A2, c2, by simp, HO2.out, HT2.out⟩
set_option maxHeartbeats 2000000 in
theorem put5 (n : Int) (s : ByteArray) (it : L) (hC : TabC it) (hO : it.Ok) (hKd : it.Kinds) (hil : it.len ≤ 140737488351232) (A : Option Addr) (c : Nat) (bs : List UInt8) (base : Nat) (B : Option Addr) (cB : Nat) (S : Nat → Prop) (w : World) (ho : OwnB w base A c bs) (hb : base ≤ w.heap.size)
    (hS : Sl w S B it) (hSb : ∀ b, S b → b < base) (hlen : bs.length + (1 + it.enc.length) ≤ 1099511627776) :
    Calls Try.prog 74 #[.slice A bs.length c, .agg #[.int .i64 5, .int .i64 n, .string s, .slice B it.len cB]] w (RetB base (bs ++ [70] ++ it.enc) (base ≤ ·) w) := by
  have HO := Kp.mk ho; clear ho
  have HS := Kp.mk hS; clear hS
  have HSB := Kp.mk hSb; clear hSb
  have HC := Kp.mk hC; clear hC
  have HQ := Kp.mk hO; clear hO
  have HKD := Kp.mk hKd; clear hKd
  go_enter Try.func74, Try.ntmps74
  go_wp2_with (at_builtin; (refine wpList_appB _ rfl _ _ rfl base A c _ 1 bs rfl rfl (HO.out.still (((Still.refl w).alloc _).alloc _)) (some ⟨w.heap.size + 1, 0, none⟩) 1 [70] rfl rfl (fun _ => True) ?_ ?_ ?_ ?_); (refine Bs.one _ _ _ trivial (new_at ?_)); (simp only [World.size_alloc]); (simp only [List.length_cons, List.length_nil]; omega); (simp only [World.size_alloc]; omega); intro A1 c1 w1 ho1 ht1 hat1; have HO1 := Kp.mk ho1; have HT1 := Kp.mk ((((Still.refl w).alloc _).alloc _).of_still.trans ht1 (T := blk A) (S := (base ≤ ·)) (fun b _ hb => (HO.out.base hb).1)); have HA1 := Kp.mk (hat1); have p0 := boxKept HO.out ht1 0 _ rfl; have p1 := boxKept HO.out ht1 1 _ rfl; have p2 := boxKept HO.out ht1 2 _ rfl; have p3 := boxKept HO.out ht1 3 _ rfl; have hz1 : base ≤ w1.heap.size := Nat.le_trans hb HT1.out.size; clear ho1 ht1 hat1)
  have HS1 := Kp.mk (HS.out.tch HT1.out (fun b h1 h2 => by have := HSB.out b h1; omega))
  refine (HC.out.use B cB S _ hil HQ.out HKD.out (by omega) HS1.out).mono ?_
  rintro e w2 ⟨A2, c2, rfl, ho2, ht2⟩
  have HO2 := Kp.mk ho2
  have HO1' := Kp.mk (HO1.out.still ht2)
  have HT2 := Kp.mk (HT1.out.still ht2)
  have hz2 : base ≤ w2.heap.size := Nat.le_trans hz1 ht2.size
  clear ho2 ht2
  go_wp2_with (at_builtin; (refine wpList_appB _ rfl _ _ rfl base A1 c1 _ _ (bs ++ [70]) rfl ?_ HO1'.out A2 c2 it.enc rfl rfl _ HO2.out.bs ?_ hz2 ?_); (simp); (simp only [List.length_append, List.length_cons, List.length_nil]; omega); intro A3 c3 w3 ho3 ht3 hat3; have HO3 := Kp.mk ho3; have HT3 := Kp.mk (HT2.out.trans ht3 (fun b _ hb => (HO1'.out.base hb).1)); clear ho3 ht3 hat3)
  go_ret
  exact ⟨A3, c3, by simp; omega, HO3.out, HT3.out⟩
set_option maxHeartbeats 2000000 in
theorem put4 (n : Int) (s : ByteArray) (il : Nat) (A : Option Addr) (c : Nat) (bs : List UInt8) (base : Nat) (B : Option Addr) (cB : Nat) (w : World) (ho : OwnB w base A c bs) (hb : base ≤ w.heap.size) (hs : s.size ≤ 140737488351232) (hlen : bs.length + (5 + s.size) ≤ 1099511627776) :
    Calls Try.prog 74 #[.slice A bs.length c, .agg #[.int .i64 4, .int .i64 n, .string s, .slice B il cB]] w (RetB base (bs ++ [83] ++ be s.size 4 ++ s.data.toList) (base ≤ ·) w) := by
  have HO := Kp.mk ho; clear ho
  go_enter Try.func74, Try.ntmps74
  go_wp2_with (at_builtin; (refine wpList_appB _ rfl _ _ rfl base A c _ 1 bs rfl rfl (HO.out.still (((Still.refl w).alloc _).alloc _)) (some ⟨w.heap.size + 1, 0, none⟩) 1 [83] rfl rfl (fun _ => True) ?_ ?_ ?_ ?_); (refine Bs.one _ _ _ trivial (new_at ?_)); (simp only [World.size_alloc]); (simp only [List.length_cons, List.length_nil]; omega); (simp only [World.size_alloc]; omega); intro A1 c1 w1 ho1 ht1 hat1; have HO1 := Kp.mk ho1; have HT1 := Kp.mk ((((Still.refl w).alloc _).alloc _).of_still.trans ht1 (T := blk A) (S := (base ≤ ·)) (fun b _ hb => (HO.out.base hb).1)); have HA1 := Kp.mk (hat1); have p0 := boxKept HO.out ht1 0 _ rfl; have p1 := boxKept HO.out ht1 1 _ rfl; have p2 := boxKept HO.out ht1 2 _ rfl; have p3 := boxKept HO.out ht1 3 _ rfl; have hz1 : base ≤ w1.heap.size := Nat.le_trans hb HT1.out.size; clear ho1 ht1 hat1)
  have hbk : ∀ b, blk A1 b → b ≠ w.heap.size := fun b hb e => by
    rcases HA1.out b hb with h | h
    · have := (HO.out.base h).2; omega
    · simp only [World.size_alloc] at h; omega
  have HBK := Kp.mk hbk; clear hbk
  clear p0 p1 p3
  have hwr := u64_small s.size (by omega)
  go_region_held3 (fun W => W.cell? ⟨w.heap.size, 2, none⟩ = some (.string s)) (first | exact p2 | exact hq2 | exact hq3)
    (first
     | (go_simp; go_at_call 75; refine (num75 A1 c1 (bs ++ [83]) _ 4 _ base _ _ (by simp) rfl (by omega) (by omega) (by omega) (OwnB.drew HO1.out) hz1 (by simp only [List.length_append, List.length_cons, List.length_nil]; omega)).mono ?_; rintro e w2 ⟨A2, c2, rfl, ho2, ht2, hat2⟩; have HO2 := Kp.mk ho2; have hq2 := ht2.cell (a := ⟨w.heap.size, 2, none⟩) (v := .string s) p2 (fun h => HBK.out _ h rfl); have HT2 := Kp.mk (HT1.out.drew.trans ht2 (fun b _ hb => (HO1.out.base hb).1)); have hz2 : base ≤ w2.heap.size := Nat.le_trans hz1 ht2.size; have hbk2 : ∀ b, blk A2 b → b ≠ w.heap.size := (fun b hb e => by rcases hat2 b hb with h | h; exact HBK.out b h e; (have h0 := HT1.out.size; have h1 := World.block_lt_of_cell? w1 _ p2; (have h2 : w1.heap.size ≤ b := h); simp only at h1; omega)); have HBK2 := Kp.mk hbk2; clear ho2 ht2 hat2 hbk2)
     | (refine step_appS _ (by rfl) _ _ rfl base A2 c2 _ (bs ++ [83] ++ be s.size 4) (by rfl) ?_ HO2.out s (by rfl) ?_ hz2 ?_; (simp [be_length]); (simp only [List.length_append, List.length_cons, List.length_nil, be_length]; omega); intro A3 c3 w3 ho3 ht3 hat3; have HO3 := Kp.mk ho3; have hq3 := ht3.cell (a := ⟨w.heap.size, 2, none⟩) (v := .string s) hq2 (fun h => HBK2.out _ h rfl); have HT3 := Kp.mk (HT2.out.trans ht3 (fun b _ hb => (HO2.out.base hb).1)); clear ho3 ht3 hat3))
  go_wp2_with fail

  go_ret
  exact ⟨A3, c3, by simp [be_length]; omega, HO3.out, HT3.out⟩

theorem putC (x : It) (hC : TabC x.it) (hO : x.Ok) (hKd : x.Kinds) (A : Option Addr) (c m : Nat) (bs : List UInt8) (base : Nat) (B : Option Addr) (cB : Nat) (S : Nat → Prop) (w : World) (hm : m = bs.length) (ho : OwnB w base A c bs) (hb : base ≤ w.heap.size)
    (hS : Sl w S B x.it) (hSb : ∀ b, S b → b < base) (hlen : bs.length + x.encV.length ≤ 1099511627776) :
    Calls Try.prog 74 #[.slice A m c, .agg #[.int .i64 x.k, .int .i64 x.n, .string x.s, .slice B x.it.len cB]] w (RetB base (bs ++ x.encV) (base ≤ ·) w) := by
  subst hm
  obtain ⟨nm, k, n, s, it⟩ := x
  obtain ⟨⟨hk0, hk5⟩, hKi⟩ := hKd
  obtain ⟨⟨q1, q2, q3, q4, q5, q6, q7⟩, q8⟩ := hO
  simp only at *
  have hk : k = 0 ∨ k = 1 ∨ k = 2 ∨ k = 3 ∨ k = 4 ∨ k = 5 := by omega
  rcases hk with rfl | rfl | rfl | rfl | rfl | rfl
  · have h := put0 n s it.len A c bs base B cB w ho hb (by simp [It.encV, encBody] at hlen; omega)
    simpa [It.encV, encBody, letter] using h
  · have h := put1 n s it.len A c bs base B cB w ho hb (by simp [It.encV, encBody] at hlen; omega)
    simpa [It.encV, encBody, letter] using h
  · have h := put2 n s it.len A c bs base B cB w ho hb (by simp [It.encV, encBody, be_length] at hlen; omega)
    simpa [It.encV, encBody, letter] using h
  · have h := put3 n s it.len A c bs base B cB w ho hb (by simp [It.encV, encBody, be_length] at hlen; omega)
    simpa [It.encV, encBody, letter] using h
  · have h := put4 n s it.len A c bs base B cB w ho hb q2 (by simp [It.encV, encBody, be_length] at hlen; omega)
    simpa [It.encV, encBody, letter] using h
  · have h := put5 n s it hC q8 hKi q3 A c bs base B cB S w ho hb hS hSb (by simp [It.encV, encBody] at hlen; omega)
    simpa [It.encV, encBody, letter] using h

end Go.Proofs.Ytaeainkfllfdfaa
/- B6: The contracts of value.table and value.Put: the bytes of a table. -/
namespace Go.Proofs.Ytaeainkfllfdfaa
open Go.RowKit
set_option linter.unusedVariables false
set_option linter.unusedSimpArgs false
set_option maxRecDepth 100000
set_option maxHeartbeats 4000000 in
theorem tabC : ∀ l, TabC l := L.ind fun l ih => by
  intro A c S w hl hO hKd hlen hS
  have hlen' : 4 + l.encI.length ≤ 1099511627776 := by simpa [L.enc, be_length] using hlen
  have HI := Kp.mk ih; clear ih
  have HO := Kp.mk hO; clear hO
  have HKD := Kp.mk hKd; clear hKd
  have HS := Kp.mk hS.old; clear hS
  go_enter Try.func41, Try.ntmps41
  go_wp2_with fail
  go_loopw [3, 8] (fun v i wr => ∃ (k : Nat) (A' : Option Addr) (c' : Nat), k ≤ l.len ∧ i = .int .i64 k ∧ v = .slice A' (l.take k).encI.length c' ∧ Kp (OwnB wr w.heap.size A' c' (l.take k).encI) ∧ Kp (Still w wr)) (fun _ i _ => l.len - (intOf i).toNat)
  case atStart => exact ⟨0, none, 0, by omega, rfl, rfl, ⟨OwnB.nil _ _⟩, ⟨Still.refl w⟩⟩
  case round =>
    obtain ⟨k, A', c', hk, rfl, rfl, HW, HT⟩ := hrel
    by_cases hlt : k < l.len
    · obtain ⟨b, o, rfl, hSb, hat⟩ := (HS.out.still HT.out).at (by omega)
      obtain ⟨B, cB, q0, q1, q2, q3, q4, hs⟩ := hat k hlt
      clear hat
      have Hs := Kp.mk hs; clear hs
      have hle := L.encI_le l (k + 1)
      rw [L.encI_succ l k hlt, List.length_append, It.enc_length] at hle
      generalize hbs : (l.take k).encI = bs at *
      have HBS := Kp.mk hbs; clear hbs
      have hsz := HT.out.size
      go_wp2_with fail
      have f0 : (wr.alloc (Obj.cells #[Value.string (l.get k).nm, Value.int IntKind.i64 (l.get k).k, Value.int IntKind.i64 (l.get k).n, Value.string (l.get k).s, Value.slice B (l.get k).it.len cB] 37)).cell? ⟨wr.heap.size, 0, none⟩ = some (Value.string (l.get k).nm) := by go_simp
      have g0 := fun o => ((Still.refl _).alloc o).scell f0
      have HU8 := Kp.mk (u8_small (l.get k).nm.size)
      have hbk : ∀ b, blk A' b → b < wr.heap.size := fun b hb => (HW.out.base hb).2
      have HBK := Kp.mk hbk; clear hbk
      go_region_held3 (fun W => W.cell? ⟨wr.heap.size, 0, none⟩ = some (.string (l.get k).nm)) (first | exact f0 | exact g0 _ | exact hq2 | exact hq3)
        (first
         | (refine step_appB _ (by rfl) _ _ rfl w.heap.size A' c' _ 1 bs (by rfl) rfl (HW.out.still ((((Still.refl wr).alloc _).alloc _).drew)) (some ⟨wr.heap.size + 1, 0, none⟩) 1 [UInt8.ofNat (l.get k).nm.size] (by rfl) rfl (fun _ => True) ?_ ?_ ?_ ?_; (refine Bs.one _ _ _ trivial ?_); (rw [← HU8.out]); (exact new_at_drew (World.size_alloc _ _)); (simp only [List.length_cons, List.length_nil]; omega); (exact Nat.le_trans hsz ((((Still.refl wr).alloc _).alloc _).drew).size); intro A2 c2 w2 ho2 ht2 hat2; have HO2 := Kp.mk ho2; have hq2 := ht2.cell (g0 _) (fun h => by have := HBK.out _ h; simp at this); have HT2 := Kp.mk ((((Still.refl wr).alloc _).alloc _).drew.of_still.trans ht2 (T := blk A') (S := (w.heap.size ≤ ·)) (fun b _ h => (HW.out.base h).1)); have HC2 := Kp.mk (fun j v (hj : _) => ht2.cell (a := ⟨wr.heap.size, j, none⟩) (v := v) hj (fun h => by have := HBK.out _ h; simp at this)); have hbk2 : ∀ b, blk A2 b → b ≠ wr.heap.size := (fun b hb e => by rcases hat2 b hb with h | h; (have := HBK.out b h; omega); (simp only [World.size_drew, World.size_alloc] at h; omega)); have HBK2 := Kp.mk hbk2; have hz2 : w.heap.size ≤ w2.heap.size := Nat.le_trans hsz HT2.out.size; clear ho2 ht2 hat2 hbk2)
         | (refine step_appS _ (by rfl) _ _ rfl w.heap.size A2 c2 _ (bs ++ [UInt8.ofNat (l.get k).nm.size]) (by rfl) ?_ HO2.out (l.get k).nm (by rfl) ?_ hz2 ?_; (simp); (simp only [List.length_append, List.length_cons, List.length_nil]; omega); intro A3 c3 w3 ho3 ht3 hat3; have HO3 := Kp.mk ho3; have hq3 := ht3.cell (a := ⟨wr.heap.size, 0, none⟩) (v := .string (l.get k).nm) hq2 (fun h => HBK2.out _ h rfl); have HC3 := Kp.mk (fun j v (hj : _) => ht3.cell (a := ⟨wr.heap.size, j, none⟩) (v := v) hj (fun h => HBK2.out _ h rfl)); have HT3 := Kp.mk (HT2.out.trans ht3 (T := blk A2) (S := (w.heap.size ≤ ·)) (fun b _ h => (HO2.out.base h).1)); clear ho3 ht3 hat3))
      have k1 := HC3.out 1 _ (HC2.out 1 (.int .i64 (l.get k).k) (by go_simp))
      have k2 := HC3.out 2 _ (HC2.out 2 (.int .i64 (l.get k).n) (by go_simp))
      have k3 := HC3.out 3 _ (HC2.out 3 (.string (l.get k).s) (by go_simp))
      have k4 := HC3.out 4 _ (HC2.out 4 (.slice B (l.get k).it.len cB) (by go_simp))
      have hz3 : w.heap.size ≤ w3.heap.size := Nat.le_trans hsz HT3.out.size
      clear g0 f0 hq2 hq3 HC2 HC3
      go_wp2_with fail
      refine (putC (l.get k) (HI.out k hlt) (HO.out.get k hlt) (HKD.out.get k hlt) A3 c3 _ (bs ++ [UInt8.ofNat (l.get k).nm.size] ++ (l.get k).nm.data.toList) w.heap.size B cB _ w3 (by simp; omega) HO3.out hz3 (Hs.out.tch HT3.out (fun b hb h => by omega)) (fun b hb => hb.2) ?_).mono ?_
      · simp only [List.length_append, List.length_cons, List.length_nil, Array.length_toList]
        have : (l.get k).nm.data.size = (l.get k).nm.size := rfl
        omega
      rintro e w4 ⟨A4, c4, rfl, ho4, ht4⟩
      have HO4 := Kp.mk ho4
      have HT4 := Kp.mk ((HT.out.of_still.trans HT3.out (S := (w.heap.size ≤ ·)) (T := (w.heap.size ≤ ·)) (fun b _ h => h)).trans ht4 (fun b _ h => h))
      clear ho4 ht4
      go_wp2_with fail
      go_roundw
      case rel =>
        refine ⟨k + 1, A4, c4, by omega, by go_num, ?_, ⟨?_⟩, ⟨HT4.out.mono (fun b hb h => by omega)⟩⟩
        · rw [L.encI_succ l k hlt, HBS.out, It.enc]; simp
        · rw [L.encI_succ l k hlt, HBS.out, It.enc, ← List.append_assoc]; simpa using HO4.out
      case measure => go_light; simp only [intOf]; omega
    · have hkl : k = l.len := by omega
      subst hkl
      have hT := L.take_all l l.len (Nat.le_refl _)
      rw [hT] at HW ⊢
      have hsz := HT.out.size
      have hwr := u64_small l.encI.length (by omega)
      clear hT
      go_wp2_with fail
      refine (num75 none 0 [] _ 4 _ wr.heap.size _ wr (by simp) rfl (by omega) (by omega) (by omega) (OwnB.nil _ _) (Nat.le_refl _) (by simp)).mono ?_
      rintro e w2 ⟨A2, c2, rfl, ho2, ht2, _⟩
      have HO2 := Kp.mk ho2
      have HT2 := Kp.mk (HT.out.trans ht2 (T := blk none) (fun b _ h => by obtain ⟨_, h, _⟩ := h; cases h))
      have HW2 := Kp.mk (HW.out.bs.tch ht2 (fun b _ h => by obtain ⟨_, h, _⟩ := h; cases h))
      have hz2 := ht2.size
      clear ho2 ht2
      go_wp2_with (at_builtin; (refine wpList_appB _ rfl _ _ rfl wr.heap.size A2 c2 _ _ ([] ++ be l.encI.length 4) rfl ?_ HO2.out A' c' l.encI rfl rfl _ HW2.out ?_ hz2 ?_); (simp); (simp [be_length]; omega); intro A3 c3 w3 ho3 ht3 hat3; have HO3 := Kp.mk ho3; have HT3 := Kp.mk (HT2.out.trans ht3 (T := blk A2) (fun b hb h => by have := (HO2.out.base h).1; omega)); clear ho3 ht3 hat3)
      go_ret
      exact ⟨A3, c3, by simp [L.enc, be_length], (by simpa [L.enc] using HO3.out.mono (fun b hb => by have := (HO3.out.base hb).1; omega)), HT3.out⟩

/-- What a call that answers bytes and a code has left. -/
def RetPut (w : World) (bs : List UInt8) (code : Int) (e : Ending) (w' : World) : Prop :=
  ∃ A c, e = .returned (.tuple #[.slice A bs.length c, .int .i64 code]) ∧ OwnB w' w.heap.size A c bs ∧ Still w w'

set_option maxHeartbeats 1000000 in
theorem put_ok (l : L) (A : Option Addr) (c : Nat) (S : Nat → Prop) (w : World) (hl : l.len ≤ 140737488351232) (hO : l.Ok) (hS : Sl w S A l) :
    Calls Try.prog 18 #[.slice A l.len c] w (RetPut w l.putB l.putE) := by
  have CM := Kp.mk (mayTable_ok l A c S w hl hO hS)
  have HO := Kp.mk hO; clear hO
  have HS := Kp.mk hS; clear hS
  cases hm : l.mayTab 1 with
  | false =>
    have e1 : l.putE = 1 := by simp [L.putE, hm]
    have e2 : l.putB = [] := by simp [L.putB, hm]
    rw [e1, e2]
    have HM := Kp.mk hm; clear hm e1 e2
    go_enter Try.func18, Try.ntmps18
    go_wp2_with (refine CM.out.mono ?_; rintro e w1 ⟨rfl, hw1⟩; rw [HM.out])
    go_ret2
    exact ⟨none, 0, rfl, OwnB.nil _ _, hw1⟩
  | true =>
    have hb := L.enc_bnd hm
    have HT := Kp.mk (fun W h => tabC l A c S W hl HO.out (L.mayTab_kinds hm) (by omega) h)
    by_cases hlong : 3000 < l.enc.length
    · have e1 : l.putE = 502 := by simp [L.putE, hm, hlong]
      have e2 : l.putB = [] := by simp [L.putB, hm, hlong]
      rw [e1, e2]
      have HM := Kp.mk hm; clear hm e1 e2
      go_enter Try.func18, Try.ntmps18
      go_wp2_with fail
      refine CM.out.mono ?_
      rintro e w1 ⟨rfl, hw1⟩
      rw [HM.out]
      go_wp2_with fail
      refine (HT.out w1 (HS.out.still hw1)).mono ?_
      rintro e w2 ⟨A2, c2, rfl, ho2, ht2⟩
      have HT2 := Kp.mk (Tch.still hw1 ht2); clear ho2 ht2 hw1
      go_wp2_with fail
      go_ret2
      exact ⟨none, 0, rfl, OwnB.nil _ _, HT2.out⟩
    · have e1 : l.putE = 0 := by simp [L.putE, hm, hlong]
      have e2 : l.putB = l.enc := by simp [L.putB, hm, hlong]
      rw [e1, e2]
      have HM := Kp.mk hm; clear hm e1 e2
      go_enter Try.func18, Try.ntmps18
      go_wp2_with fail
      refine CM.out.mono ?_
      rintro e w1 ⟨rfl, hw1⟩
      rw [HM.out]
      go_wp2_with fail
      refine (HT.out w1 (HS.out.still hw1)).mono ?_
      rintro e w2 ⟨A2, c2, rfl, ho2, ht2⟩
      have HO2 := Kp.mk ho2
      have HT2 := Kp.mk (Tch.still hw1 ht2)
      have hz := hw1.size
      clear ho2 ht2 hw1
      go_wp2_with fail
      go_ret2
      exact ⟨A2, c2, rfl, HO2.out.mono (fun b hb => by have := (HO2.out.base hb).1; omega), HT2.out⟩
end Go.Proofs.Ytaeainkfllfdfaa
/- A3: The reader of bytes as a plain function: what raw, num, value and table of value.reader answer. No program in sight. -/
namespace Go.Proofs.Ytaeainkfllfdfaa
open Go.RowKit
set_option linter.unusedVariables false
set_option linter.unusedSimpArgs false

/-- What is left of the bytes, and whether something was bad. -/
structure Rd where
  b : List UInt8
  bad : Bool

/-- So many bytes. -/
def Rd.raw (r : Rd) (n : Nat) : List UInt8 × Rd := if r.bad = true ∨ r.b.length < n then ([], ⟨r.b, true⟩) else (r.b.take n, ⟨r.b.drop n, false⟩)
/-- A number, the greatest byte first. -/
def val (bs : List UInt8) : Nat := bs.foldl (fun n c => n * 256 + c.toNat) 0
def Rd.num (r : Rd) (k : Nat) : Nat × Rd := (val (r.raw k).1, (r.raw k).2)
/-- Which kind has that letter; -1: none. -/
def kindOf (n : Nat) : Int := if n % 256 = 86 then 0 else if n % 256 = 116 then 1 else if n % 256 = 73 then 2 else if n % 256 = 108 then 3 else if n % 256 = 83 then 4 else if n % 256 = 70 then 5 else -1
/-- A value, where tables are read so. -/
def Rd.value (tab : Rd → L × Rd) (r : Rd) : It × Rd :=
  let k := kindOf (r.num 1).1
  let r1 := (r.num 1).2
  if k = 1 then (⟨.empty, k, wrap64 (r1.num 1).1, .empty, .nil⟩, (r1.num 1).2)
  else if k = 2 then (⟨.empty, k, wrap64 (wrap32 (r1.num 4).1), .empty, .nil⟩, (r1.num 4).2)
  else if k = 3 then (⟨.empty, k, wrap64 (r1.num 8).1, .empty, .nil⟩, (r1.num 8).2)
  else if k = 4 then (⟨.empty, k, 0, ⟨((r1.num 4).2.raw (r1.num 4).1).1.toArray⟩, .nil⟩, ((r1.num 4).2.raw (r1.num 4).1).2)
  else if k = 5 then (⟨.empty, k, 0, .empty, (tab r1).1⟩, (tab r1).2)
  else (⟨.empty, k, 0, .empty, .nil⟩, r1)
/-- An item. -/
def Rd.item (tab : Rd → L × Rd) (r : Rd) : It × Rd :=
  let s := (r.num 1).2.raw (r.num 1).1
  let v := s.2.value tab
  ({ v.1 with nm := ⟨s.1.toArray⟩ }, v.2)
/-- Items, till there are no bytes, or 33. -/
def Rd.items (tab : Rd → L × Rd) : Nat → L → Rd → L × Rd
  | 0, l, r => (l, r)
  | f + 1, l, r => if r.bad = false ∧ r.b ≠ [] ∧ l.len ≤ 32 then Rd.items tab f (l.app (L.one (r.item tab).1)) (r.item tab).2 else (l, r)
/-- A table's items, so deep; j: how deep it may still go. -/
def Rd.table : Nat → Nat → Rd → L × Rd
  | 0, _, r => (.nil, r)
  | j + 1, deep, r =>
    let x := (r.num 4).2.raw (r.num 4).1
    let q := Rd.items (Rd.table j (deep + 1)) 33 .nil ⟨x.1, x.2.bad || decide (4 < deep)⟩
    (q.1, ⟨x.2.b, x.2.bad || q.2.bad⟩)

theorem Rd.raw_le (r : Rd) (n : Nat) : (r.raw n).1.length ≤ r.b.length ∧ (r.raw n).2.b.length ≤ r.b.length := by
  unfold Rd.raw; split <;> simp; omega
theorem val_lt (bs : List UInt8) : val bs < 256 ^ bs.length := by
  unfold val
  suffices h : ∀ (l : List UInt8) (n : Nat), l.foldl (fun n c => n * 256 + c.toNat) n < (n + 1) * 256 ^ l.length by simpa using h bs 0
  intro l
  induction l with
  | nil => intro n; simp
  | cons c l ih =>
    intro n
    have h1 := ih (n * 256 + c.toNat)
    have h2 := c.toNat_lt
    simp only [List.foldl_cons, List.length_cons]
    refine Nat.lt_of_lt_of_le h1 ?_
    rw [Nat.pow_succ, Nat.mul_comm (256 ^ l.length) 256, ← Nat.mul_assoc]
    exact Nat.mul_le_mul_right _ (by omega)
theorem num_lt (r : Rd) (k : Nat) (hk : k ≤ 8) : (r.num k).1 < 18446744073709551616 := by
  have h1 : (r.raw k).1.length ≤ k := by unfold Rd.raw; split <;> simp; omega
  exact Nat.lt_of_lt_of_le (val_lt _) (Nat.le_trans (Nat.pow_le_pow_right (by omega) (Nat.le_trans h1 hk)) (by decide))
theorem val_snoc (bs : List UInt8) (c : UInt8) : val (bs ++ [c]) = val bs * 256 + c.toNat := by simp [val, List.foldl_append]
end Go.Proofs.Ytaeainkfllfdfaa
/- B7: The contracts of value.reader's raw and num. -/
namespace Go.Proofs.Ytaeainkfllfdfaa
open Go.RowKit
set_option linter.unusedVariables false
set_option linter.unusedSimpArgs false
set_option maxRecDepth 100000

/-- A reader in block R: what it has left, in blocks of which S holds. -/
def RdAt (w : World) (R : Nat) (S : Nat → Prop) (r : Rd) : Prop :=
  ∃ A c, w.cell? ⟨R, 0, none⟩ = some (.slice A r.b.length c) ∧ w.cell? ⟨R, 1, none⟩ = some (.bool r.bad) ∧ w.frozen? ⟨R, 0, none⟩ = false ∧ w.frozen? ⟨R, 1, none⟩ = false ∧ Bs w S A r.b ∧ r.b.length ≤ c ∧ c ≤ 9223372036854775807

theorem Bs.take {w : World} {S : Nat → Prop} {A : Option Addr} {bs : List UInt8} (h : Bs w S A bs) (n : Nat) : Bs w S A (bs.take n) := by
  rcases h with rfl | ⟨b, o, rfl, hb, hc⟩
  · exact .inl (by simp)
  · refine .inr ⟨b, o, rfl, hb, fun j hj => ?_⟩
    have hj' : j < bs.length := by simp at hj; omega
    rw [List.getElem_take]; exact hc j hj'
theorem Bs.drop {w : World} {S : Nat → Prop} {A : Option Addr} {bs : List UInt8} (h : Bs w S A bs) (n c : Nat) (hc : bs.length ≤ c) : Bs w S (if c = n then A else A.map (·.add n)) (bs.drop n) := by
  rcases h with rfl | ⟨b, o, rfl, hb, hcell⟩
  · exact .inl (by simp)
  · by_cases e : c = n
    · exact .inl (List.drop_eq_nil_of_le (by omega))
    · rw [if_neg e]
      refine .inr ⟨b, o + n, ?_, hb, fun j hj => ?_⟩
      · simp [Addr.add_lit]
      · have hj' : n + j < bs.length := by simp at hj; omega
        rw [List.getElem_drop, Nat.add_assoc]; exact hcell (n + j) hj'

/-- What raw has left. -/
def RetRaw (w : World) (R : Nat) (S : Nat → Prop) (x : List UInt8 × Rd) (e : Ending) (w' : World) : Prop :=
  ∃ A c, e = .returned (.slice A x.1.length c) ∧ Bs w' S A x.1 ∧ RdAt w' R S x.2 ∧ Tch (· = R) w w' ∧ x.1.length ≤ c ∧ c ≤ 9223372036854775807

theorem RdAt.setBad {w : World} {R : Nat} {S : Nat → Prop} {r : Rd} (h : RdAt w R S r) (hS : ¬ S R) : RdAt (w.setCell ⟨R, 1, none⟩ (.bool true)) R S ⟨r.b, true⟩ := by
  obtain ⟨A, c, h0, h1, f0, f1, hB, hc, hc2⟩ := h
  refine ⟨A, c, ?_, ?_, ?_, ?_, hB.tch (T := (· = R)) ((Tch.refl _ w).setCell _ _ (fun _ => rfl)) (fun b hb e => hS (e ▸ hb)), hc, hc2⟩
  · go_simp
  · go_simp
  · go_simp
  · go_simp
theorem RdAt.setBit {w : World} {R : Nat} {S : Nat → Prop} {r : Rd} (h : RdAt w R S r) (hS : ¬ S R) (b : Bool) : RdAt (w.setCell ⟨R, 1, none⟩ (.bool b)) R S ⟨r.b, b⟩ := by
  obtain ⟨A, c, h0, h1, f0, f1, hB, hc, hc2⟩ := h
  refine ⟨A, c, ?_, ?_, ?_, ?_, hB.tch (T := (· = R)) ((Tch.refl _ w).setCell _ _ (fun _ => rfl)) (fun b hb e => hS (e ▸ hb)), hc, hc2⟩
  · go_simp
  · go_simp
  · go_simp
  · go_simp
theorem RdAt.setB {w : World} {R : Nat} {S : Nat → Prop} {r : Rd} (h : RdAt w R S r) (hS : ¬ S R) (A' : Option Addr) (c' n : Nat) (bs : List UInt8) (hn : n = bs.length) (hB : Bs w S A' bs) (hc : bs.length ≤ c') (hc2 : c' ≤ 9223372036854775807) :
    RdAt (w.setCell ⟨R, 0, none⟩ (.slice A' n c')) R S ⟨bs, r.bad⟩ := by
  subst hn
  obtain ⟨A, c, h0, h1, f0, f1, _, _, _⟩ := h
  refine ⟨A', c', ?_, ?_, ?_, ?_, hB.tch (T := (· = R)) ((Tch.refl _ w).setCell _ _ (fun _ => rfl)) (fun b hb e => hS (e ▸ hb)), hc, hc2⟩
  · go_simp
  · go_simp
  · go_simp
  · go_simp

set_option maxHeartbeats 1000000 in
theorem raw77 (R : Nat) (S : Nat → Prop) (r : Rd) (n : Nat) (N : Int) (w : World) (hN : N = n) (hn : n < 18446744073709551616) (hr : RdAt w R S r) (hS : ¬ S R) :
    Calls Try.prog 77 #[.pointer (some ⟨R, 0, none⟩), .int .u64 N] w (RetRaw w R S (r.raw n)) := by
  subst hN
  have HR := Kp.mk hr
  have HS := Kp.mk hS; clear hS
  obtain ⟨A, c, h0, h1, f0, f1, hB, hc, hc2⟩ := hr
  have HB := Kp.mk hB; clear hB
  by_cases hbad : r.bad = true
  · have e : r.raw n = ([], ⟨r.b, true⟩) := by simp [Rd.raw, hbad]
    rw [e]; clear e
    rw [hbad] at h1
    have HBAD := Kp.mk hbad; clear hbad
    go_enter Try.func77, Try.ntmps77
    go_wp2_with fail
    go_ret
    exact ⟨none, 0, rfl, Bs.nil _ _ _, HR.out.setBad HS.out, (Tch.refl _ w).setCell _ _ (fun _ => rfl), Nat.le_refl _, Nat.zero_le _⟩
  have hbad : r.bad = false := by simpa using hbad
  have hwr := u64_small r.b.length (by omega)
  by_cases hlong : r.b.length < n
  · have e : r.raw n = ([], ⟨r.b, true⟩) := by simp [Rd.raw, hlong]
    rw [e]; clear e
    rw [hbad] at h1
    have HBAD := Kp.mk hbad; clear hbad
    go_enter Try.func77, Try.ntmps77
    go_wp2_with fail
    go_ret
    exact ⟨none, 0, rfl, Bs.nil _ _ _, HR.out.setBad HS.out, (Tch.refl _ w).setCell _ _ (fun _ => rfl), Nat.le_refl _, Nat.zero_le _⟩
  · have e : r.raw n = (r.b.take n, ⟨r.b.drop n, false⟩) := by simp [Rd.raw, hbad, hlong]
    rw [e]; clear e
    rw [hbad] at h1
    have HBAD := Kp.mk hbad; clear hbad
    have hle : n ≤ c := by omega
    have ht := Kp.mk (show (r.b.take n).length = n by rw [List.length_take, Nat.min_eq_left (by omega)])
    by_cases hcn : c = n
    · subst hcn
      have hle := hle
      go_enter Try.func77, Try.ntmps77
      go_wp2_with fail
      go_ret
      refine ⟨A, c, by rw [ht.out]; rfl, ?_, ?_, (Tch.refl _ w).setCell _ _ (fun _ => rfl), by rw [ht.out]; exact hle, hc2⟩
      · exact (HB.out.take c).tch (T := (· = R)) ((Tch.refl _ w).setCell _ _ (fun _ => rfl)) (fun b hb e => HS.out (e ▸ hb))
      · have := HR.out.setB HS.out A 0 (r.b.length - c) (r.b.drop c) (by simp) (by have := HB.out.drop c c hc; rwa [if_pos rfl] at this) (by simp; omega) (by omega)
        rw [HBAD.out, show r.b.length - c = 0 from by omega] at this
        exact this
    · go_enter Try.func77, Try.ntmps77
      go_wp2_with fail
      go_ret
      refine ⟨A, c, by rw [ht.out]; rfl, ?_, ?_, (Tch.refl _ w).setCell _ _ (fun _ => rfl), by rw [ht.out]; exact hle, hc2⟩
      · exact (HB.out.take n).tch (T := (· = R)) ((Tch.refl _ w).setCell _ _ (fun _ => rfl)) (fun b hb e => HS.out (e ▸ hb))
      · have := HR.out.setB HS.out (A.map (·.add n)) (c - n) (r.b.length - n) (r.b.drop n) (by simp) (by have := HB.out.drop n c hc; rwa [if_neg hcn] at this) (by simp; omega) (by omega)
        rw [HBAD.out] at this
        exact this

/-- A number's bytes are laid one behind the other. -/
theorem shl_or (v c : Nat) (hv : v < 72057594037927936) (hc : c < 256) : bits BinOp.or .u64 (IntKind.u64.wrap ((v : Int) * 256)) (IntKind.u64.wrap (c : Int)) = ((v * 256 + c : Nat) : Int) := by
  rw [show ((v : Int) * 256) = ((v * 256 : Nat) : Int) from by omega, u64_small _ (by omega), u64_small _ (by omega), u64_or_nat _ _ (by omega) (by omega)]
  have h := Nat.two_pow_add_eq_or_of_lt (i := 8) (b := c) (by omega) v
  rw [show v * 256 = 2 ^ 8 * v from by omega, ← h]
theorem val_small (bs : List UInt8) (h : bs.length ≤ 7) : val bs < 72057594037927936 :=
  Nat.lt_of_lt_of_le (val_lt bs) (Nat.le_trans (Nat.pow_le_pow_right (by omega) h) (by decide))
theorem RdAt.new {w : World} {S : Nat → Prop} {A : Option Addr} {c n : Nat} {x : List UInt8} (bad : Bool) (hn : n = x.length) (hB : Bs w S A x) (h1 : x.length ≤ c) (h2 : c ≤ 9223372036854775807) :
    RdAt (w.alloc (.cells #[.slice A n c, .bool bad] 77)) w.heap.size S ⟨x, bad⟩ := by
  subst hn
  exact ⟨A, c, by go_simp, by go_simp, by go_simp, by go_simp, hB.still ((Still.refl _).alloc _), h1, h2⟩

/-- What num has left. -/
def RetNum (w : World) (R : Nat) (S : Nat → Prop) (x : Nat × Rd) (e : Ending) (w' : World) : Prop :=
  e = .returned (.int .u64 x.1) ∧ RdAt w' R S x.2 ∧ Tch (· = R) w w'

set_option maxHeartbeats 1000000 in
theorem rnum76 (R : Nat) (S : Nat → Prop) (r : Rd) (k : Nat) (K : Int) (w : World) (hK : K = k) (hk : k ≤ 8) (hr : RdAt w R S r) (hS : ¬ S R) :
    Calls Try.prog 76 #[.pointer (some ⟨R, 0, none⟩), .int .i64 K] w (RetNum w R S (r.num k)) := by
  subst hK
  have HR := Kp.mk hr; clear hr
  have HS := Kp.mk hS; clear hS
  have hwr := u64_small k (by omega)
  go_enter Try.func76, Try.ntmps76
  go_wp2_with fail
  refine (raw77 R S r k _ w rfl (by omega) HR.out HS.out).mono ?_
  rintro e w1 ⟨A, c, rfl, hB, hR1, hT1, _⟩
  have hxl : (r.raw k).1.length ≤ 8 := by have : (r.raw k).1.length ≤ k := by { unfold Rd.raw; split <;> simp; omega }; omega
  have HV := Kp.mk (show (r.num k).1 = val (r.raw k).1 ∧ (r.num k).2 = (r.raw k).2 from ⟨rfl, rfl⟩)
  generalize (r.raw k).1 = x at *
  generalize (r.raw k).2 = r1 at *
  have HB := Kp.mk hB; clear hB
  have HR1 := Kp.mk hR1; clear hR1
  have HT1 := Kp.mk hT1; clear hT1
  go_wp2_with fail
  go_loopw [5, 13] (fun v i wr => ∃ j : Nat, j ≤ x.length ∧ i = .int .i64 j ∧ v = .int .u64 (val (x.take j)) ∧ wr = w1) (fun _ i _ => x.length - (intOf i).toNat)
  case atStart => exact ⟨0, by omega, rfl, rfl, rfl⟩
  case round =>
    obtain ⟨j, hj, rfl, rfl, rfl⟩ := hrel
    by_cases hlt : j < x.length
    · rcases HB.out with rfl | ⟨b, o, rfl, hb, hc⟩
      · simp at hlt
      have hcj := hc j hlt
      clear hc
      have hor := shl_or (val (x.take j)) x[j].toNat (val_small _ (by simp; omega)) (x[j].toNat_lt)
      have HOR := Kp.mk hor; clear hor
      go_wp2_with fail
      go_light
      rw [HOR.out]
      refine ⟨⟨j + 1, by omega, by go_num, ?_, trivial⟩, by simp only [intOf]; omega⟩
      rw [List.take_succ_eq_append_getElem hlt, val_snoc]
    · have hjl : j = x.length := by omega
      subst hjl
      go_wp2_with fail
      go_ret
      rw [List.take_length]
      exact ⟨by rw [HV.out.1]; rfl, by rw [HV.out.2]; exact HR1.out, HT1.out⟩
end Go.Proofs.Ytaeainkfllfdfaa
