/- Appending bytes and texts to a row of bytes of the call's own; numbers put as bytes, the greatest first (value.num, method.num). -/
import Derived.Test.YtaeainkfllfdfaaB3
import Derived.Test.YtaeainkfllfdfaaA2
import Derived.Lib.AppendStr
namespace Go.Proofs.Ytaeainkfllfdfaa
open Go.RowKit
set_option linter.unusedVariables false
set_option linter.unusedSimpArgs false
set_option maxRecDepth 100000

/-- A row of bytes of the call's own, from block base on. -/
def OwnB (w : World) (base : Nat) (A : Option Addr) (c : Nat) (bs : List UInt8) : Prop := w.ownsRow base 5 1 (.slice A bs.length c) bs.length (nb bs)
/-- The block in which a slice lies. -/
def blk (A : Option Addr) (b : Nat) : Prop := ∃ a, A = some a ∧ a.block = b
theorem ownBlock_iff (A : Option Addr) (n c b : Nat) : (Value.slice A n c).ownBlock = some b ↔ blk A b := by
  cases A <;> simp [Value.ownBlock, blk]
theorem OwnB.nil (w : World) (base : Nat) : OwnB w base none 0 [] := World.ownsRow_nil w base 5 1
theorem OwnB.tch {w w' : World} {base : Nat} {A : Option Addr} {c : Nat} {bs : List UInt8} {S : Nat → Prop} (h : OwnB w base A c bs) (k : Tch S w w') (hs : ∀ b, blk A b → ¬ S b) : OwnB w' base A c bs :=
  k.own h (fun g hg => hs g ((ownBlock_iff _ _ _ _).1 hg))
theorem OwnB.still {w w' : World} {base : Nat} {A : Option Addr} {c : Nat} {bs : List UInt8} (h : OwnB w base A c bs) (k : Still w w') : OwnB w' base A c bs := h.tch k (fun _ _ f => f)
theorem OwnB.drew {w : World} {base : Nat} {A : Option Addr} {c : Nat} {bs : List UInt8} (h : OwnB w base A c bs) : OwnB w.drew base A c bs := h
theorem OwnB.base {w : World} {base : Nat} {A : Option Addr} {c : Nat} {bs : List UInt8} (h : OwnB w base A c bs) {b : Nat} (hb : blk A b) : base ≤ b ∧ b < w.heap.size := h.lt b ((ownBlock_iff _ _ _ _).2 hb)
theorem OwnB.bs {w : World} {base : Nat} {A : Option Addr} {c : Nat} {bs : List UInt8} (h : OwnB w base A c bs) : Bs w (fun b => base ≤ b ∧ b < w.heap.size ∧ blk A b) A bs :=
  (own_bs h).weak (fun b hb => ⟨hb.1, hb.2.1, (ownBlock_iff _ _ _ _).1 hb.2.2⟩)
theorem OwnB.mono {w : World} {base base' : Nat} {A : Option Addr} {c : Nat} {bs : List UInt8} (h : OwnB w base A c bs) (hb : ∀ b, blk A b → base' ≤ b) : OwnB w base' A c bs := by
  refine ⟨h.1, ?_⟩
  rcases h.2 with h2 | ⟨g, cap, cur, hv, hg, r⟩
  · exact .inl h2
  · exact .inr ⟨g, cap, cur, hv, hb g (by simp at hv; exact ⟨_, hv.1, rfl⟩), r⟩

theorem info5 : (Try.prog.info? 5).map (fun i => (i.zero, i.size, i.bytes)) = some (some (.int .u8 0), 1, 1) := by kernel_rfl

/-- The address of an own row's slice: none, or the head of a block. -/
theorem OwnB.form {w : World} {base : Nat} {A : Option Addr} {c : Nat} {bs : List UInt8} (h : OwnB w base A c bs) : (A = none ∧ c = 0 ∧ bs = []) ∨ ∃ g, A = some ⟨g, 0, none⟩ ∧ bs.length ≤ c := by
  rcases h.2 with ⟨hv, hn⟩ | ⟨g, cap, cur, hv, hg, hh, hle, _⟩
  · simp at hv; exact .inl ⟨hv.1, hv.2.2, List.eq_nil_of_length_eq_zero hn⟩
  · simp at hv; obtain ⟨rfl, rfl⟩ := hv; exact .inr ⟨g, rfl, hle⟩

theorem run_append_zero {w : World} {base : Nat} {A : Option Addr} {c : Nat} {bs : List UInt8} (h : OwnB w base A c bs) (B : Option Addr) (cB : Nat) (ty : TypeId) :
    (Builtin.append_ #[25, 25] ty #[.slice A bs.length c, .slice B 0 cB]).run Try.prog w = .ok (.slice A bs.length c) w := by
  obtain ⟨i, hi, hz0, hz1, hz2⟩ := info_parts info5
  have hA : A = none ∨ ∃ a, A = some a := by cases A <;> simp
  have hle : bs.length ≤ c := by
    rcases h.form with ⟨_, rfl, rfl⟩ | ⟨g, _, hle⟩
    · simp
    · exact hle
  cases A with
  | none => cases B <;> simp [Builtin.append_, run_underlying Try.underlying25, sizeOf, typeInfo, hi, Builtin.lenOf, Builtin.firstCells, loadCells, loadCellsFrom, hle]
  | some a => cases B <;> simp [Builtin.append_, run_underlying Try.underlying25, sizeOf, typeInfo, hi, Builtin.lenOf, Builtin.firstCells, loadCells, loadCellsFrom, storeCells, hle]

/-- The kit's law on appending to an own row, and where the new row lies: in the old row's block, or in one that was not there. -/
theorem run_append_at {w : World} (base : Nat) (t ty e : TypeId) (i : TypeInfo) (z : Value) (size bytes : Nat) (ht : Try.prog.underlying t = some (.slice e)) (hi : Try.prog.info? e = some i) (hz : i.zero = some z)
    (hsize : i.size = size) (hby : i.bytes = bytes) (hzs : z.cells.size = size) (hsz : 0 < size)
    (v : Value) (n : Nat) (xs : List Value) (hown : w.ownsRow base e size v n xs)
    (a : Addr) (m c : Nat) (news : List Value) (hl : news.length = m * size) (hnews : ∀ j u, news[j]? = some u → w.cell? (a.add j) = some u) (h1 : ∀ u ∈ news, u.oneCell' = true)
    (h63 : n + m ≤ maxLen) (hbytes : (n + m) * bytes ≤ 140737488355328) (hbase : base ≤ w.heap.size) :
    ∃ v' w', (Builtin.append_ #[t, t] ty #[v, .slice (some a) m c]).run Try.prog w = .ok v' w' ∧ w'.ownsRow base e size v' (n + m) (xs ++ news) ∧ w.grownBy w' v.ownBlock ∧
      (∀ b, v'.ownBlock = some b → v.ownBlock = some b ∨ w.heap.size ≤ b) := by
  obtain ⟨v', w', hr, ho, hg, _⟩ := run_append_own (P := Try.prog) w base t ty e i z size bytes ht hi hz hsize hby hzs hsz v n xs hown a m c news hl hnews h1 h63 hbytes hbase
  refine ⟨v', w', hr, ho, hg, fun b hb => ?_⟩
  have hsmall : n + m ≤ 9223372036854775807 := by simp only [maxLen] at h63; omega
  rcases hown.2 with ⟨rfl, rfl⟩ | ⟨g, cap, cur, rfl, hbg, hgg, hnc, hcm, hcs, htake⟩
  · have hown2 : w.ownsRow w.heap.size e size (.slice none 0 0) 0 xs := ⟨hown.1, .inl ⟨rfl, rfl⟩⟩
    obtain ⟨v2, w2, hr2, ho2, _, _⟩ := run_append_own (P := Try.prog) w w.heap.size t ty e i z size bytes ht hi hz hsize hby hzs hsz _ 0 xs hown2 a m c news hl hnews h1 h63 hbytes (Nat.le_refl _)
    rw [hr] at hr2
    obtain ⟨rfl, rfl⟩ : v' = v2 ∧ w' = w2 := by simpa using hr2
    exact .inr (ho2.lt b hb).1
  · by_cases hroom : n + m ≤ cap
    · subst hsize
      have hfit : n * i.size + news.length ≤ cur.size := by rw [hl, hcs, ← Nat.add_mul]; exact Nat.mul_le_mul_right _ hroom
      have hr2 := run_append_room (P := Try.prog) w t ty e i ht hi g n cap cur hgg a m c news hl hnews h1 hroom hfit
      rw [hr] at hr2
      obtain ⟨rfl, _⟩ : v' = _ ∧ w' = _ := by simpa using hr2
      exact .inl hb
    · subst hsize; subst hby
      have holds : ∀ j u, xs[j]? = some u → w.cell? ((⟨g, 0, none⟩ : Addr).add j) = some u := hown.cells (g := g) rfl
      have hr2 := run_append_grow (P := Try.prog) w t ty e i z ht hi hz ⟨g, 0, none⟩ n cap xs hown.1 holds a m c news hl hnews (by omega) (by omega) (growslice_fits (by omega) hbytes)
      rw [hr] at hr2
      obtain ⟨rfl, _⟩ : v' = _ ∧ w' = _ := by simpa using hr2
      simp [Value.ownBlock] at hb
      exact .inr (by omega)
theorem run_appendS_at {w : World} (base : Nat) (ty : TypeId) (v : Value) (n : Nat) (xs : List Value) (hown : w.ownsRow base 5 1 v n xs) (s : ByteArray)
    (h63 : n + s.size ≤ maxLen) (hbytes : n + s.size ≤ 140737488355328) (hbase : base ≤ w.heap.size) :
    ∃ v' w', (Builtin.append_ #[25, 9] ty #[v, .string s]).run Try.prog w = .ok v' w' ∧ w'.ownsRow base 5 1 v' (n + s.size) (xs ++ Lib.strCells s) ∧ w.grownBy w' v.ownBlock ∧
      (∀ b, v'.ownBlock = some b → v.ownBlock = some b ∨ w.heap.size ≤ b) := by
  obtain ⟨i, hi, hz, hsize, hby⟩ := info_parts info5
  obtain ⟨v', w', hr, ho, hg, _⟩ := Lib.run_append_own_string (P := Try.prog) w base 25 9 ty 5 i Try.underlying25 Try.underlying9 hi hz hsize hby v n xs hown s h63 hbytes hbase
  refine ⟨v', w', hr, ho, hg, fun b hb => ?_⟩
  have hsmall : n + s.size ≤ 9223372036854775807 := by simp only [maxLen] at h63; omega
  rcases hown.2 with ⟨rfl, rfl⟩ | ⟨g, cap, cur, rfl, hbg, hgg, hnc, hcm, hcs, htake⟩
  · have hown2 : w.ownsRow w.heap.size 5 1 (.slice none 0 0) 0 xs := ⟨hown.1, .inl ⟨rfl, rfl⟩⟩
    obtain ⟨v2, w2, hr2, ho2, _, _⟩ := Lib.run_append_own_string (P := Try.prog) w w.heap.size 25 9 ty 5 i Try.underlying25 Try.underlying9 hi hz hsize hby _ 0 xs hown2 s h63 hbytes (Nat.le_refl _)
    rw [hr] at hr2
    obtain ⟨rfl, rfl⟩ : v' = v2 ∧ w' = w2 := by simpa using hr2
    exact .inr (ho2.lt b hb).1
  · by_cases hroom : n + s.size ≤ cap
    · have hr2 := Lib.run_append_room_string (P := Try.prog) w 25 9 ty 5 i Try.underlying25 Try.underlying9 hi hsize g n cap cur hgg s hroom (by omega)
      rw [hr] at hr2
      obtain ⟨rfl, _⟩ : v' = _ ∧ w' = _ := by simpa using hr2
      exact .inl hb
    · have holds : ∀ j u, xs[j]? = some u → w.cell? ((⟨g, 0, none⟩ : Addr).add j) = some u := hown.cells (g := g) rfl
      have hr2 := Lib.run_append_grow_string (P := Try.prog) w 25 9 ty 5 i (.int .u8 0) Try.underlying25 Try.underlying9 hi hz ⟨g, 0, none⟩ n cap xs (by rw [hsize]; exact hown.1) holds s (by omega) (by omega) (by rw [hby]; exact growslice_fits (by omega) (by omega))
      rw [hr] at hr2
      obtain ⟨rfl, _⟩ : v' = _ ∧ w' = _ := by simpa using hr2
      simp [Value.ownBlock] at hb
      exact .inr (by omega)

/-- 'append(s, x...)', s a row of bytes of the call's own, x any slice of bytes. -/
theorem wp_appB {o : Oper} {a : Act} {K : Act → World → Prop} {Q : Exit → Act → World → Prop} (w : World) (s x : Operand)
    (hop : o.op = Op.call { callee := Callee.builtin Builtin.append, args := #[s, x], argTypes := #[25, 25] })
    (base : Nat) (A : Option Addr) (c n m : Nat) (bs : List UInt8) (hs : a.eval s = .slice A n c) (hn : n = bs.length) (ho : OwnB w base A c bs) (B : Option Addr) (cB : Nat) (us : List UInt8) (hx : a.eval x = .slice B m cB) (hm : m = us.length) (S : Nat → Prop) (hB : Bs w S B us)
    (hlen : bs.length + us.length ≤ 140737488355328) (hbase : base ≤ w.heap.size)
    (hK : ∀ A' c' w', OwnB w' base A' c' (bs ++ us) → Tch (blk A) w w' → (∀ b, blk A' b → blk A b ∨ w.heap.size ≤ b) → K (a.put o.dst (.slice A' (n + m) c')) w') : o.wp Try.prog a w K Q := by
  subst hn; subst hm
  rcases hB with rfl | ⟨b, off, rfl, _, hc⟩
  · have hrun := run_append_zero ho B cB o.type
    unfold Oper.wp
    simp only [List.length_nil] at hx
    simp [execOp, hop, resolve, invoke, builtin, hs, hx, hrun, Result.andThen]
    have := hK A c w (by simpa using ho) (Tch.refl _ _) (fun b hb => .inl hb)
    rw [Oper.upon_value]
    simpa using this
  · obtain ⟨i, hi, hz0, hz1, hz2⟩ := info_parts info5
    obtain ⟨v', w', hrun, hown, hgrow, hat⟩ := run_append_at base 25 o.type 5 i (.int .u8 0) 1 1 Try.underlying25 hi hz0 hz1 hz2 rfl (by decide) (.slice A bs.length c) bs.length (nb bs) ho ⟨b, off, none⟩ us.length cB (nb us) (by simp [nb]) (by
      intro j u hj
      have hjl : j < us.length := by have := (List.getElem?_eq_some_iff.1 hj).1; simpa [nb] using this
      have := hc j hjl
      rw [Addr.add_lit, this]
      simp [nb, hjl] at hj
      rw [hj]) (nb_one us) (by unfold maxLen; omega) (by omega) hbase
    obtain ⟨A', c', rfl⟩ := own_form hown
    unfold Oper.wp
    simp [execOp, hop, resolve, invoke, builtin, hs, hx, hrun, Result.andThen]
    exact hK A' c' w' (by unfold OwnB; rw [nb_app, List.length_append]; exact hown) ((Tch.refl _ w).grown hgrow (fun k hk _ => (ownBlock_iff _ _ _ _).1 hk))
      (fun b hb => (hat b ((ownBlock_iff _ _ _ _).2 hb)).imp (fun h => (ownBlock_iff _ _ _ _).1 h) id)
theorem wpList_appB {ops : Array Oper} {rest : List Oper} {o : Oper} {a : Act} {Q : Exit → Act → World → Prop} (w : World) (hg : o.guard = none) (s x : Operand)
    (hop : o.op = Op.call { callee := Callee.builtin Builtin.append, args := #[s, x], argTypes := #[25, 25] })
    (base : Nat) (A : Option Addr) (c n m : Nat) (bs : List UInt8) (hs : a.eval s = .slice A n c) (hn : n = bs.length) (ho : OwnB w base A c bs) (B : Option Addr) (cB : Nat) (us : List UInt8) (hx : a.eval x = .slice B m cB) (hm : m = us.length) (S : Nat → Prop) (hB : Bs w S B us)
    (hlen : bs.length + us.length ≤ 140737488355328) (hbase : base ≤ w.heap.size)
    (hK : ∀ A' c' w', OwnB w' base A' c' (bs ++ us) → Tch (blk A) w w' → (∀ b, blk A' b → blk A b ∨ w.heap.size ≤ b) → wpList Try.prog ops Q rest (a.put o.dst (.slice A' (n + m) c')) w') : wpList Try.prog ops Q (o :: rest) a w :=
  wpList_plain hg fun K' hK' => wp_appB w s x hop base A c n m bs hs hn ho B cB us hx hm S hB hlen hbase fun A' c' w' h1 h2 h3 => hK' _ _ (hK A' c' w' h1 h2 h3)
theorem step_appB {ops : Array Oper} {o : Oper} {a : Act} {K : Act → World → Prop} {Q : Exit → Act → World → Prop} (w : World) (hw : Region.wanted o (yielded ops a.tmps) = true) (s x : Operand)
    (hop : o.op = Op.call { callee := Callee.builtin Builtin.append, args := #[s, x], argTypes := #[25, 25] })
    (base : Nat) (A : Option Addr) (c n m : Nat) (bs : List UInt8) (hs : a.eval s = .slice A n c) (hn : n = bs.length) (ho : OwnB w base A c bs) (B : Option Addr) (cB : Nat) (us : List UInt8) (hx : a.eval x = .slice B m cB) (hm : m = us.length) (S : Nat → Prop) (hB : Bs w S B us)
    (hlen : bs.length + us.length ≤ 140737488355328) (hbase : base ≤ w.heap.size)
    (hK : ∀ A' c' w', OwnB w' base A' c' (bs ++ us) → Tch (blk A) w w' → (∀ b, blk A' b → blk A b ∨ w.heap.size ≤ b) → K (a.put o.dst (.slice A' (n + m) c')) w') :
    if Region.wanted o (yielded ops a.tmps) = true then Oper.wp Try.prog o a w K Q else K (a.put o.dst undef) w := by
  rw [if_pos hw]; exact wp_appB w s x hop base A c n m bs hs hn ho B cB us hx hm S hB hlen hbase hK

/-- 'append(s, t...)', t a text. -/
theorem wp_appS {o : Oper} {a : Act} {K : Act → World → Prop} {Q : Exit → Act → World → Prop} (w : World) (s x : Operand)
    (hop : o.op = Op.call { callee := Callee.builtin Builtin.append, args := #[s, x], argTypes := #[25, 9] })
    (base : Nat) (A : Option Addr) (c n : Nat) (bs : List UInt8) (hs : a.eval s = .slice A n c) (hn : n = bs.length) (ho : OwnB w base A c bs) (t : ByteArray) (hx : a.eval x = .string t)
    (hlen : bs.length + t.size ≤ 140737488355328) (hbase : base ≤ w.heap.size)
    (hK : ∀ A' c' w', OwnB w' base A' c' (bs ++ t.data.toList) → Tch (blk A) w w' → (∀ b, blk A' b → blk A b ∨ w.heap.size ≤ b) → K (a.put o.dst (.slice A' (n + t.size) c')) w') : o.wp Try.prog a w K Q := by
  subst hn
  obtain ⟨v', w', hrun, hown, hgrow, hat⟩ := run_appendS_at base o.type (.slice A bs.length c) bs.length (nb bs) ho t (by unfold maxLen; omega) hlen hbase
  obtain ⟨A', c', rfl⟩ := own_form hown
  unfold Oper.wp
  simp [execOp, hop, resolve, invoke, builtin, hs, hx, hrun, Result.andThen]
  have e1 : (bs ++ t.data.toList).length = bs.length + t.size := by simp
  have e2 : nb (bs ++ t.data.toList) = nb bs ++ Lib.strCells t := by simp [nb, Lib.strCells]
  exact hK A' c' w' (by unfold OwnB; rw [e1, e2]; exact hown) ((Tch.refl _ w).grown hgrow (fun k hk _ => (ownBlock_iff _ _ _ _).1 hk))
    (fun b hb => (hat b ((ownBlock_iff _ _ _ _).2 hb)).imp (fun h => (ownBlock_iff _ _ _ _).1 h) id)
theorem wpList_appS {ops : Array Oper} {rest : List Oper} {o : Oper} {a : Act} {Q : Exit → Act → World → Prop} (w : World) (hg : o.guard = none) (s x : Operand)
    (hop : o.op = Op.call { callee := Callee.builtin Builtin.append, args := #[s, x], argTypes := #[25, 9] })
    (base : Nat) (A : Option Addr) (c n : Nat) (bs : List UInt8) (hs : a.eval s = .slice A n c) (hn : n = bs.length) (ho : OwnB w base A c bs) (t : ByteArray) (hx : a.eval x = .string t)
    (hlen : bs.length + t.size ≤ 140737488355328) (hbase : base ≤ w.heap.size)
    (hK : ∀ A' c' w', OwnB w' base A' c' (bs ++ t.data.toList) → Tch (blk A) w w' → (∀ b, blk A' b → blk A b ∨ w.heap.size ≤ b) → wpList Try.prog ops Q rest (a.put o.dst (.slice A' (n + t.size) c')) w') : wpList Try.prog ops Q (o :: rest) a w :=
  wpList_plain hg fun K' hK' => wp_appS w s x hop base A c n bs hs hn ho t hx hlen hbase fun A' c' w' h1 h2 h3 => hK' _ _ (hK A' c' w' h1 h2 h3)
theorem step_appS {ops : Array Oper} {o : Oper} {a : Act} {K : Act → World → Prop} {Q : Exit → Act → World → Prop} (w : World) (hw : Region.wanted o (yielded ops a.tmps) = true) (s x : Operand)
    (hop : o.op = Op.call { callee := Callee.builtin Builtin.append, args := #[s, x], argTypes := #[25, 9] })
    (base : Nat) (A : Option Addr) (c n : Nat) (bs : List UInt8) (hs : a.eval s = .slice A n c) (hn : n = bs.length) (ho : OwnB w base A c bs) (t : ByteArray) (hx : a.eval x = .string t)
    (hlen : bs.length + t.size ≤ 140737488355328) (hbase : base ≤ w.heap.size)
    (hK : ∀ A' c' w', OwnB w' base A' c' (bs ++ t.data.toList) → Tch (blk A) w w' → (∀ b, blk A' b → blk A b ∨ w.heap.size ≤ b) → K (a.put o.dst (.slice A' (n + t.size) c')) w') :
    if Region.wanted o (yielded ops a.tmps) = true then Oper.wp Try.prog o a w K Q else K (a.put o.dst undef) w := by
  rw [if_pos hw]; exact wp_appS w s x hop base A c n bs hs hn ho t hx hlen hbase hK

/-- A row of bytes that the call has left. -/
def RetB (base : Nat) (bs : List UInt8) (S : Nat → Prop) (w : World) (e : Ending) (w' : World) : Prop :=
  ∃ A c, e = .returned (.slice A bs.length c) ∧ OwnB w' base A c bs ∧ Tch S w w'

theorem byte_at (n : Int) (h : 0 ≤ n) (j : Nat) : n / 2 ^ (8 * j) % 256 = ((UInt8.ofNat (n.toNat / 256 ^ j)).toNat : Int) := by
  obtain ⟨m, rfl⟩ := Int.eq_ofNat_of_zero_le h
  have e : (256 : Nat) ^ j = 2 ^ (8 * j) := by rw [Nat.pow_mul]
  simp only [Int.toNat_natCast, UInt8.toNat_ofNat', e]
  rfl
theorem Bs.one {w : World} (S : Nat → Prop) (b : Nat) (u : UInt8) (hb : S b) (h : w.cell? ⟨b, 0, none⟩ = some (.int .u8 u.toNat)) : Bs w S (some ⟨b, 0, none⟩) [u] :=
  .inr ⟨b, 0, rfl, hb, fun j hj => by
    have : j = 0 := by simpa using hj
    subst this; exact h⟩
theorem new_at {W : World} {b : Nat} {v : Value} {e : TypeId} (hb : W.heap.size = b) : (W.alloc (.cells #[v] e)).cell? ⟨b, 0, none⟩ = some v := by subst hb; go_simp
theorem new_at_drew {W : World} {b : Nat} {v : Value} {e : TypeId} (hb : W.heap.size = b) : ((W.alloc (.cells #[v] e)).drew).cell? ⟨b, 0, none⟩ = some v := new_at hb
theorem u8_small (n : Nat) : IntKind.u8.wrap (n : Int) = ((UInt8.ofNat n).toNat : Int) := by
  rw [UInt8.toNat_ofNat']
  simp only [IntKind.wrap, IntKind.signed, Bool.false_and]
  rfl
theorem new_one (w : World) (v : Value) (e : TypeId) : (w.alloc (.cells #[v] e)).cell? ⟨w.heap.size, 0, none⟩ = some v := by go_simp

/-- A row of bytes, once at A, that has grown: it lies where it lay, or in a block that was not there; nothing else has turned. -/
def RetA (base : Nat) (A : Option Addr) (bs : List UInt8) (w : World) (e : Ending) (w' : World) : Prop :=
  ∃ A' c, e = .returned (.slice A' bs.length c) ∧ OwnB w' base A' c bs ∧ Tch (blk A) w w' ∧ ∀ b, blk A' b → blk A b ∨ w.heap.size ≤ b

set_option maxHeartbeats 1000000 in
theorem num75 (A : Option Addr) (c : Nat) (bs : List UInt8) (n : Int) (k : Nat) (K : Int) (base : Nat) (m : Nat) (w : World) (hm : m = bs.length) (hK : K = k) (hk : k ≤ 8) (hn0 : 0 ≤ n) (hn : n < 18446744073709551616) (ho : OwnB w base A c bs) (hb : base ≤ w.heap.size) (hlen : bs.length + k ≤ 140737488355328) :
    Calls Try.prog 75 #[.slice A m c, .int .u64 n, .int .i64 K] w (RetA base A (bs ++ be n.toNat k) w) := by
  subst hK; subst hm
  have HO := Kp.mk ho; clear ho
  have HQ := Kp.mk (fun j => byte_at n hn0 j)
  have hkb := be_length n.toNat k
  have HKB := Kp.mk hkb; clear hkb
  go_enter Try.func75, Try.ntmps75
  go_wp2_with fail
  go_loopw [0, 2] (fun v i wr => ∃ (j : Nat) (A' : Option Addr) (c' : Nat) (ds : List UInt8), j ≤ k ∧ i = .int .i64 ((j : Int) - 1) ∧ v = .slice A' ds.length c' ∧ Kp (ds ++ be n.toNat j = bs ++ be n.toNat k) ∧ Kp (OwnB wr base A' c' ds) ∧ Kp (Tch (blk A) w wr) ∧ Kp (∀ b, blk A' b → blk A b ∨ w.heap.size ≤ b)) (fun _ i _ => (intOf i + 1).toNat)
  case atStart => exact ⟨k, A, c, bs, by omega, by go_num, rfl, ⟨rfl⟩, HO, ⟨Tch.refl _ _⟩, ⟨fun b hb => .inl hb⟩⟩
  case round =>
    obtain ⟨j, A', c', ds, hj, rfl, rfl, HE, HW, HT, HB⟩ := hrel
    cases j with
    | zero =>
      have he := HE.out
      simp only [be, List.append_nil] at he
      subst he
      go_wp2_with fail
      go_ret
      exact ⟨A', c', rfl, HW.out, HT.out, HB.out⟩
    | succ j =>
      have g0 : (0 : Int) ≤ ((j + 1 : Nat) : Int) - 1 := by omega
      have hsz : ds.length + (j + 1) = bs.length + k := by have := congrArg List.length HE.out; simpa [be_length] using this
      have hbr : base ≤ wr.heap.size := Nat.le_trans hb HT.out.size
      go_wp2_with (at_builtin; (refine wpList_appB _ rfl _ _ rfl base A' c' _ 1 ds rfl rfl (HW.out.still ((Still.refl wr).alloc _)) (some ⟨wr.heap.size, 0, none⟩) 1 [UInt8.ofNat (n.toNat / 256 ^ j)] rfl rfl (fun _ => True) ?_ ?_ ?_ ?_); (rw [HQ.out]; exact Bs.one _ _ _ trivial (new_one _ _ _)); (simp only [List.length_cons, List.length_nil]; omega); (simp only [World.size_alloc]; omega); intro A2 c2 w2 ho2 ht2 hat2; have HO2 := Kp.mk ho2; have HT2 := Kp.mk ht2; have HA2 := Kp.mk hat2; clear ho2 ht2 hat2)
      go_roundw
      case rel =>
        refine ⟨j, A2, c2, ds ++ [UInt8.ofNat (n.toNat / 256 ^ j)], by omega, by go_num, by simp, ⟨?_⟩, HO2, ⟨?_⟩, ⟨?_⟩⟩
        · rw [← HE.out]; simp [be]
        · exact (HT.out.alloc _).trans HT2.out (fun b hb e => (HB.out b e).resolve_right (by omega))
        · intro b hb
          rcases HA2.out b hb with h | h
          · exact HB.out b h
          · have := HT.out.size; simp only [World.size_alloc] at h; exact .inr (by omega)
      case measure => go_light; simp only [intOf]; omega
end Go.Proofs.Ytaeainkfllfdfaa
