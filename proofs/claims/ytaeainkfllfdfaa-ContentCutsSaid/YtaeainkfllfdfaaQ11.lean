/- Contracts of the functions that the statement reaches, each walked once, and the plain laws over them, for every input that their premises name (D3). -/
import Derived.Test.YtaeainkfllfdfaaQ10
import Derived.Stop.RegionWithIn
/- D3: content.Cut. -/
namespace Go.Proofs.Ytaeainkfllfdfaa
open Go.RowKit Go.Shelf
set_option linter.unusedVariables false
set_option linter.unusedSimpArgs false
set_option maxRecDepth 100000
attribute [local go_sem] Oper.semAt_some

/-- May a message be cut so? -/
def cutMay (ch : Int) (m : M) (n : Nat) (most : Int) : Bool := m.mayB && bearsB m.id && decide (1 ≤ ch) && decide (ch ≤ 65535) && decide (8 ≤ most) && decide (most ≤ 4096) && decide (n ≤ 65536)
/-- What Cut tells. -/
def cutE (ch : Int) (m : M) (p : L) (n : Nat) (most : Int) : Int :=
  if cutMay ch m n most then (if m.putE = 0 then (if p.putE = 0 then (if 4096 < m.putB.length ∨ 4096 < 8 + p.putB.length then 1 else 0) else p.putE) else m.putE) else 1
/-- How many frames a body has. -/
def nCh (n : Nat) (most : Int) : Nat := (n + most.toNat - 1) / most.toNat
/-- The frames of a body. -/
def bodyF (ch : Int) (body : List UInt8) (most : Int) (k : Nat) : List Fr := (List.range k).map fun i => ⟨3, ch, (body.drop (i * most.toNat)).take most.toNat⟩
/-- A message's frames. -/
def cutF (ch : Int) (m : M) (p : L) (body : List UInt8) (most : Int) : List Fr :=
  if cutE ch m p body.length most = 0 then ⟨1, ch, m.putB⟩ :: ⟨2, ch, be body.length 8 ++ p.putB⟩ :: bodyF ch body most (nCh body.length most) else []
theorem cut_no (ch : Int) (m : M) (p : L) (body : List UInt8) (most : Int) (h : cutMay ch m body.length most = false) : cutE ch m p body.length most = 1 ∧ cutF ch m p body most = [] := by
  have h1 : cutE ch m p body.length most = 1 := by unfold cutE; rw [h]; rfl
  exact ⟨h1, by unfold cutF; rw [h1]; rfl⟩

def RetCut (w : World) (fs : List Fr) (code : Int) (e : Ending) (w' : World) : Prop :=
  ∃ A c, e = .returned (.tuple #[.slice A fs.length c, .int .i64 code]) ∧ Fs w' (fun b => w.heap.size ≤ b) A fs ∧ Still w w'
theorem RetCut.no (w w' : World) (code : Int) (v : Ending) (hv : v = .returned (.tuple #[.slice none 0 0, .int .i64 code])) (ht : Still w w') : RetCut w [] code v w' := ⟨none, 0, hv, Fs.nil _ _ _, ht⟩

theorem L.putB_len (l : L) : l.putB.length ≤ 3000 := by
  unfold L.putB
  by_cases hm : l.mayTab 1 = true <;> by_cases hl : 3000 < l.enc.length <;> simp [hm, hl] <;> omega

theorem World.cell?_putObj_ne {W : World} {l b o : Nat} {o' : Obj} (h : b ≠ l) : (W.putObj l o').cell? ⟨b, o, none⟩ = W.cell? ⟨b, o, none⟩ :=
  World.cell?_of_block (World.putObj_heap_other h)
theorem box2_put {B1 B2 n : Nat} (h1 : B1 < n) (h2 : B2 < n) (W : World) (l : Nat) (o' : Obj) (hl : n ≤ l) : Box2 B1 B2 W (W.putObj l o') :=
  ⟨fun v h => (World.cell?_putObj_ne (by omega)).trans h, fun v h => (World.cell?_putObj_ne (by omega)).trans h⟩
theorem OwnF.kept {W W' : World} {row : Option Nat} {base : Nat} {S : Nat → Prop} {A : Option Addr} {c : Nat} {l : List Fr} (h : OwnF W base S A c l) (hg : W.grownBy W' row) (hr : ∀ r, row = some r → ∃ o : Obj, W.heap[r]? = some o ∧ o.isCells = false) : OwnF W' base S A c l := by
  obtain ⟨us, ho, hv⟩ := h
  refine ⟨us, ho.kept hg ?_, hv.imp (fun _ hb => hb) (fun b o u _ hc => cell_kept hc hg hr)⟩
  rcases ho.2 with ⟨hv', _⟩ | ⟨g, cap, cur, hv', _, hh, _⟩
  · left; rw [hv']; rfl
  · right
    rw [hv']
    intro e
    obtain ⟨o, ho1, ho2⟩ := hr g e.symm
    rw [hh] at ho1; cases ho1; cases ho2

/-- Between two rounds of Cut's range over the chunks. -/
structure CutI (w0 W0 : World) (g : Nat) (fs : List Fr) (A : Option Addr) (c : Nat) (W : World) : Prop where
  box : W.cell? ⟨g + 1, 0, none⟩ = some (.slice A fs.length c)
  frz : W.frozen? ⟨g + 1, 0, none⟩ = false
  own : OwnF W g (fun b => w0.heap.size ≤ b ∧ b ≠ g + 1) A c fs
  new : ∀ b, blk A b → b = g ∨ W0.heap.size ≤ b
  tch : Tch (fun b => b = g ∨ b = g + 1) W0 W
theorem CutI.kept {w0 W0 W W' : World} {g : Nat} {fs : List Fr} {A : Option Addr} {c : Nat} (h : CutI w0 W0 g fs A c W) {row : Option Nat} (hg : W.grownBy W' row) (hr : ∀ r, row = some r → W0.heap.size ≤ r ∧ ∃ o : Obj, W.heap[r]? = some o ∧ o.isCells = false) : CutI w0 W0 g fs A c W' :=
  ⟨cell_kept h.box hg (fun r e => (hr r e).2), (frozen_kept h.box hg (fun r e => (hr r e).2)).trans h.frz, h.own.kept hg (fun r e => (hr r e).2), h.new, h.tch.grown hg (fun k e hk => by have := (hr k e).1; omega)⟩
def CutJ (w0 W0 : World) (g : Nat) (fs0 : List Fr) (fr : Nat → Fr) (pre : List Nat) (W : World) : Prop := ∃ A c, CutI w0 W0 g (fs0 ++ pre.map fr) A c W
theorem CutJ.from (w0 W0 : World) (g : Nat) (fs0 : List Fr) (fr : Nat → Fr) : OwnFrom W0.heap.size (CutJ w0 W0 g fs0 fr) := fun s W W' row ⟨A, c, h⟩ hg hr => ⟨A, c, h.kept hg hr⟩

theorem chunks_n {len n m : Nat} (hn : 1 ≤ n) (h1 : len ≤ m * n) (h2 : ∀ k, k < m → k * n < len) : (len + n - 1) / n = m := by
  refine Nat.div_eq_of_lt_le ?_ ?_
  · cases m with
    | zero => simp
    | succ k =>
      have := h2 k (by omega)
      rw [Nat.succ_mul]; omega
  · rw [Nat.succ_mul]; omega
theorem chunk_len (body : List UInt8) (N x : Nat) : ((body.drop (x * N)).take N).length = min N (body.length - x * N) := by simp
theorem chunk_bs {W : World} {S : Nat → Prop} {A : Option Addr} {body : List UInt8} (h : Bs W S A body) (N x : Nat) : Bs W S (A.map fun a => a.add (x * N)) ((body.drop (x * N)).take N) := by
  have := h.drop (x * N) (body.length + x * N + 1) (by omega)
  rw [if_neg (by omega)] at this
  exact this.take N

theorem wp_appF {F : Fence} {nF : Nat} {o : Oper} {a : Act} {K : Act → World → Prop} {Q : Exit → Act → World → Prop} (w : World) (s x : Operand)
    (hop : o.op = Op.call { callee := Callee.builtin Builtin.append, args := #[s, x], argTypes := #[44, 44] })
    (base : Nat) (S : Nat → Prop) (A : Option Addr) (c n : Nat) (l : List Fr) (hs : a.eval s = .slice A n c) (hn : n = l.length) (ho : OwnF w base S A c l) (b off cB : Nat) (f : Fr) (B : Option Addr) (cD : Nat)
    (hx : a.eval x = .slice (some ⟨b, off, none⟩) 1 cB) (h0 : w.cell? ⟨b, off, none⟩ = some (.int .i64 f.k)) (h1 : w.cell? ⟨b, off + 1, none⟩ = some (.int .i64 f.ch)) (h2 : w.cell? ⟨b, off + 2, none⟩ = some (.slice B f.d.length cD)) (hv : Bs w (fun b => S b ∧ ¬ blk A b) B f.d) (hc1 : f.d.length ≤ cD) (hc2 : cD ≤ 9223372036854775807)
    (hlen : l.length + 1 ≤ 1099511627776) (hbase : base ≤ w.heap.size)
    (hK : ∀ A' c' w', OwnF w' base S A' c' (l ++ [f]) → Tch (blk A) w w' → (∀ b, blk A' b → blk A b ∨ w.heap.size ≤ b) → K (a.put o.dst (.slice A' (n + 1) c')) w') : o.wpIn F nF Try.prog a w K Q := by
  subst hn
  obtain ⟨us, ho1, hv1⟩ := ho
  obtain ⟨i, hi, hz0, hz1, hz2⟩ := info_parts info52
  obtain ⟨v', w', hr, hown, hgrow, _, hat⟩ := run_append_own_at (P := Try.prog) w base 44 o.type 52 i _ 3 40 Try.underlying44 hi hz0 hz1 hz2 rfl (by decide) (.slice A l.length c) l.length us ho1 ⟨b, off, none⟩ 1 cB [.int .i64 f.k, .int .i64 f.ch, .slice B f.d.length cD] rfl (fun j u hj => by
      rw [Addr.add_lit]
      match j, hj with
      | 0, hj => cases hj; exact h0
      | 1, hj => cases hj; exact h1
      | 2, hj => cases hj; exact h2
      | (j + 3), hj => simp at hj) (fun u hu => by
      simp only [List.mem_cons, List.not_mem_nil, or_false] at hu
      rcases hu with rfl | rfl | rfl <;> rfl) (by unfold maxLen; omega) (by omega) hbase
  obtain ⟨A', c', rfl⟩ := own_form hown
  have hT2 : Tch (blk A) w w' := (Tch.refl _ w).grown hgrow (fun k hk _ => (ownBlock_iff _ _ _ _).1 hk)
  have hat' : ∀ b, blk A' b → blk A b ∨ w.heap.size ≤ b := fun b hb => by
    have hb' := (ownBlock_iff A' (l.length + 1) c' b).2 hb
    rcases hat with h | h
    · rw [h] at hb'; exact .inl ((ownBlock_iff _ _ _ _).1 hb')
    · rw [h] at hb'; cases hb'; exact .inr (Nat.le_refl _)
  unfold Oper.wpIn
  refine ⟨by simp [Oper.about, hop, resolve, Target.leads, Sem.run_pure], ?_⟩
  rw [Oper.semAt_plain F _ _ (by rw [hop]; intro c hc'; cases hc')]
  simp [execOp, hop, resolve, invoke, builtin, hs, hx, hr, Result.andThen]
  refine hK A' c' w' ⟨us ++ [.int .i64 f.k, .int .i64 f.ch, .slice B f.d.length cD], by rw [List.length_append]; exact hown, FVals.app ?_ ⟨B, cD, [], rfl, ⟨?_, hc1, hc2⟩, rfl⟩⟩ hT2 hat'
  · exact (hv1.old.tch hT2 (fun b hb => hb.1.2)).weak (fun b hb => ⟨hb.1.1, fun h => (hat' b h).elim hb.1.2 (fun h => by omega)⟩)
  · exact (hv.old.tch hT2 (fun b hb => hb.1.2)).weak (fun b hb => ⟨hb.1.1, fun h => (hat' b h).elim hb.1.2 (fun h => by omega)⟩)
theorem step_appF {F : Fence} {nF : Nat} {ops : Array Oper} {o : Oper} {a : Act} {K : Act → World → Prop} {Q : Exit → Act → World → Prop} {Z : Prop} (w : World) (hw : Region.wanted o (yielded ops a.tmps) = true) (s x : Operand)
    (hop : o.op = Op.call { callee := Callee.builtin Builtin.append, args := #[s, x], argTypes := #[44, 44] })
    (base : Nat) (S : Nat → Prop) (A : Option Addr) (c n : Nat) (l : List Fr) (hs : a.eval s = .slice A n c) (hn : n = l.length) (ho : OwnF w base S A c l) (b off cB : Nat) (f : Fr) (B : Option Addr) (cD : Nat)
    (hx : a.eval x = .slice (some ⟨b, off, none⟩) 1 cB) (h0 : w.cell? ⟨b, off, none⟩ = some (.int .i64 f.k)) (h1 : w.cell? ⟨b, off + 1, none⟩ = some (.int .i64 f.ch)) (h2 : w.cell? ⟨b, off + 2, none⟩ = some (.slice B f.d.length cD)) (hv : Bs w (fun b => S b ∧ ¬ blk A b) B f.d) (hc1 : f.d.length ≤ cD) (hc2 : cD ≤ 9223372036854775807)
    (hlen : l.length + 1 ≤ 1099511627776) (hbase : base ≤ w.heap.size)
    (hK : ∀ A' c' w', OwnF w' base S A' c' (l ++ [f]) → Tch (blk A) w w' → (∀ b, blk A' b → blk A b ∨ w.heap.size ≤ b) → K (a.put o.dst (.slice A' (n + 1) c')) w') :
    if Region.wanted o (yielded ops a.tmps) = true then o.wpIn F nF Try.prog a w K Q else Z := by
  rw [if_pos hw]; exact wp_appF w s x hop base S A c n l hs hn ho b off cB f B cD hx h0 h1 h2 hv hc1 hc2 hlen hbase hK
theorem OwnF.cells {w : World} {base : Nat} {S : Nat → Prop} {A : Option Addr} {c : Nat} {l : List Fr} (h : OwnF w base S A c l) {b : Nat} (hb : blk A b) : ∃ o, w.heap[b]? = some o ∧ o.isCells = true := by
  obtain ⟨us, ho, _⟩ := h
  obtain ⟨a, rfl, rfl⟩ := hb
  rcases ho.2 with ⟨hv', _⟩ | ⟨g, cap, cur, hv', _, hh, _⟩
  · simp at hv'
  · simp only [Value.slice.injEq, Option.some.injEq] at hv'
    rw [hv'.1]
    exact ⟨_, hh, rfl⟩
theorem cut_round {w0 W0 W w7 w8 : World} {g : Nat} {fs : List Fr} {A A8 : Option Addr} {c c8 n : Nat} {f : Fr} {o : Obj} (hn : n = fs.length + 1) (hI : CutI w0 W0 g fs A c W) (hs : W0.heap.size = g + 4) (h7 : Still W.drew w7) (ht8 : Tch (blk A) (w7.alloc o) w8)
    (ho8 : OwnF w8 g (fun b => w0.heap.size ≤ b ∧ b ≠ g + 1) A8 c8 (fs ++ [f])) (hat : ∀ b, blk A8 b → blk A b ∨ (w7.alloc o).heap.size ≤ b) :
    KeepsFrom W0.heap.size W (w8.setCell ⟨g + 1, 0, none⟩ (.slice A8 n c8)) ∧ Box2 (g + 1 + 1) (g + 1 + 1 + 1) W (w8.setCell ⟨g + 1, 0, none⟩ (.slice A8 n c8)) ∧ CutI w0 W0 g (fs ++ [f]) A8 c8 (w8.setCell ⟨g + 1, 0, none⟩ (.slice A8 n c8)) := by
  subst hn
  have hW : W.heap.size ≤ w7.heap.size := h7.size
  have hW0 : W0.heap.size ≤ W.heap.size := hI.tch.size
  have a1 : Still W (w7.alloc o) := (((Still.refl W).drew).strans h7).alloc o
  have a2 : Tch (blk A) W w8 := (Tch.of_still a1).trans ht8 (fun _ _ h => h)
  have hg1 : ¬ blk A (g + 1) := fun h => by have := hI.new _ h; omega
  have a3 : Tch (fun b => blk A b ∨ b = g + 1) W (w8.setCell ⟨g + 1, 0, none⟩ (.slice A8 (fs.length + 1) c8)) := (a2.mono (fun _ _ h => Or.inl h)).setCell _ _ (fun _ => .inr rfl)
  have hx := a2.cell hI.box hg1
  have hf := (a2.frozen (a := ⟨g + 1, 0, none⟩) (World.block_lt_of_cell? W _ hI.box) hg1).trans hI.frz
  refine ⟨⟨a3.size, fun k o hk ho hc => ?_⟩, ⟨fun v h => a3.cell h ?_, fun v h => a3.cell h ?_⟩, ?_⟩
  · rw [a3.block k (Array.getElem?_eq_some_iff.1 ho).1 ?_]; exact ho
    rintro (h | h)
    · obtain ⟨o', ho', hc'⟩ := hI.own.cells h
      rw [ho] at ho'; cases ho'; rw [hc] at hc'; cases hc'
    · omega
  · rintro (h | h)
    · have := hI.new _ h; simp only at this; omega
    · simp only at h; omega
  · rintro (h | h)
    · have := hI.new _ h; simp only at this; omega
    · simp only at h; omega
  · have hA8 : ∀ b, blk A8 b → b = g ∨ W0.heap.size ≤ b := fun b hb => by
      rcases hat b hb with h | h
      · exact hI.new b h
      · simp only [World.size_alloc] at h; exact .inr (by omega)
    refine ⟨?_, by rw [World.frozen?_setCell]; exact hf, ho8.tch ((Tch.refl (· = g + 1) w8).setCell _ _ (fun _ => rfl)) (fun b hb e => by have := hA8 b hb; omega) (fun b hb _ => hb.2), hA8, ?_⟩
    · rw [World.cell?_setCell_same' _ _ _ (by rw [hx]; rfl)]; simp
    · exact hI.tch.trans a3 (fun b hb h => by
        rcases h with h | h
        · have := hI.new b h; omega
        · exact .inr h)

theorem calls_of_wp_marks {P : Program} {f : FuncId} {fn : Func} {c : Code} {args : Array Value} {w : World} {R : Ending → World → Prop} (hf : P.funcs[f]? = some fn) (hb : fn.body = some c)
    (h : c.wp P (bodyPostM Fence.wide 6 P fn R) { tmps := args ++ Array.replicate (fn.ntmps - args.size) undef, defers := [] } w) : Calls P f args w R :=
  (callsIn_wide (n := 6)).1 (callsIn_of_wp_marks hf hb trivial (wpIn_wide.2 h) rfl)
theorem bodyPostM_ret {P : Program} {fn : Func} {R : Ending → World → Prop} {a : Act} {w : World} {v : Value} (hr : (results fn a.tmps).run P w = .ok v w) (hd : a.defers = []) (hR : R (.returned v) w) : bodyPostM Fence.wide 6 P fn R .ret a w := by
  show LeavesInM Fence.wide 6 P fn a.tmps R a.defers FrameMode.returning w
  rw [hd]
  exact ⟨v, hr, hR⟩
theorem be_at (n : Nat) : ∀ (k j : Nat) (h : j < (be n k).length), (be n k)[j] = UInt8.ofNat (n / 256 ^ (k - 1 - j))
  | 0, j, h => by simp [be] at h
  | k + 1, 0, h => by simp [be]
  | k + 1, j + 1, h => by
    have hj : j < (be n k).length := by simpa [be] using h
    simp only [be, List.getElem_cons_succ]
    rw [be_at n k j hj]
    have : k - 1 - j = k + 1 - 1 - (j + 1) := by omega
    rw [this]
theorem be_take (n k j : Nat) (h : j < k) : (be n k).take (j + 1) = (be n k).take j ++ [UInt8.ofNat (n / 256 ^ (k - 1 - j))] := by
  have hl : j < (be n k).length := by rw [be_length]; exact h
  rw [List.take_succ_eq_append_getElem hl, be_at]

set_option maxHeartbeats 2000000 in
theorem cut25 (ch most : Int) (m : M) (p : L) (body : List UInt8) (w : World) (SM SP SB : Nat → Prop) (AM AP AB : Option Addr) (nM cP cB : Nat)
    (hch1 : -9223372036854775808 ≤ ch) (hch2 : ch ≤ 9223372036854775807) (hm1 : -9223372036854775808 ≤ most) (hm2 : most ≤ 9223372036854775807)
    (hM : m.Ok) (hP : p.Ok) (hp : p.len ≤ 140737488351232) (hb : body.length ≤ 140737488351232) (hcB : body.length ≤ cB) (hSM : Sl w SM AM m.ar) (hSP : Sl w SP AP p) (hSB : Bs w SB AB body) :
    Calls Try.prog 25 #[.int .i64 ch, m.val AM nM, .slice AP p.len cP, .slice AB body.length cB, .int .i64 most] w (RetCut w (cutF ch m p body most) (cutE ch m p body.length most)) := by
  have CM := Kp.mk (fun W (h : Still w W) => may32 m hM SM AM nM W (hSM.still h))
  have CP := Kp.mk (fun W (h : Still w W) => put35 m hM SM AM nM W (hSM.still h))
  have CT := Kp.mk (fun W (h : Still w W) => put_ok p AP cP SP W hp hP (hSP.still h))
  have CC := Kp.mk (fun W (h : Still w W) => (hSB.old.weak (fun b hb => hb.2)).still h)
  have hA : body.length = 0 ∨ ∃ b o, AB = some ⟨b, o, none⟩ := by
    rcases hSB with rfl | ⟨b, o, h, _⟩
    · exact .inl rfl
    · exact .inr ⟨b, o, h⟩
  have hx := MAt.new (w := w.alloc (.cells #[.int .i64 ch] 3)) (c := nM) m (hSM.still ((Still.refl w).alloc _))
  have h5 : ((w.alloc (.cells #[.int .i64 ch] 3)).alloc (m.obj AM nM)).cell? ⟨w.heap.size, 0, none⟩ = some (.int .i64 ch) := by go_simp
  have hsA : ((w.alloc (.cells #[.int .i64 ch] 3)).alloc (m.obj AM nM)).heap.size = w.heap.size + 2 := by simp
  rw [World.size_alloc] at hx
  clear hSM hSP hSB hM hP
  have HX := Kp.mk hx; have H5 := Kp.mk h5; have HSA := Kp.mk hsA
  have HTA := Kp.mk (((Still.refl w).alloc (.cells #[.int .i64 ch] 3)).alloc (m.obj AM nM))
  clear hx h5 hsA
  rw [M.val]
  refine calls_of_wp_marks Try.func25 rfl ?_
  simp only [Try.ntmps25, List.size_toArray, List.length_cons, List.length_nil, Nat.reduceAdd, Nat.reduceSub, Array.replicate_succ, Array.replicate_zero, List.push_toArray, List.append_toArray, List.nil_append, List.cons_append]
  go_wp2_with fail
  refine (CM.out _ HTA.out).mono ?_
  rintro e w1 ⟨rfl, ht1⟩
  have HX1 := Kp.mk (HX.out.still ht1); have H51 := Kp.mk (ht1.scell H5.out); have HT1 := Kp.mk (HTA.out.strans ht1)
  have hs1 : w.heap.size + 2 ≤ w1.heap.size := by have := ht1.size; rw [HSA.out] at this; exact this
  clear ht1 HX H5 HTA HSA CM
  by_cases hmay : m.mayB = false
  · rw [hmay]
    have hno := cut_no ch m p body most (by simp [cutMay, hmay])
    go_wp2_with fail
    ((try simp only [Exit.inBlock, Exit.then]); refine bodyPostM_ret (results_tmp2 rfl _ _ _) rfl ?_)
    rw [hno.1, hno.2]
    exact RetCut.no _ _ _ _ rfl (by repeat' (first | exact Tch.refl _ _ | exact HT1.out | refine Tch.alloc ?_ _ | refine Tch.drew ?_))
  have hmay : m.mayB = true := by cases h : m.mayB <;> simp_all
  rw [hmay]
  have p0 := HX1.out.id
  go_wp2_with fail
  refine (has50 m.id _).mono ?_
  rintro e w2 ⟨rfl, ht2⟩
  have HX2 := Kp.mk (HX1.out.still ht2); have h5 := ht2.scell H51.out; have H52 := Kp.mk h5; have HT2 := Kp.mk (HT1.out.strans ht2)
  have hs2 : w.heap.size + 2 ≤ w2.heap.size := by have := ht2.size; omega
  clear ht2 HX1 H51 HT1 hs1 p0
  by_cases hbr : bearsB m.id = false
  · rw [hbr]
    have hno := cut_no ch m p body most (by simp [cutMay, hbr])
    go_wp2_with fail
    ((try simp only [Exit.inBlock, Exit.then]); refine bodyPostM_ret (results_tmp2 rfl _ _ _) rfl ?_)
    rw [hno.1, hno.2]
    exact RetCut.no _ _ _ _ rfl (by repeat' (first | exact Tch.refl _ _ | exact HT2.out | refine Tch.alloc ?_ _ | refine Tch.drew ?_))
  have hbr : bearsB m.id = true := by cases h : bearsB m.id <;> simp_all
  rw [hbr]
  by_cases c1 : ch < 1
  · have c1x : ¬ (1 ≤ ch) := by omega
    have hno := cut_no ch m p body most (by simp [cutMay, c1x])
    go_wp2_with fail
    ((try simp only [Exit.inBlock, Exit.then]); refine bodyPostM_ret (results_tmp2 rfl _ _ _) rfl ?_)
    rw [hno.1, hno.2]
    exact RetCut.no _ _ _ _ rfl (by repeat' (first | exact Tch.refl _ _ | exact HT2.out | refine Tch.alloc ?_ _ | refine Tch.drew ?_))
  by_cases c2 : 65535 < ch
  · have c2x : ¬ (ch ≤ 65535) := by omega
    have hno := cut_no ch m p body most (by simp [cutMay, c2x])
    go_wp2_with fail
    ((try simp only [Exit.inBlock, Exit.then]); refine bodyPostM_ret (results_tmp2 rfl _ _ _) rfl ?_)
    rw [hno.1, hno.2]
    exact RetCut.no _ _ _ _ rfl (by repeat' (first | exact Tch.refl _ _ | exact HT2.out | refine Tch.alloc ?_ _ | refine Tch.drew ?_))
  by_cases c3 : most < 8
  · have c3x : ¬ (8 ≤ most) := by omega
    have hno := cut_no ch m p body most (by simp [cutMay, c3x])
    go_wp2_with fail
    ((try simp only [Exit.inBlock, Exit.then]); refine bodyPostM_ret (results_tmp2 rfl _ _ _) rfl ?_)
    rw [hno.1, hno.2]
    exact RetCut.no _ _ _ _ rfl (by repeat' (first | exact Tch.refl _ _ | exact HT2.out | refine Tch.alloc ?_ _ | refine Tch.drew ?_))
  by_cases c4 : 4096 < most
  · have c4x : ¬ (most ≤ 4096) := by omega
    have hno := cut_no ch m p body most (by simp [cutMay, c4x])
    go_wp2_with fail
    ((try simp only [Exit.inBlock, Exit.then]); refine bodyPostM_ret (results_tmp2 rfl _ _ _) rfl ?_)
    rw [hno.1, hno.2]
    exact RetCut.no _ _ _ _ rfl (by repeat' (first | exact Tch.refl _ _ | exact HT2.out | refine Tch.alloc ?_ _ | refine Tch.drew ?_))
  by_cases c5 : 65536 < body.length
  · have c5x : ¬ (body.length ≤ 65536) := by omega
    have hno := cut_no ch m p body most (by simp [cutMay, c5x])
    go_wp2_with fail
    ((try simp only [Exit.inBlock, Exit.then]); refine bodyPostM_ret (results_tmp2 rfl _ _ _) rfl ?_)
    rw [hno.1, hno.2]
    exact RetCut.no _ _ _ _ rfl (by repeat' (first | exact Tch.refl _ _ | exact HT2.out | refine Tch.alloc ?_ _ | refine Tch.drew ?_))
  have hyes : cutMay ch m body.length most = true := by
    simp only [cutMay, hmay, hbr, Bool.true_and, Bool.and_eq_true, decide_eq_true_eq]
    omega
  obtain ⟨N, rfl⟩ : ∃ N : Nat, most = (N : Int) := ⟨most.toNat, by omega⟩
  have p0 := HX2.out.id
  have p1 := HX2.out.nm
  have p2 := HX2.out.ty
  have p3 := HX2.out.ex
  have p4 := HX2.out.ky
  have p5 := HX2.out.tx
  have p6 := HX2.out.co
  have p7 := HX2.out.cn
  have p8 := HX2.out.tg
  have p9 := HX2.out.fl
  have p10 := HX2.out.bk
  have p11 := HX2.out.ar
  go_wp2_with fail
  refine (CP.out _ HT2.out).mono ?_
  rintro e w3 ⟨A1, n1, rfl, ho3, ht3⟩
  have h53 := ht3.scell H52.out; have H53 := Kp.mk h53; have HT3 := Kp.mk (HT2.out.strans ht3); have HO3 := Kp.mk ho3
  have hs3 : w2.heap.size ≤ w3.heap.size := ht3.size
  clear ht3 HX2 H52 HT2 ho3 h5 CP p0 p1 p2 p3 p4 p5 p6 p7 p8 p9 p10 p11
  by_cases e1 : m.putE = 0
  case neg =>
    have hE : cutE ch m p body.length N = m.putE := by simp [cutE, hyes, e1]
    have hF : cutF ch m p body N = [] := by simp [cutF, hE, e1]
    go_wp2_with fail
    ((try simp only [Exit.inBlock, Exit.then]); refine bodyPostM_ret (results_tmp2 rfl _ _ _) rfl ?_)
    rw [hE, hF]
    exact RetCut.no _ _ _ _ rfl (by repeat' (first | exact Tch.refl _ _ | exact HT3.out | refine Tch.alloc ?_ _ | refine Tch.drew ?_))
  rw [e1]
  go_wp2_with fail
  refine (CT.out _ HT3.out).mono ?_
  rintro e w4 ⟨A2, n2, rfl, ho4, ht4⟩
  have h54 := ht4.scell H53.out; have H54 := Kp.mk h54; have HT4 := Kp.mk (HT3.out.strans ht4); have HO4 := Kp.mk ho4
  have HO34 := Kp.mk (HO3.out.still ht4)
  have hs4 : w3.heap.size ≤ w4.heap.size := ht4.size
  clear ht4 H53 HT3 ho4 HO3 h53 CT
  by_cases e2 : p.putE = 0
  case neg =>
    have hE : cutE ch m p body.length N = p.putE := by simp [cutE, hyes, e1, e2]
    have hF : cutF ch m p body N = [] := by simp [cutF, hE, e2]
    go_wp2_with fail
    ((try simp only [Exit.inBlock, Exit.then]); refine bodyPostM_ret (results_tmp2 rfl _ _ _) rfl ?_)
    rw [hE, hF]
    exact RetCut.no _ _ _ _ rfl (by repeat' (first | exact Tch.refl _ _ | exact HT4.out | refine Tch.alloc ?_ _ | refine Tch.drew ?_))
  rw [e2]
  have hnb : (0 : Int) ≤ (body.length : Int) ∧ (body.length : Int) < 18446744073709551616 := by omega
  have HQ := Kp.mk (show ∀ j, (body.length : Int) / 2 ^ (8 * j) % 256 = ((UInt8.ofNat (body.length / 256 ^ j)).toNat : Int) from fun j => byte_at _ hnb.1 j)
  have HBT := Kp.mk (show ∀ j, j < 8 → (be body.length 8).take (j + 1) = (be body.length 8).take j ++ [UInt8.ofNat (body.length / 256 ^ (7 - j))] from fun j h => be_take body.length 8 j h)
  have hbl := be_length body.length 8
  generalize hhd : be body.length 8 = hd at *
  have HHD := Kp.mk hhd; clear hhd
  have HBL := Kp.mk hbl; clear hbl
  go_wp2_with fail
  go_loopw [15, 65] (fun h i wr => ∃ (j : Nat) (A' : Option Addr) (c' : Nat), j ≤ 8 ∧ i = .int .i64 j ∧ h = .slice A' j c' ∧ Kp (OwnB wr w4.heap.size A' c' (hd.take j)) ∧ Kp (Still w4 wr)) (fun _ i _ => 8 - (intOf i).toNat)
  case atStart => exact ⟨0, none, 0, by omega, rfl, rfl, ⟨OwnB.nil _ _⟩, ⟨Tch.refl _ _⟩⟩
  case round =>
    obtain ⟨j, A', c', hj, rfl, rfl, HW, HT⟩ := hrel
    have hjl : (hd.take j).length = j := by rw [List.length_take, HBL.out]; omega
    have hwr := HT.out.size
    by_cases hlt : j < 8
    · go_wp2_with (at_builtin; (refine wpList_appB _ rfl _ _ rfl w4.heap.size A' c' _ 1 (hd.take j) rfl ?_ (HW.out.still ((Still.refl wr).alloc _)) (some ⟨wr.heap.size, 0, none⟩) 1 [UInt8.ofNat (body.length / 256 ^ (7 - j))] rfl rfl (fun _ => True) ?_ ?_ ?_ ?_); (exact hjl.symm); (rw [HQ.out]; exact Bs.one _ _ _ trivial (new_one _ _ _)); (simp only [List.length_cons, List.length_nil]; omega); (simp only [World.size_alloc]; omega); intro A3 c3 w5 ho5 ht5 hat5; have HO5 := Kp.mk ho5; have HT5 := Kp.mk ht5; have HA5 := Kp.mk hat5; clear ho5 ht5 hat5)
      go_roundw
      case rel =>
        refine ⟨j + 1, A3, c3, by omega, by go_num, rfl, ⟨by rw [HBT.out j hlt]; exact HO5.out⟩, ⟨(HT.out.alloc _).trans HT5.out (fun b hb e => by have := (HW.out.base e).1; omega)⟩⟩
      case measure => go_light; simp only [intOf]; omega
    · obtain rfl : j = 8 := by omega
      rw [List.take_of_length_le (by rw [HBL.out]; omega)] at HW
      have hpl := p.putB_len
      clear hjl HQ HBT
      have HTW := Kp.mk (HT4.out.strans HT.out)
      have h5w := HT.out.scell h54
      have HO3w := Kp.mk (HO34.out.still HT.out)
      have H5w := Kp.mk h5w
      by_cases c6 : 4096 < m.putB.length
      case pos =>
        have hE : cutE ch m p body.length N = 1 := by simp [cutE, hyes, e1, e2, c6]
        have hF : cutF ch m p body N = [] := by simp [cutF, hE]
        go_wp2_with (at_builtin; (refine wpList_appB _ rfl _ _ rfl w4.heap.size A' c' _ _ hd rfl ?_ HW.out A2 n2 p.putB rfl rfl _ (HO4.out.bs.still HT.out) ?_ ?_ ?_); (exact HBL.out.symm); (rw [HBL.out]; omega); (exact hwr); intro A3 c3 w5 ho5 ht5 hat5; have HO5 := Kp.mk ho5; have h55 := ht5.cell h5w (fun h => by have := (HW.out.base h).1; simp only at this; omega); have HT5 := Kp.mk (app_still2 HTW.out (fun b h => by have := (HW.out.base h).1; omega) ht5); have HO35 := Kp.mk (HO3w.out.tch ht5 (fun b h1 h2 => by have := (HO3w.out.base h1).2; have := (HW.out.base h2).1; have := (HO34.out.base h1).2; omega)); have hs5 := ht5.size; clear ho5 ht5 hat5)
        ((try simp only [Exit.inBlock, Exit.then]); refine bodyPostM_ret (results_tmp2 rfl _ _ _) rfl ?_)
        (try rw [hE, hF])
        exact RetCut.no _ _ _ _ rfl (by repeat' (first | exact Tch.refl _ _ | exact HT5.out | refine Tch.alloc ?_ _ | refine Tch.drew ?_))
      have c7 : ¬ 4096 < 8 + p.putB.length := by omega
      go_wp2_with (at_builtin; (refine wpList_appB _ rfl _ _ rfl w4.heap.size A' c' _ _ hd rfl ?_ HW.out A2 n2 p.putB rfl rfl _ (HO4.out.bs.still HT.out) ?_ ?_ ?_); (exact HBL.out.symm); (rw [HBL.out]; omega); (exact hwr); intro A3 c3 w5 ho5 ht5 hat5; have HO5 := Kp.mk ho5; have h55 := ht5.cell h5w (fun h => by have := (HW.out.base h).1; simp only at this; omega); have HT5 := Kp.mk (app_still2 HTW.out (fun b h => by have := (HW.out.base h).1; omega) ht5); have HO35 := Kp.mk (HO3w.out.tch ht5 (fun b h1 h2 => by have := (HO3w.out.base h1).2; have := (HW.out.base h2).1; have := (HO34.out.base h1).2; omega)); have hs5 := ht5.size; clear ho5 ht5 hat5)
      refine (chunk51 AB body.length cB N (by omega) _).mono ?_
      rintro e w6 ⟨rfl, rfl⟩
      go_wp2_with fail
      have q1 : ((((w5.alloc (.cells #[.int .i64 1, .int .i64 ch, .slice A1 m.putB.length n1, .int .i64 2, .int .i64 ch, .slice A3 (8 + p.putB.length) c3] 52)).alloc (.cells #[.slice (some ⟨w5.heap.size, 0, none⟩) 2 2] 44)).alloc (.cells #[.slice AB body.length cB] 25)).alloc (.cells #[.int .i64 N] 3)).cell? ⟨w5.heap.size + 1, 0, none⟩ = some (.slice (some ⟨w5.heap.size, 0, none⟩) 2 2) := by go_simp
      have q1f : ((((w5.alloc (.cells #[.int .i64 1, .int .i64 ch, .slice A1 m.putB.length n1, .int .i64 2, .int .i64 ch, .slice A3 (8 + p.putB.length) c3] 52)).alloc (.cells #[.slice (some ⟨w5.heap.size, 0, none⟩) 2 2] 44)).alloc (.cells #[.slice AB body.length cB] 25)).alloc (.cells #[.int .i64 N] 3)).frozen? ⟨w5.heap.size + 1, 0, none⟩ = false := by go_simp
      have q2 : ((((w5.alloc (.cells #[.int .i64 1, .int .i64 ch, .slice A1 m.putB.length n1, .int .i64 2, .int .i64 ch, .slice A3 (8 + p.putB.length) c3] 52)).alloc (.cells #[.slice (some ⟨w5.heap.size, 0, none⟩) 2 2] 44)).alloc (.cells #[.slice AB body.length cB] 25)).alloc (.cells #[.int .i64 N] 3)).cell? ⟨w5.heap.size + 1 + 1, 0, none⟩ = some (.slice AB body.length cB) := by go_simp
      have q3 : ((((w5.alloc (.cells #[.int .i64 1, .int .i64 ch, .slice A1 m.putB.length n1, .int .i64 2, .int .i64 ch, .slice A3 (8 + p.putB.length) c3] 52)).alloc (.cells #[.slice (some ⟨w5.heap.size, 0, none⟩) 2 2] 44)).alloc (.cells #[.slice AB body.length cB] 25)).alloc (.cells #[.int .i64 N] 3)).cell? ⟨w5.heap.size + 1 + 1 + 1, 0, none⟩ = some (.int .i64 N) := by go_simp
      have q4 : ((((w5.alloc (.cells #[.int .i64 1, .int .i64 ch, .slice A1 m.putB.length n1, .int .i64 2, .int .i64 ch, .slice A3 (8 + p.putB.length) c3] 52)).alloc (.cells #[.slice (some ⟨w5.heap.size, 0, none⟩) 2 2] 44)).alloc (.cells #[.slice AB body.length cB] 25)).alloc (.cells #[.int .i64 N] 3)).heap.size = w5.heap.size + 4 := by simp
      have q5 : ((((w5.alloc (.cells #[.int .i64 1, .int .i64 ch, .slice A1 m.putB.length n1, .int .i64 2, .int .i64 ch, .slice A3 (8 + p.putB.length) c3] 52)).alloc (.cells #[.slice (some ⟨w5.heap.size, 0, none⟩) 2 2] 44)).alloc (.cells #[.slice AB body.length cB] 25)).alloc (.cells #[.int .i64 N] 3)).heap[w5.heap.size]? = some (.cells [.int .i64 1, .int .i64 ch, .slice A1 m.putB.length n1, .int .i64 2, .int .i64 ch, .slice A3 (8 + p.putB.length) c3].toArray 52) := (Below.heap_alloc _ _ _ (by simp; omega)).trans ((Below.heap_alloc _ _ _ (by simp; omega)).trans ((Below.heap_alloc _ _ _ (by simp)).trans (heap_alloc_new _ _)))
      have q6 : Still w5 ((((w5.alloc (.cells #[.int .i64 1, .int .i64 ch, .slice A1 m.putB.length n1, .int .i64 2, .int .i64 ch, .slice A3 (8 + p.putB.length) c3] 52)).alloc (.cells #[.slice (some ⟨w5.heap.size, 0, none⟩) 2 2] 44)).alloc (.cells #[.slice AB body.length cB] 25)).alloc (.cells #[.int .i64 N] 3)) := ((((Still.refl w5).alloc _).alloc _).alloc _).alloc _
      generalize ((((w5.alloc (.cells #[.int .i64 1, .int .i64 ch, .slice A1 m.putB.length n1, .int .i64 2, .int .i64 ch, .slice A3 (8 + p.putB.length) c3] 52)).alloc (.cells #[.slice (some ⟨w5.heap.size, 0, none⟩) 2 2] 44)).alloc (.cells #[.slice AB body.length cB] 25)).alloc (.cells #[.int .i64 N] 3)) = W0 at *
      have hhl : (hd ++ p.putB).length = 8 + p.putB.length := by rw [List.length_append, HBL.out]
      have hg5 : w.heap.size + 2 ≤ w5.heap.size := by omega
      have hown : OwnF W0 w5.heap.size (fun b => w.heap.size ≤ b ∧ b ≠ w5.heap.size + 1) (some ⟨w5.heap.size, 0, none⟩) 2 [⟨1, ch, m.putB⟩, ⟨2, ch, hd ++ p.putB⟩] :=
        OwnF.lit q5 (Nat.le_refl _) ⟨A1, n1, _, rfl, ⟨(HO35.out.bs.still q6).weak (fun b hb => by have := hb.1; have := hb.2.1; omega), HO35.out.caps⟩, A3, c3, [], by simp only [hhl], ⟨(HO5.out.bs.still q6).weak (fun b hb => by have := hb.1; have := hb.2.1; omega), HO5.out.caps⟩, rfl⟩ (by unfold maxLen; simp)
      have HJ0 := Kp.mk (show CutJ w W0 w5.heap.size [⟨1, ch, m.putB⟩, ⟨2, ch, hd ++ p.putB⟩] (fun i => ⟨3, ch, (body.drop (i * N)).take N⟩) [] W0 from
        ⟨some ⟨w5.heap.size, 0, none⟩, 2, q1, q1f, by simpa using hown, (fun b ⟨y, hy, e⟩ => by simp only [Option.some.injEq] at hy; subst hy; exact .inl e.symm), Tch.refl _ _⟩)
      have HT0 := Kp.mk (HT5.out.strans q6)
      have H50 := Kp.mk (q6.scell h55)
      have HC0 := Kp.mk (CC.out _ HT0.out)
      clear hown q1 q1f q5 q6 HO35 HO5 HT5 h55 HTW HT4 HO34 H5w HO3w HO4 H54 h54 h5w HW HT CC
      refine (wpIn_wide (n := 6)).1 ?_
      refine wpIn_rangeFunc_ownG rfl (by decide) (gf := 81) (lb := #[.pointer (some ⟨w5.heap.size + 1 + 1, 0, none⟩), .pointer (some ⟨w5.heap.size + 1 + 1 + 1, 0, none⟩)]) rfl trivial (enters_of Try.func81 (by kernel_rfl) rfl)
        (chunk_stops Fence.wide 5 trivial rfl (by decide) (w5.heap.size + 1 + 1) (w5.heap.size + 1 + 1 + 1) body.length cB N AB hA (by omega) (by omega) (by omega) hcB W0 (by omega) (by omega) q2 q3)
        Box2.trans (fun W l o o' hl _ _ _ => box2_put (by omega) (by omega) W l o' hl) (Below.refl _ _) (fun _ => rfl)
        (CutJ w W0 w5.heap.size [⟨1, ch, m.putB⟩, ⟨2, ch, hd ++ p.putB⟩] (fun i => ⟨3, ch, (body.drop (i * N)).take N⟩)) (fun _ _ _ => False)
        (CutJ.from _ _ _ _ _) (fun _ _ _ _ _ hs _ _ => hs) HJ0.out ?a1 ?assign ?body ?done ?stop
      case assign =>
        intro l x W K hK
        gi_wp2
        exact hK
      case body =>
        rintro l pre x W ⟨A, c, hI⟩ hlt
        have x1 := hI.box
        have xf := hI.frz
        have x5 := hI.tch.cell H50.out (fun e => by have := e; simp only at this; omega)
        have hcv : chunkA AB body.length N x = .slice (AB.map fun a => a.add (x * N)) ((body.drop (x * N)).take N).length ((body.drop (x * N)).take N).length := by simp only [chunkA, chunk_len]
        have hdl : ((body.drop (x * N)).take N).length ≤ 4096 := by rw [List.length_take]; omega
        have CLN := Kp.mk (fun Wx (h : Still W Wx) => clone52 ((body.drop (x * N)).take N) (AB.map fun a => a.add (x * N)) ((body.drop (x * N)).take N).length Wx _ (((chunk_bs HC0.out N x).tch hI.tch (fun b hb e => by omega)).still h) (by omega))
        have hml : (pre.map fun i => (⟨3, ch, (body.drop (i * N)).take N⟩ : Fr)).length = pre.length := List.length_map _
        have hfin : [(⟨1, ch, m.putB⟩ : Fr), ⟨2, ch, hd ++ p.putB⟩] ++ (pre ++ [x]).map (fun i => (⟨3, ch, (body.drop (i * N)).take N⟩ : Fr)) = ([(⟨1, ch, m.putB⟩ : Fr), ⟨2, ch, hd ++ p.putB⟩] ++ pre.map (fun i => (⟨3, ch, (body.drop (i * N)).take N⟩ : Fr))) ++ [⟨3, ch, (body.drop (x * N)).take N⟩] := by simp
        have HFIN := Kp.mk hfin; clear hfin
        simp only [hcv]
        have hfl : ([(⟨1, ch, m.putB⟩ : Fr), ⟨2, ch, hd ++ p.putB⟩] ++ pre.map (fun i => (⟨3, ch, (body.drop (i * N)).take N⟩ : Fr))).length ≤ 65538 := by rw [List.length_append, hml]; simp only [List.length_cons, List.length_nil]; omega
        generalize [(⟨1, ch, m.putB⟩ : Fr), ⟨2, ch, hd ++ p.putB⟩] ++ pre.map (fun i => (⟨3, ch, (body.drop (i * N)).take N⟩ : Fr)) = fs at *
        generalize (body.drop (x * N)).take N = dd at *
        generalize (AB.map fun a => a.add (x * N)) = BB at *
        have HGW := Kp.mk (show w5.heap.size + 4 ≤ W.heap.size by have := hI.tch.size; omega)
        have HNB := Kp.mk (show ¬ blk A (w5.heap.size + 1) from fun h => by have := hI.new _ h; omega)
        have BSN := Kp.mk (show ∀ (w7 : World) (o : Obj), ∀ (B7 : Option Addr), Bs w7 (fun b => W.drew.heap.size ≤ b) B7 dd → Still W.drew w7 → Bs (w7.alloc o) (fun b => (w.heap.size ≤ b ∧ b ≠ w5.heap.size + 1) ∧ ¬ blk A b) B7 dd from fun w7 o B7 h _ => (h.still ((Still.refl w7).alloc o)).weak (fun b hb => by
          have h1 := HGW.out
          have hb' : W.heap.size ≤ b := hb
          exact ⟨by omega, fun h => by have := (hI.own.base h).2; omega⟩))
        gi_wp2
        refine wpIn_region_any (by kernel_rfl) ?_
        try (change wpAnyIn _ _ _ _ _ _ _ _ _ (World.drew _))
        refine wpAnyIn_ready (rs := [0, 1, 2]) (by kernel_rfl) (by simp) ?_
        refine AllReadyIn.cons rfl (fun K hK => ?_) ?_
        · (go_simp)
          refine hK _ _ ?_; clear hK K
          refine wpAnyIn_ready (rs := [1, 2]) (by kernel_rfl) (by simp) ?_
          refine AllReadyIn.cons rfl (fun K hK => ?_) ?_
          · (go_simp)
            refine hK _ _ ?_; clear hK K
            refine wpAnyIn_ready (rs := [2]) (by kernel_rfl) (by simp) ?_
            refine AllReadyIn.cons rfl (fun K hK => ?_) ?_
            · (go_simp)
              refine hK _ _ ?_; clear hK K
              refine wpAnyIn_ready (rs := [3]) (by kernel_rfl) (by simp) ?_
              refine AllReadyIn.cons rfl (fun K hK => ?_) ?_
              · (go_simp; refine ⟨trivial, ?_⟩; gi_at_call 52; refine (CallsIn.inRound l (callsIn_wide.2 (CLN.out _ ((Still.refl W).drew)))).mono ?_; rintro e w7 ⟨B7, c7, rfl, hb7, ht7⟩; have x17 := ht7.out.scell x1; have x57 := ht7.out.scell x5; have z17 := fun o => ((Still.refl w7).alloc o).scell x17; have z57 := fun o => ((Still.refl w7).alloc o).scell x57; (try go_simp))
                refine hK _ _ ?_; clear hK K
                refine wpAnyIn_ready (rs := [4]) (by kernel_rfl) (by simp) ?_
                refine AllReadyIn.cons rfl (fun K hK => ?_) ?_
                · (go_simp)
                  refine hK _ _ ?_; clear hK K
                  refine wpAnyIn_ready (rs := [5]) (by kernel_rfl) (by simp) ?_
                  refine AllReadyIn.cons rfl (fun K hK => ?_) ?_
                  · (go_simp)
                    refine hK _ _ ?_; clear hK K
                    refine wpAnyIn_ready (rs := [6]) (by kernel_rfl) (by simp) ?_
                    refine AllReadyIn.cons rfl (fun K hK => ?_) ?_
                    · (refine step_appF _ (by rfl) _ _ rfl w5.heap.size (fun b => w.heap.size ≤ b ∧ b ≠ w5.heap.size + 1) A c _ fs rfl rfl (hI.own.still ((((Still.refl W).drew).strans ht7.out).alloc _)) w7.heap.size 0 1 ⟨3, ch, dd⟩ B7 c7 rfl ?_ ?_ ?_ ?_ hb7.out.2.1 hb7.out.2.2 ?_ ?_ ?_; (exact cell_new' rfl rfl); (exact cell_new' rfl rfl); (exact cell_new' rfl rfl); (exact BSN.out _ _ _ hb7.out.1 ht7.out); (omega); (have := HGW.out; have := ht7.out.size; simp only [World.size_alloc]; simp only [World.size_drew] at this; omega); intro A8 c8 w8 ho8 ht8 hat8; have H8 := Kp.mk (cut_round (n := fs.length + 1) rfl hI (by omega) ht7.out ht8 ho8 hat8); have x18 := ht8.cell (z17 _) HNB.out; have x18f := (ht8.frozen (a := ⟨w5.heap.size + 1, 0, none⟩) (World.block_lt_of_cell? _ _ (z17 _)) HNB.out).trans (((((Still.refl W).drew).strans ht7.out).alloc _).frozen (a := ⟨w5.heap.size + 1, 0, none⟩) (World.block_lt_of_cell? _ _ x1) (fun f => f)); rw [xf] at x18f; clear ho8 ht8 hat8)
                      refine hK _ _ ?_; clear hK K
                      refine wpAnyIn_ready (rs := [7]) (by kernel_rfl) (by simp) ?_
                      refine AllReadyIn.cons rfl (fun K hK => ?_) ?_
                      · (go_simp)
                        refine hK _ _ ?_; clear hK K
                        refine wpAnyIn_done (by kernel_rfl) ?_ _
                        simp only [Exit.inBlock, Exit.then]
                        exact ⟨H8.out.1, H8.out.2.1, A8, c8, by rw [HFIN.out]; exact H8.out.2.2⟩
                      exact AllReadyIn.nil
                    exact AllReadyIn.nil
                  exact AllReadyIn.nil
                exact AllReadyIn.nil
              exact AllReadyIn.nil
            exact AllReadyIn.nil
          refine AllReadyIn.cons rfl (fun K hK => ?_) ?_
          · (go_simp)
            refine hK _ _ ?_; clear hK K
            refine wpAnyIn_ready (rs := [1, 3]) (by kernel_rfl) (by simp) ?_
            refine AllReadyIn.cons rfl (fun K hK => ?_) ?_
            · (go_simp)
              refine hK _ _ ?_; clear hK K
              refine wpAnyIn_ready (rs := [3]) (by kernel_rfl) (by simp) ?_
              refine AllReadyIn.cons rfl (fun K hK => ?_) ?_
              · (go_simp; refine ⟨trivial, ?_⟩; gi_at_call 52; refine (CallsIn.inRound l (callsIn_wide.2 (CLN.out _ ((Still.refl W).drew)))).mono ?_; rintro e w7 ⟨B7, c7, rfl, hb7, ht7⟩; have x17 := ht7.out.scell x1; have x57 := ht7.out.scell x5; have z17 := fun o => ((Still.refl w7).alloc o).scell x17; have z57 := fun o => ((Still.refl w7).alloc o).scell x57; (try go_simp))
                refine hK _ _ ?_; clear hK K
                refine wpAnyIn_ready (rs := [4]) (by kernel_rfl) (by simp) ?_
                refine AllReadyIn.cons rfl (fun K hK => ?_) ?_
                · (go_simp)
                  refine hK _ _ ?_; clear hK K
                  refine wpAnyIn_ready (rs := [5]) (by kernel_rfl) (by simp) ?_
                  refine AllReadyIn.cons rfl (fun K hK => ?_) ?_
                  · (go_simp)
                    refine hK _ _ ?_; clear hK K
                    refine wpAnyIn_ready (rs := [6]) (by kernel_rfl) (by simp) ?_
                    refine AllReadyIn.cons rfl (fun K hK => ?_) ?_
                    · (refine step_appF _ (by rfl) _ _ rfl w5.heap.size (fun b => w.heap.size ≤ b ∧ b ≠ w5.heap.size + 1) A c _ fs rfl rfl (hI.own.still ((((Still.refl W).drew).strans ht7.out).alloc _)) w7.heap.size 0 1 ⟨3, ch, dd⟩ B7 c7 rfl ?_ ?_ ?_ ?_ hb7.out.2.1 hb7.out.2.2 ?_ ?_ ?_; (exact cell_new' rfl rfl); (exact cell_new' rfl rfl); (exact cell_new' rfl rfl); (exact BSN.out _ _ _ hb7.out.1 ht7.out); (omega); (have := HGW.out; have := ht7.out.size; simp only [World.size_alloc]; simp only [World.size_drew] at this; omega); intro A8 c8 w8 ho8 ht8 hat8; have H8 := Kp.mk (cut_round (n := fs.length + 1) rfl hI (by omega) ht7.out ht8 ho8 hat8); have x18 := ht8.cell (z17 _) HNB.out; have x18f := (ht8.frozen (a := ⟨w5.heap.size + 1, 0, none⟩) (World.block_lt_of_cell? _ _ (z17 _)) HNB.out).trans (((((Still.refl W).drew).strans ht7.out).alloc _).frozen (a := ⟨w5.heap.size + 1, 0, none⟩) (World.block_lt_of_cell? _ _ x1) (fun f => f)); rw [xf] at x18f; clear ho8 ht8 hat8)
                      refine hK _ _ ?_; clear hK K
                      refine wpAnyIn_ready (rs := [7]) (by kernel_rfl) (by simp) ?_
                      refine AllReadyIn.cons rfl (fun K hK => ?_) ?_
                      · (go_simp)
                        refine hK _ _ ?_; clear hK K
                        refine wpAnyIn_done (by kernel_rfl) ?_ _
                        simp only [Exit.inBlock, Exit.then]
                        exact ⟨H8.out.1, H8.out.2.1, A8, c8, by rw [HFIN.out]; exact H8.out.2.2⟩
                      exact AllReadyIn.nil
                    exact AllReadyIn.nil
                  exact AllReadyIn.nil
                exact AllReadyIn.nil
              exact AllReadyIn.nil
            refine AllReadyIn.cons rfl (fun K hK => ?_) ?_
            · (go_simp; refine ⟨trivial, ?_⟩; gi_at_call 52; refine (CallsIn.inRound l (callsIn_wide.2 (CLN.out _ ((Still.refl W).drew)))).mono ?_; rintro e w7 ⟨B7, c7, rfl, hb7, ht7⟩; have x17 := ht7.out.scell x1; have x57 := ht7.out.scell x5; have z17 := fun o => ((Still.refl w7).alloc o).scell x17; have z57 := fun o => ((Still.refl w7).alloc o).scell x57; (try go_simp))
              refine hK _ _ ?_; clear hK K
              refine wpAnyIn_ready (rs := [1]) (by kernel_rfl) (by simp) ?_
              refine AllReadyIn.cons rfl (fun K hK => ?_) ?_
              · (go_simp)
                refine hK _ _ ?_; clear hK K
                refine wpAnyIn_ready (rs := [4]) (by kernel_rfl) (by simp) ?_
                refine AllReadyIn.cons rfl (fun K hK => ?_) ?_
                · (go_simp)
                  refine hK _ _ ?_; clear hK K
                  refine wpAnyIn_ready (rs := [5]) (by kernel_rfl) (by simp) ?_
                  refine AllReadyIn.cons rfl (fun K hK => ?_) ?_
                  · (go_simp)
                    refine hK _ _ ?_; clear hK K
                    refine wpAnyIn_ready (rs := [6]) (by kernel_rfl) (by simp) ?_
                    refine AllReadyIn.cons rfl (fun K hK => ?_) ?_
                    · (refine step_appF _ (by rfl) _ _ rfl w5.heap.size (fun b => w.heap.size ≤ b ∧ b ≠ w5.heap.size + 1) A c _ fs rfl rfl (hI.own.still ((((Still.refl W).drew).strans ht7.out).alloc _)) w7.heap.size 0 1 ⟨3, ch, dd⟩ B7 c7 rfl ?_ ?_ ?_ ?_ hb7.out.2.1 hb7.out.2.2 ?_ ?_ ?_; (exact cell_new' rfl rfl); (exact cell_new' rfl rfl); (exact cell_new' rfl rfl); (exact BSN.out _ _ _ hb7.out.1 ht7.out); (omega); (have := HGW.out; have := ht7.out.size; simp only [World.size_alloc]; simp only [World.size_drew] at this; omega); intro A8 c8 w8 ho8 ht8 hat8; have H8 := Kp.mk (cut_round (n := fs.length + 1) rfl hI (by omega) ht7.out ht8 ho8 hat8); have x18 := ht8.cell (z17 _) HNB.out; have x18f := (ht8.frozen (a := ⟨w5.heap.size + 1, 0, none⟩) (World.block_lt_of_cell? _ _ (z17 _)) HNB.out).trans (((((Still.refl W).drew).strans ht7.out).alloc _).frozen (a := ⟨w5.heap.size + 1, 0, none⟩) (World.block_lt_of_cell? _ _ x1) (fun f => f)); rw [xf] at x18f; clear ho8 ht8 hat8)
                      refine hK _ _ ?_; clear hK K
                      refine wpAnyIn_ready (rs := [7]) (by kernel_rfl) (by simp) ?_
                      refine AllReadyIn.cons rfl (fun K hK => ?_) ?_
                      · (go_simp)
                        refine hK _ _ ?_; clear hK K
                        refine wpAnyIn_done (by kernel_rfl) ?_ _
                        simp only [Exit.inBlock, Exit.then]
                        exact ⟨H8.out.1, H8.out.2.1, A8, c8, by rw [HFIN.out]; exact H8.out.2.2⟩
                      exact AllReadyIn.nil
                    exact AllReadyIn.nil
                  exact AllReadyIn.nil
                exact AllReadyIn.nil
              exact AllReadyIn.nil
            exact AllReadyIn.nil
          exact AllReadyIn.nil
        refine AllReadyIn.cons rfl (fun K hK => ?_) ?_
        · (go_simp)
          refine hK _ _ ?_; clear hK K
          refine wpAnyIn_ready (rs := [0, 2]) (by kernel_rfl) (by simp) ?_
          refine AllReadyIn.cons rfl (fun K hK => ?_) ?_
          · (go_simp)
            refine hK _ _ ?_; clear hK K
            refine wpAnyIn_ready (rs := [2]) (by kernel_rfl) (by simp) ?_
            refine AllReadyIn.cons rfl (fun K hK => ?_) ?_
            · (go_simp)
              refine hK _ _ ?_; clear hK K
              refine wpAnyIn_ready (rs := [3]) (by kernel_rfl) (by simp) ?_
              refine AllReadyIn.cons rfl (fun K hK => ?_) ?_
              · (go_simp; refine ⟨trivial, ?_⟩; gi_at_call 52; refine (CallsIn.inRound l (callsIn_wide.2 (CLN.out _ ((Still.refl W).drew)))).mono ?_; rintro e w7 ⟨B7, c7, rfl, hb7, ht7⟩; have x17 := ht7.out.scell x1; have x57 := ht7.out.scell x5; have z17 := fun o => ((Still.refl w7).alloc o).scell x17; have z57 := fun o => ((Still.refl w7).alloc o).scell x57; (try go_simp))
                refine hK _ _ ?_; clear hK K
                refine wpAnyIn_ready (rs := [4]) (by kernel_rfl) (by simp) ?_
                refine AllReadyIn.cons rfl (fun K hK => ?_) ?_
                · (go_simp)
                  refine hK _ _ ?_; clear hK K
                  refine wpAnyIn_ready (rs := [5]) (by kernel_rfl) (by simp) ?_
                  refine AllReadyIn.cons rfl (fun K hK => ?_) ?_
                  · (go_simp)
                    refine hK _ _ ?_; clear hK K
                    refine wpAnyIn_ready (rs := [6]) (by kernel_rfl) (by simp) ?_
                    refine AllReadyIn.cons rfl (fun K hK => ?_) ?_
                    · (refine step_appF _ (by rfl) _ _ rfl w5.heap.size (fun b => w.heap.size ≤ b ∧ b ≠ w5.heap.size + 1) A c _ fs rfl rfl (hI.own.still ((((Still.refl W).drew).strans ht7.out).alloc _)) w7.heap.size 0 1 ⟨3, ch, dd⟩ B7 c7 rfl ?_ ?_ ?_ ?_ hb7.out.2.1 hb7.out.2.2 ?_ ?_ ?_; (exact cell_new' rfl rfl); (exact cell_new' rfl rfl); (exact cell_new' rfl rfl); (exact BSN.out _ _ _ hb7.out.1 ht7.out); (omega); (have := HGW.out; have := ht7.out.size; simp only [World.size_alloc]; simp only [World.size_drew] at this; omega); intro A8 c8 w8 ho8 ht8 hat8; have H8 := Kp.mk (cut_round (n := fs.length + 1) rfl hI (by omega) ht7.out ht8 ho8 hat8); have x18 := ht8.cell (z17 _) HNB.out; have x18f := (ht8.frozen (a := ⟨w5.heap.size + 1, 0, none⟩) (World.block_lt_of_cell? _ _ (z17 _)) HNB.out).trans (((((Still.refl W).drew).strans ht7.out).alloc _).frozen (a := ⟨w5.heap.size + 1, 0, none⟩) (World.block_lt_of_cell? _ _ x1) (fun f => f)); rw [xf] at x18f; clear ho8 ht8 hat8)
                      refine hK _ _ ?_; clear hK K
                      refine wpAnyIn_ready (rs := [7]) (by kernel_rfl) (by simp) ?_
                      refine AllReadyIn.cons rfl (fun K hK => ?_) ?_
                      · (go_simp)
                        refine hK _ _ ?_; clear hK K
                        refine wpAnyIn_done (by kernel_rfl) ?_ _
                        simp only [Exit.inBlock, Exit.then]
                        exact ⟨H8.out.1, H8.out.2.1, A8, c8, by rw [HFIN.out]; exact H8.out.2.2⟩
                      exact AllReadyIn.nil
                    exact AllReadyIn.nil
                  exact AllReadyIn.nil
                exact AllReadyIn.nil
              exact AllReadyIn.nil
            exact AllReadyIn.nil
          refine AllReadyIn.cons rfl (fun K hK => ?_) ?_
          · (go_simp)
            refine hK _ _ ?_; clear hK K
            refine wpAnyIn_ready (rs := [0, 3]) (by kernel_rfl) (by simp) ?_
            refine AllReadyIn.cons rfl (fun K hK => ?_) ?_
            · (go_simp)
              refine hK _ _ ?_; clear hK K
              refine wpAnyIn_ready (rs := [3]) (by kernel_rfl) (by simp) ?_
              refine AllReadyIn.cons rfl (fun K hK => ?_) ?_
              · (go_simp; refine ⟨trivial, ?_⟩; gi_at_call 52; refine (CallsIn.inRound l (callsIn_wide.2 (CLN.out _ ((Still.refl W).drew)))).mono ?_; rintro e w7 ⟨B7, c7, rfl, hb7, ht7⟩; have x17 := ht7.out.scell x1; have x57 := ht7.out.scell x5; have z17 := fun o => ((Still.refl w7).alloc o).scell x17; have z57 := fun o => ((Still.refl w7).alloc o).scell x57; (try go_simp))
                refine hK _ _ ?_; clear hK K
                refine wpAnyIn_ready (rs := [4]) (by kernel_rfl) (by simp) ?_
                refine AllReadyIn.cons rfl (fun K hK => ?_) ?_
                · (go_simp)
                  refine hK _ _ ?_; clear hK K
                  refine wpAnyIn_ready (rs := [5]) (by kernel_rfl) (by simp) ?_
                  refine AllReadyIn.cons rfl (fun K hK => ?_) ?_
                  · (go_simp)
                    refine hK _ _ ?_; clear hK K
                    refine wpAnyIn_ready (rs := [6]) (by kernel_rfl) (by simp) ?_
                    refine AllReadyIn.cons rfl (fun K hK => ?_) ?_
                    · (refine step_appF _ (by rfl) _ _ rfl w5.heap.size (fun b => w.heap.size ≤ b ∧ b ≠ w5.heap.size + 1) A c _ fs rfl rfl (hI.own.still ((((Still.refl W).drew).strans ht7.out).alloc _)) w7.heap.size 0 1 ⟨3, ch, dd⟩ B7 c7 rfl ?_ ?_ ?_ ?_ hb7.out.2.1 hb7.out.2.2 ?_ ?_ ?_; (exact cell_new' rfl rfl); (exact cell_new' rfl rfl); (exact cell_new' rfl rfl); (exact BSN.out _ _ _ hb7.out.1 ht7.out); (omega); (have := HGW.out; have := ht7.out.size; simp only [World.size_alloc]; simp only [World.size_drew] at this; omega); intro A8 c8 w8 ho8 ht8 hat8; have H8 := Kp.mk (cut_round (n := fs.length + 1) rfl hI (by omega) ht7.out ht8 ho8 hat8); have x18 := ht8.cell (z17 _) HNB.out; have x18f := (ht8.frozen (a := ⟨w5.heap.size + 1, 0, none⟩) (World.block_lt_of_cell? _ _ (z17 _)) HNB.out).trans (((((Still.refl W).drew).strans ht7.out).alloc _).frozen (a := ⟨w5.heap.size + 1, 0, none⟩) (World.block_lt_of_cell? _ _ x1) (fun f => f)); rw [xf] at x18f; clear ho8 ht8 hat8)
                      refine hK _ _ ?_; clear hK K
                      refine wpAnyIn_ready (rs := [7]) (by kernel_rfl) (by simp) ?_
                      refine AllReadyIn.cons rfl (fun K hK => ?_) ?_
                      · (go_simp)
                        refine hK _ _ ?_; clear hK K
                        refine wpAnyIn_done (by kernel_rfl) ?_ _
                        simp only [Exit.inBlock, Exit.then]
                        exact ⟨H8.out.1, H8.out.2.1, A8, c8, by rw [HFIN.out]; exact H8.out.2.2⟩
                      exact AllReadyIn.nil
                    exact AllReadyIn.nil
                  exact AllReadyIn.nil
                exact AllReadyIn.nil
              exact AllReadyIn.nil
            refine AllReadyIn.cons rfl (fun K hK => ?_) ?_
            · (go_simp; refine ⟨trivial, ?_⟩; gi_at_call 52; refine (CallsIn.inRound l (callsIn_wide.2 (CLN.out _ ((Still.refl W).drew)))).mono ?_; rintro e w7 ⟨B7, c7, rfl, hb7, ht7⟩; have x17 := ht7.out.scell x1; have x57 := ht7.out.scell x5; have z17 := fun o => ((Still.refl w7).alloc o).scell x17; have z57 := fun o => ((Still.refl w7).alloc o).scell x57; (try go_simp))
              refine hK _ _ ?_; clear hK K
              refine wpAnyIn_ready (rs := [0, 4]) (by kernel_rfl) (by simp) ?_
              refine AllReadyIn.cons rfl (fun K hK => ?_) ?_
              · (go_simp)
                refine hK _ _ ?_; clear hK K
                refine wpAnyIn_ready (rs := [4]) (by kernel_rfl) (by simp) ?_
                refine AllReadyIn.cons rfl (fun K hK => ?_) ?_
                · (go_simp)
                  refine hK _ _ ?_; clear hK K
                  refine wpAnyIn_ready (rs := [5]) (by kernel_rfl) (by simp) ?_
                  refine AllReadyIn.cons rfl (fun K hK => ?_) ?_
                  · (go_simp)
                    refine hK _ _ ?_; clear hK K
                    refine wpAnyIn_ready (rs := [6]) (by kernel_rfl) (by simp) ?_
                    refine AllReadyIn.cons rfl (fun K hK => ?_) ?_
                    · (refine step_appF _ (by rfl) _ _ rfl w5.heap.size (fun b => w.heap.size ≤ b ∧ b ≠ w5.heap.size + 1) A c _ fs rfl rfl (hI.own.still ((((Still.refl W).drew).strans ht7.out).alloc _)) w7.heap.size 0 1 ⟨3, ch, dd⟩ B7 c7 rfl ?_ ?_ ?_ ?_ hb7.out.2.1 hb7.out.2.2 ?_ ?_ ?_; (exact cell_new' rfl rfl); (exact cell_new' rfl rfl); (exact cell_new' rfl rfl); (exact BSN.out _ _ _ hb7.out.1 ht7.out); (omega); (have := HGW.out; have := ht7.out.size; simp only [World.size_alloc]; simp only [World.size_drew] at this; omega); intro A8 c8 w8 ho8 ht8 hat8; have H8 := Kp.mk (cut_round (n := fs.length + 1) rfl hI (by omega) ht7.out ht8 ho8 hat8); have x18 := ht8.cell (z17 _) HNB.out; have x18f := (ht8.frozen (a := ⟨w5.heap.size + 1, 0, none⟩) (World.block_lt_of_cell? _ _ (z17 _)) HNB.out).trans (((((Still.refl W).drew).strans ht7.out).alloc _).frozen (a := ⟨w5.heap.size + 1, 0, none⟩) (World.block_lt_of_cell? _ _ x1) (fun f => f)); rw [xf] at x18f; clear ho8 ht8 hat8)
                      refine hK _ _ ?_; clear hK K
                      refine wpAnyIn_ready (rs := [7]) (by kernel_rfl) (by simp) ?_
                      refine AllReadyIn.cons rfl (fun K hK => ?_) ?_
                      · (go_simp)
                        refine hK _ _ ?_; clear hK K
                        refine wpAnyIn_done (by kernel_rfl) ?_ _
                        simp only [Exit.inBlock, Exit.then]
                        exact ⟨H8.out.1, H8.out.2.1, A8, c8, by rw [HFIN.out]; exact H8.out.2.2⟩
                      exact AllReadyIn.nil
                    exact AllReadyIn.nil
                  exact AllReadyIn.nil
                exact AllReadyIn.nil
              refine AllReadyIn.cons rfl (fun K hK => ?_) ?_
              · (go_simp)
                refine hK _ _ ?_; clear hK K
                refine wpAnyIn_ready (rs := [0, 5]) (by kernel_rfl) (by simp) ?_
                refine AllReadyIn.cons rfl (fun K hK => ?_) ?_
                · (go_simp)
                  refine hK _ _ ?_; clear hK K
                  refine wpAnyIn_ready (rs := [5]) (by kernel_rfl) (by simp) ?_
                  refine AllReadyIn.cons rfl (fun K hK => ?_) ?_
                  · (go_simp)
                    refine hK _ _ ?_; clear hK K
                    refine wpAnyIn_ready (rs := [6]) (by kernel_rfl) (by simp) ?_
                    refine AllReadyIn.cons rfl (fun K hK => ?_) ?_
                    · (refine step_appF _ (by rfl) _ _ rfl w5.heap.size (fun b => w.heap.size ≤ b ∧ b ≠ w5.heap.size + 1) A c _ fs rfl rfl (hI.own.still ((((Still.refl W).drew).strans ht7.out).alloc _)) w7.heap.size 0 1 ⟨3, ch, dd⟩ B7 c7 rfl ?_ ?_ ?_ ?_ hb7.out.2.1 hb7.out.2.2 ?_ ?_ ?_; (exact cell_new' rfl rfl); (exact cell_new' rfl rfl); (exact cell_new' rfl rfl); (exact BSN.out _ _ _ hb7.out.1 ht7.out); (omega); (have := HGW.out; have := ht7.out.size; simp only [World.size_alloc]; simp only [World.size_drew] at this; omega); intro A8 c8 w8 ho8 ht8 hat8; have H8 := Kp.mk (cut_round (n := fs.length + 1) rfl hI (by omega) ht7.out ht8 ho8 hat8); have x18 := ht8.cell (z17 _) HNB.out; have x18f := (ht8.frozen (a := ⟨w5.heap.size + 1, 0, none⟩) (World.block_lt_of_cell? _ _ (z17 _)) HNB.out).trans (((((Still.refl W).drew).strans ht7.out).alloc _).frozen (a := ⟨w5.heap.size + 1, 0, none⟩) (World.block_lt_of_cell? _ _ x1) (fun f => f)); rw [xf] at x18f; clear ho8 ht8 hat8)
                      refine hK _ _ ?_; clear hK K
                      refine wpAnyIn_ready (rs := [7]) (by kernel_rfl) (by simp) ?_
                      refine AllReadyIn.cons rfl (fun K hK => ?_) ?_
                      · (go_simp)
                        refine hK _ _ ?_; clear hK K
                        refine wpAnyIn_done (by kernel_rfl) ?_ _
                        simp only [Exit.inBlock, Exit.then]
                        exact ⟨H8.out.1, H8.out.2.1, A8, c8, by rw [HFIN.out]; exact H8.out.2.2⟩
                      exact AllReadyIn.nil
                    exact AllReadyIn.nil
                  exact AllReadyIn.nil
                refine AllReadyIn.cons rfl (fun K hK => ?_) ?_
                · (go_simp)
                  refine hK _ _ ?_; clear hK K
                  refine wpAnyIn_ready (rs := [0]) (by kernel_rfl) (by simp) ?_
                  refine AllReadyIn.cons rfl (fun K hK => ?_) ?_
                  · (go_simp)
                    refine hK _ _ ?_; clear hK K
                    refine wpAnyIn_ready (rs := [6]) (by kernel_rfl) (by simp) ?_
                    refine AllReadyIn.cons rfl (fun K hK => ?_) ?_
                    · (refine step_appF _ (by rfl) _ _ rfl w5.heap.size (fun b => w.heap.size ≤ b ∧ b ≠ w5.heap.size + 1) A c _ fs rfl rfl (hI.own.still ((((Still.refl W).drew).strans ht7.out).alloc _)) w7.heap.size 0 1 ⟨3, ch, dd⟩ B7 c7 rfl ?_ ?_ ?_ ?_ hb7.out.2.1 hb7.out.2.2 ?_ ?_ ?_; (exact cell_new' rfl rfl); (exact cell_new' rfl rfl); (exact cell_new' rfl rfl); (exact BSN.out _ _ _ hb7.out.1 ht7.out); (omega); (have := HGW.out; have := ht7.out.size; simp only [World.size_alloc]; simp only [World.size_drew] at this; omega); intro A8 c8 w8 ho8 ht8 hat8; have H8 := Kp.mk (cut_round (n := fs.length + 1) rfl hI (by omega) ht7.out ht8 ho8 hat8); have x18 := ht8.cell (z17 _) HNB.out; have x18f := (ht8.frozen (a := ⟨w5.heap.size + 1, 0, none⟩) (World.block_lt_of_cell? _ _ (z17 _)) HNB.out).trans (((((Still.refl W).drew).strans ht7.out).alloc _).frozen (a := ⟨w5.heap.size + 1, 0, none⟩) (World.block_lt_of_cell? _ _ x1) (fun f => f)); rw [xf] at x18f; clear ho8 ht8 hat8)
                      refine hK _ _ ?_; clear hK K
                      refine wpAnyIn_ready (rs := [7]) (by kernel_rfl) (by simp) ?_
                      refine AllReadyIn.cons rfl (fun K hK => ?_) ?_
                      · (go_simp)
                        refine hK _ _ ?_; clear hK K
                        refine wpAnyIn_done (by kernel_rfl) ?_ _
                        simp only [Exit.inBlock, Exit.then]
                        exact ⟨H8.out.1, H8.out.2.1, A8, c8, by rw [HFIN.out]; exact H8.out.2.2⟩
                      exact AllReadyIn.nil
                    exact AllReadyIn.nil
                  exact AllReadyIn.nil
                exact AllReadyIn.nil
              exact AllReadyIn.nil
            exact AllReadyIn.nil
          exact AllReadyIn.nil
        refine AllReadyIn.cons rfl (fun K hK => ?_) ?_
        · (go_simp)
          refine hK _ _ ?_; clear hK K
          refine wpAnyIn_ready (rs := [0, 1, 3]) (by kernel_rfl) (by simp) ?_
          refine AllReadyIn.cons rfl (fun K hK => ?_) ?_
          · (go_simp)
            refine hK _ _ ?_; clear hK K
            refine wpAnyIn_ready (rs := [1, 3]) (by kernel_rfl) (by simp) ?_
            refine AllReadyIn.cons rfl (fun K hK => ?_) ?_
            · (go_simp)
              refine hK _ _ ?_; clear hK K
              refine wpAnyIn_ready (rs := [3]) (by kernel_rfl) (by simp) ?_
              refine AllReadyIn.cons rfl (fun K hK => ?_) ?_
              · (go_simp; refine ⟨trivial, ?_⟩; gi_at_call 52; refine (CallsIn.inRound l (callsIn_wide.2 (CLN.out _ ((Still.refl W).drew)))).mono ?_; rintro e w7 ⟨B7, c7, rfl, hb7, ht7⟩; have x17 := ht7.out.scell x1; have x57 := ht7.out.scell x5; have z17 := fun o => ((Still.refl w7).alloc o).scell x17; have z57 := fun o => ((Still.refl w7).alloc o).scell x57; (try go_simp))
                refine hK _ _ ?_; clear hK K
                refine wpAnyIn_ready (rs := [4]) (by kernel_rfl) (by simp) ?_
                refine AllReadyIn.cons rfl (fun K hK => ?_) ?_
                · (go_simp)
                  refine hK _ _ ?_; clear hK K
                  refine wpAnyIn_ready (rs := [5]) (by kernel_rfl) (by simp) ?_
                  refine AllReadyIn.cons rfl (fun K hK => ?_) ?_
                  · (go_simp)
                    refine hK _ _ ?_; clear hK K
                    refine wpAnyIn_ready (rs := [6]) (by kernel_rfl) (by simp) ?_
                    refine AllReadyIn.cons rfl (fun K hK => ?_) ?_
                    · (refine step_appF _ (by rfl) _ _ rfl w5.heap.size (fun b => w.heap.size ≤ b ∧ b ≠ w5.heap.size + 1) A c _ fs rfl rfl (hI.own.still ((((Still.refl W).drew).strans ht7.out).alloc _)) w7.heap.size 0 1 ⟨3, ch, dd⟩ B7 c7 rfl ?_ ?_ ?_ ?_ hb7.out.2.1 hb7.out.2.2 ?_ ?_ ?_; (exact cell_new' rfl rfl); (exact cell_new' rfl rfl); (exact cell_new' rfl rfl); (exact BSN.out _ _ _ hb7.out.1 ht7.out); (omega); (have := HGW.out; have := ht7.out.size; simp only [World.size_alloc]; simp only [World.size_drew] at this; omega); intro A8 c8 w8 ho8 ht8 hat8; have H8 := Kp.mk (cut_round (n := fs.length + 1) rfl hI (by omega) ht7.out ht8 ho8 hat8); have x18 := ht8.cell (z17 _) HNB.out; have x18f := (ht8.frozen (a := ⟨w5.heap.size + 1, 0, none⟩) (World.block_lt_of_cell? _ _ (z17 _)) HNB.out).trans (((((Still.refl W).drew).strans ht7.out).alloc _).frozen (a := ⟨w5.heap.size + 1, 0, none⟩) (World.block_lt_of_cell? _ _ x1) (fun f => f)); rw [xf] at x18f; clear ho8 ht8 hat8)
                      refine hK _ _ ?_; clear hK K
                      refine wpAnyIn_ready (rs := [7]) (by kernel_rfl) (by simp) ?_
                      refine AllReadyIn.cons rfl (fun K hK => ?_) ?_
                      · (go_simp)
                        refine hK _ _ ?_; clear hK K
                        refine wpAnyIn_done (by kernel_rfl) ?_ _
                        simp only [Exit.inBlock, Exit.then]
                        exact ⟨H8.out.1, H8.out.2.1, A8, c8, by rw [HFIN.out]; exact H8.out.2.2⟩
                      exact AllReadyIn.nil
                    exact AllReadyIn.nil
                  exact AllReadyIn.nil
                exact AllReadyIn.nil
              exact AllReadyIn.nil
            refine AllReadyIn.cons rfl (fun K hK => ?_) ?_
            · (go_simp; refine ⟨trivial, ?_⟩; gi_at_call 52; refine (CallsIn.inRound l (callsIn_wide.2 (CLN.out _ ((Still.refl W).drew)))).mono ?_; rintro e w7 ⟨B7, c7, rfl, hb7, ht7⟩; have x17 := ht7.out.scell x1; have x57 := ht7.out.scell x5; have z17 := fun o => ((Still.refl w7).alloc o).scell x17; have z57 := fun o => ((Still.refl w7).alloc o).scell x57; (try go_simp))
              refine hK _ _ ?_; clear hK K
              refine wpAnyIn_ready (rs := [1]) (by kernel_rfl) (by simp) ?_
              refine AllReadyIn.cons rfl (fun K hK => ?_) ?_
              · (go_simp)
                refine hK _ _ ?_; clear hK K
                refine wpAnyIn_ready (rs := [4]) (by kernel_rfl) (by simp) ?_
                refine AllReadyIn.cons rfl (fun K hK => ?_) ?_
                · (go_simp)
                  refine hK _ _ ?_; clear hK K
                  refine wpAnyIn_ready (rs := [5]) (by kernel_rfl) (by simp) ?_
                  refine AllReadyIn.cons rfl (fun K hK => ?_) ?_
                  · (go_simp)
                    refine hK _ _ ?_; clear hK K
                    refine wpAnyIn_ready (rs := [6]) (by kernel_rfl) (by simp) ?_
                    refine AllReadyIn.cons rfl (fun K hK => ?_) ?_
                    · (refine step_appF _ (by rfl) _ _ rfl w5.heap.size (fun b => w.heap.size ≤ b ∧ b ≠ w5.heap.size + 1) A c _ fs rfl rfl (hI.own.still ((((Still.refl W).drew).strans ht7.out).alloc _)) w7.heap.size 0 1 ⟨3, ch, dd⟩ B7 c7 rfl ?_ ?_ ?_ ?_ hb7.out.2.1 hb7.out.2.2 ?_ ?_ ?_; (exact cell_new' rfl rfl); (exact cell_new' rfl rfl); (exact cell_new' rfl rfl); (exact BSN.out _ _ _ hb7.out.1 ht7.out); (omega); (have := HGW.out; have := ht7.out.size; simp only [World.size_alloc]; simp only [World.size_drew] at this; omega); intro A8 c8 w8 ho8 ht8 hat8; have H8 := Kp.mk (cut_round (n := fs.length + 1) rfl hI (by omega) ht7.out ht8 ho8 hat8); have x18 := ht8.cell (z17 _) HNB.out; have x18f := (ht8.frozen (a := ⟨w5.heap.size + 1, 0, none⟩) (World.block_lt_of_cell? _ _ (z17 _)) HNB.out).trans (((((Still.refl W).drew).strans ht7.out).alloc _).frozen (a := ⟨w5.heap.size + 1, 0, none⟩) (World.block_lt_of_cell? _ _ x1) (fun f => f)); rw [xf] at x18f; clear ho8 ht8 hat8)
                      refine hK _ _ ?_; clear hK K
                      refine wpAnyIn_ready (rs := [7]) (by kernel_rfl) (by simp) ?_
                      refine AllReadyIn.cons rfl (fun K hK => ?_) ?_
                      · (go_simp)
                        refine hK _ _ ?_; clear hK K
                        refine wpAnyIn_done (by kernel_rfl) ?_ _
                        simp only [Exit.inBlock, Exit.then]
                        exact ⟨H8.out.1, H8.out.2.1, A8, c8, by rw [HFIN.out]; exact H8.out.2.2⟩
                      exact AllReadyIn.nil
                    exact AllReadyIn.nil
                  exact AllReadyIn.nil
                exact AllReadyIn.nil
              exact AllReadyIn.nil
            exact AllReadyIn.nil
          refine AllReadyIn.cons rfl (fun K hK => ?_) ?_
          · (go_simp)
            refine hK _ _ ?_; clear hK K
            refine wpAnyIn_ready (rs := [0, 3]) (by kernel_rfl) (by simp) ?_
            refine AllReadyIn.cons rfl (fun K hK => ?_) ?_
            · (go_simp)
              refine hK _ _ ?_; clear hK K
              refine wpAnyIn_ready (rs := [3]) (by kernel_rfl) (by simp) ?_
              refine AllReadyIn.cons rfl (fun K hK => ?_) ?_
              · (go_simp; refine ⟨trivial, ?_⟩; gi_at_call 52; refine (CallsIn.inRound l (callsIn_wide.2 (CLN.out _ ((Still.refl W).drew)))).mono ?_; rintro e w7 ⟨B7, c7, rfl, hb7, ht7⟩; have x17 := ht7.out.scell x1; have x57 := ht7.out.scell x5; have z17 := fun o => ((Still.refl w7).alloc o).scell x17; have z57 := fun o => ((Still.refl w7).alloc o).scell x57; (try go_simp))
                refine hK _ _ ?_; clear hK K
                refine wpAnyIn_ready (rs := [4]) (by kernel_rfl) (by simp) ?_
                refine AllReadyIn.cons rfl (fun K hK => ?_) ?_
                · (go_simp)
                  refine hK _ _ ?_; clear hK K
                  refine wpAnyIn_ready (rs := [5]) (by kernel_rfl) (by simp) ?_
                  refine AllReadyIn.cons rfl (fun K hK => ?_) ?_
                  · (go_simp)
                    refine hK _ _ ?_; clear hK K
                    refine wpAnyIn_ready (rs := [6]) (by kernel_rfl) (by simp) ?_
                    refine AllReadyIn.cons rfl (fun K hK => ?_) ?_
                    · (refine step_appF _ (by rfl) _ _ rfl w5.heap.size (fun b => w.heap.size ≤ b ∧ b ≠ w5.heap.size + 1) A c _ fs rfl rfl (hI.own.still ((((Still.refl W).drew).strans ht7.out).alloc _)) w7.heap.size 0 1 ⟨3, ch, dd⟩ B7 c7 rfl ?_ ?_ ?_ ?_ hb7.out.2.1 hb7.out.2.2 ?_ ?_ ?_; (exact cell_new' rfl rfl); (exact cell_new' rfl rfl); (exact cell_new' rfl rfl); (exact BSN.out _ _ _ hb7.out.1 ht7.out); (omega); (have := HGW.out; have := ht7.out.size; simp only [World.size_alloc]; simp only [World.size_drew] at this; omega); intro A8 c8 w8 ho8 ht8 hat8; have H8 := Kp.mk (cut_round (n := fs.length + 1) rfl hI (by omega) ht7.out ht8 ho8 hat8); have x18 := ht8.cell (z17 _) HNB.out; have x18f := (ht8.frozen (a := ⟨w5.heap.size + 1, 0, none⟩) (World.block_lt_of_cell? _ _ (z17 _)) HNB.out).trans (((((Still.refl W).drew).strans ht7.out).alloc _).frozen (a := ⟨w5.heap.size + 1, 0, none⟩) (World.block_lt_of_cell? _ _ x1) (fun f => f)); rw [xf] at x18f; clear ho8 ht8 hat8)
                      refine hK _ _ ?_; clear hK K
                      refine wpAnyIn_ready (rs := [7]) (by kernel_rfl) (by simp) ?_
                      refine AllReadyIn.cons rfl (fun K hK => ?_) ?_
                      · (go_simp)
                        refine hK _ _ ?_; clear hK K
                        refine wpAnyIn_done (by kernel_rfl) ?_ _
                        simp only [Exit.inBlock, Exit.then]
                        exact ⟨H8.out.1, H8.out.2.1, A8, c8, by rw [HFIN.out]; exact H8.out.2.2⟩
                      exact AllReadyIn.nil
                    exact AllReadyIn.nil
                  exact AllReadyIn.nil
                exact AllReadyIn.nil
              exact AllReadyIn.nil
            refine AllReadyIn.cons rfl (fun K hK => ?_) ?_
            · (go_simp; refine ⟨trivial, ?_⟩; gi_at_call 52; refine (CallsIn.inRound l (callsIn_wide.2 (CLN.out _ ((Still.refl W).drew)))).mono ?_; rintro e w7 ⟨B7, c7, rfl, hb7, ht7⟩; have x17 := ht7.out.scell x1; have x57 := ht7.out.scell x5; have z17 := fun o => ((Still.refl w7).alloc o).scell x17; have z57 := fun o => ((Still.refl w7).alloc o).scell x57; (try go_simp))
              refine hK _ _ ?_; clear hK K
              refine wpAnyIn_ready (rs := [0, 4]) (by kernel_rfl) (by simp) ?_
              refine AllReadyIn.cons rfl (fun K hK => ?_) ?_
              · (go_simp)
                refine hK _ _ ?_; clear hK K
                refine wpAnyIn_ready (rs := [4]) (by kernel_rfl) (by simp) ?_
                refine AllReadyIn.cons rfl (fun K hK => ?_) ?_
                · (go_simp)
                  refine hK _ _ ?_; clear hK K
                  refine wpAnyIn_ready (rs := [5]) (by kernel_rfl) (by simp) ?_
                  refine AllReadyIn.cons rfl (fun K hK => ?_) ?_
                  · (go_simp)
                    refine hK _ _ ?_; clear hK K
                    refine wpAnyIn_ready (rs := [6]) (by kernel_rfl) (by simp) ?_
                    refine AllReadyIn.cons rfl (fun K hK => ?_) ?_
                    · (refine step_appF _ (by rfl) _ _ rfl w5.heap.size (fun b => w.heap.size ≤ b ∧ b ≠ w5.heap.size + 1) A c _ fs rfl rfl (hI.own.still ((((Still.refl W).drew).strans ht7.out).alloc _)) w7.heap.size 0 1 ⟨3, ch, dd⟩ B7 c7 rfl ?_ ?_ ?_ ?_ hb7.out.2.1 hb7.out.2.2 ?_ ?_ ?_; (exact cell_new' rfl rfl); (exact cell_new' rfl rfl); (exact cell_new' rfl rfl); (exact BSN.out _ _ _ hb7.out.1 ht7.out); (omega); (have := HGW.out; have := ht7.out.size; simp only [World.size_alloc]; simp only [World.size_drew] at this; omega); intro A8 c8 w8 ho8 ht8 hat8; have H8 := Kp.mk (cut_round (n := fs.length + 1) rfl hI (by omega) ht7.out ht8 ho8 hat8); have x18 := ht8.cell (z17 _) HNB.out; have x18f := (ht8.frozen (a := ⟨w5.heap.size + 1, 0, none⟩) (World.block_lt_of_cell? _ _ (z17 _)) HNB.out).trans (((((Still.refl W).drew).strans ht7.out).alloc _).frozen (a := ⟨w5.heap.size + 1, 0, none⟩) (World.block_lt_of_cell? _ _ x1) (fun f => f)); rw [xf] at x18f; clear ho8 ht8 hat8)
                      refine hK _ _ ?_; clear hK K
                      refine wpAnyIn_ready (rs := [7]) (by kernel_rfl) (by simp) ?_
                      refine AllReadyIn.cons rfl (fun K hK => ?_) ?_
                      · (go_simp)
                        refine hK _ _ ?_; clear hK K
                        refine wpAnyIn_done (by kernel_rfl) ?_ _
                        simp only [Exit.inBlock, Exit.then]
                        exact ⟨H8.out.1, H8.out.2.1, A8, c8, by rw [HFIN.out]; exact H8.out.2.2⟩
                      exact AllReadyIn.nil
                    exact AllReadyIn.nil
                  exact AllReadyIn.nil
                exact AllReadyIn.nil
              refine AllReadyIn.cons rfl (fun K hK => ?_) ?_
              · (go_simp)
                refine hK _ _ ?_; clear hK K
                refine wpAnyIn_ready (rs := [0, 5]) (by kernel_rfl) (by simp) ?_
                refine AllReadyIn.cons rfl (fun K hK => ?_) ?_
                · (go_simp)
                  refine hK _ _ ?_; clear hK K
                  refine wpAnyIn_ready (rs := [5]) (by kernel_rfl) (by simp) ?_
                  refine AllReadyIn.cons rfl (fun K hK => ?_) ?_
                  · (go_simp)
                    refine hK _ _ ?_; clear hK K
                    refine wpAnyIn_ready (rs := [6]) (by kernel_rfl) (by simp) ?_
                    refine AllReadyIn.cons rfl (fun K hK => ?_) ?_
                    · (refine step_appF _ (by rfl) _ _ rfl w5.heap.size (fun b => w.heap.size ≤ b ∧ b ≠ w5.heap.size + 1) A c _ fs rfl rfl (hI.own.still ((((Still.refl W).drew).strans ht7.out).alloc _)) w7.heap.size 0 1 ⟨3, ch, dd⟩ B7 c7 rfl ?_ ?_ ?_ ?_ hb7.out.2.1 hb7.out.2.2 ?_ ?_ ?_; (exact cell_new' rfl rfl); (exact cell_new' rfl rfl); (exact cell_new' rfl rfl); (exact BSN.out _ _ _ hb7.out.1 ht7.out); (omega); (have := HGW.out; have := ht7.out.size; simp only [World.size_alloc]; simp only [World.size_drew] at this; omega); intro A8 c8 w8 ho8 ht8 hat8; have H8 := Kp.mk (cut_round (n := fs.length + 1) rfl hI (by omega) ht7.out ht8 ho8 hat8); have x18 := ht8.cell (z17 _) HNB.out; have x18f := (ht8.frozen (a := ⟨w5.heap.size + 1, 0, none⟩) (World.block_lt_of_cell? _ _ (z17 _)) HNB.out).trans (((((Still.refl W).drew).strans ht7.out).alloc _).frozen (a := ⟨w5.heap.size + 1, 0, none⟩) (World.block_lt_of_cell? _ _ x1) (fun f => f)); rw [xf] at x18f; clear ho8 ht8 hat8)
                      refine hK _ _ ?_; clear hK K
                      refine wpAnyIn_ready (rs := [7]) (by kernel_rfl) (by simp) ?_
                      refine AllReadyIn.cons rfl (fun K hK => ?_) ?_
                      · (go_simp)
                        refine hK _ _ ?_; clear hK K
                        refine wpAnyIn_done (by kernel_rfl) ?_ _
                        simp only [Exit.inBlock, Exit.then]
                        exact ⟨H8.out.1, H8.out.2.1, A8, c8, by rw [HFIN.out]; exact H8.out.2.2⟩
                      exact AllReadyIn.nil
                    exact AllReadyIn.nil
                  exact AllReadyIn.nil
                refine AllReadyIn.cons rfl (fun K hK => ?_) ?_
                · (go_simp)
                  refine hK _ _ ?_; clear hK K
                  refine wpAnyIn_ready (rs := [0]) (by kernel_rfl) (by simp) ?_
                  refine AllReadyIn.cons rfl (fun K hK => ?_) ?_
                  · (go_simp)
                    refine hK _ _ ?_; clear hK K
                    refine wpAnyIn_ready (rs := [6]) (by kernel_rfl) (by simp) ?_
                    refine AllReadyIn.cons rfl (fun K hK => ?_) ?_
                    · (refine step_appF _ (by rfl) _ _ rfl w5.heap.size (fun b => w.heap.size ≤ b ∧ b ≠ w5.heap.size + 1) A c _ fs rfl rfl (hI.own.still ((((Still.refl W).drew).strans ht7.out).alloc _)) w7.heap.size 0 1 ⟨3, ch, dd⟩ B7 c7 rfl ?_ ?_ ?_ ?_ hb7.out.2.1 hb7.out.2.2 ?_ ?_ ?_; (exact cell_new' rfl rfl); (exact cell_new' rfl rfl); (exact cell_new' rfl rfl); (exact BSN.out _ _ _ hb7.out.1 ht7.out); (omega); (have := HGW.out; have := ht7.out.size; simp only [World.size_alloc]; simp only [World.size_drew] at this; omega); intro A8 c8 w8 ho8 ht8 hat8; have H8 := Kp.mk (cut_round (n := fs.length + 1) rfl hI (by omega) ht7.out ht8 ho8 hat8); have x18 := ht8.cell (z17 _) HNB.out; have x18f := (ht8.frozen (a := ⟨w5.heap.size + 1, 0, none⟩) (World.block_lt_of_cell? _ _ (z17 _)) HNB.out).trans (((((Still.refl W).drew).strans ht7.out).alloc _).frozen (a := ⟨w5.heap.size + 1, 0, none⟩) (World.block_lt_of_cell? _ _ x1) (fun f => f)); rw [xf] at x18f; clear ho8 ht8 hat8)
                      refine hK _ _ ?_; clear hK K
                      refine wpAnyIn_ready (rs := [7]) (by kernel_rfl) (by simp) ?_
                      refine AllReadyIn.cons rfl (fun K hK => ?_) ?_
                      · (go_simp)
                        refine hK _ _ ?_; clear hK K
                        refine wpAnyIn_done (by kernel_rfl) ?_ _
                        simp only [Exit.inBlock, Exit.then]
                        exact ⟨H8.out.1, H8.out.2.1, A8, c8, by rw [HFIN.out]; exact H8.out.2.2⟩
                      exact AllReadyIn.nil
                    exact AllReadyIn.nil
                  exact AllReadyIn.nil
                exact AllReadyIn.nil
              exact AllReadyIn.nil
            exact AllReadyIn.nil
          refine AllReadyIn.cons rfl (fun K hK => ?_) ?_
          · (go_simp; refine ⟨trivial, ?_⟩; gi_at_call 52; refine (CallsIn.inRound l (callsIn_wide.2 (CLN.out _ ((Still.refl W).drew)))).mono ?_; rintro e w7 ⟨B7, c7, rfl, hb7, ht7⟩; have x17 := ht7.out.scell x1; have x57 := ht7.out.scell x5; have z17 := fun o => ((Still.refl w7).alloc o).scell x17; have z57 := fun o => ((Still.refl w7).alloc o).scell x57; (try go_simp))
            refine hK _ _ ?_; clear hK K
            refine wpAnyIn_ready (rs := [0, 1]) (by kernel_rfl) (by simp) ?_
            refine AllReadyIn.cons rfl (fun K hK => ?_) ?_
            · (go_simp)
              refine hK _ _ ?_; clear hK K
              refine wpAnyIn_ready (rs := [1]) (by kernel_rfl) (by simp) ?_
              refine AllReadyIn.cons rfl (fun K hK => ?_) ?_
              · (go_simp)
                refine hK _ _ ?_; clear hK K
                refine wpAnyIn_ready (rs := [4]) (by kernel_rfl) (by simp) ?_
                refine AllReadyIn.cons rfl (fun K hK => ?_) ?_
                · (go_simp)
                  refine hK _ _ ?_; clear hK K
                  refine wpAnyIn_ready (rs := [5]) (by kernel_rfl) (by simp) ?_
                  refine AllReadyIn.cons rfl (fun K hK => ?_) ?_
                  · (go_simp)
                    refine hK _ _ ?_; clear hK K
                    refine wpAnyIn_ready (rs := [6]) (by kernel_rfl) (by simp) ?_
                    refine AllReadyIn.cons rfl (fun K hK => ?_) ?_
                    · (refine step_appF _ (by rfl) _ _ rfl w5.heap.size (fun b => w.heap.size ≤ b ∧ b ≠ w5.heap.size + 1) A c _ fs rfl rfl (hI.own.still ((((Still.refl W).drew).strans ht7.out).alloc _)) w7.heap.size 0 1 ⟨3, ch, dd⟩ B7 c7 rfl ?_ ?_ ?_ ?_ hb7.out.2.1 hb7.out.2.2 ?_ ?_ ?_; (exact cell_new' rfl rfl); (exact cell_new' rfl rfl); (exact cell_new' rfl rfl); (exact BSN.out _ _ _ hb7.out.1 ht7.out); (omega); (have := HGW.out; have := ht7.out.size; simp only [World.size_alloc]; simp only [World.size_drew] at this; omega); intro A8 c8 w8 ho8 ht8 hat8; have H8 := Kp.mk (cut_round (n := fs.length + 1) rfl hI (by omega) ht7.out ht8 ho8 hat8); have x18 := ht8.cell (z17 _) HNB.out; have x18f := (ht8.frozen (a := ⟨w5.heap.size + 1, 0, none⟩) (World.block_lt_of_cell? _ _ (z17 _)) HNB.out).trans (((((Still.refl W).drew).strans ht7.out).alloc _).frozen (a := ⟨w5.heap.size + 1, 0, none⟩) (World.block_lt_of_cell? _ _ x1) (fun f => f)); rw [xf] at x18f; clear ho8 ht8 hat8)
                      refine hK _ _ ?_; clear hK K
                      refine wpAnyIn_ready (rs := [7]) (by kernel_rfl) (by simp) ?_
                      refine AllReadyIn.cons rfl (fun K hK => ?_) ?_
                      · (go_simp)
                        refine hK _ _ ?_; clear hK K
                        refine wpAnyIn_done (by kernel_rfl) ?_ _
                        simp only [Exit.inBlock, Exit.then]
                        exact ⟨H8.out.1, H8.out.2.1, A8, c8, by rw [HFIN.out]; exact H8.out.2.2⟩
                      exact AllReadyIn.nil
                    exact AllReadyIn.nil
                  exact AllReadyIn.nil
                exact AllReadyIn.nil
              exact AllReadyIn.nil
            refine AllReadyIn.cons rfl (fun K hK => ?_) ?_
            · (go_simp)
              refine hK _ _ ?_; clear hK K
              refine wpAnyIn_ready (rs := [0, 4]) (by kernel_rfl) (by simp) ?_
              refine AllReadyIn.cons rfl (fun K hK => ?_) ?_
              · (go_simp)
                refine hK _ _ ?_; clear hK K
                refine wpAnyIn_ready (rs := [4]) (by kernel_rfl) (by simp) ?_
                refine AllReadyIn.cons rfl (fun K hK => ?_) ?_
                · (go_simp)
                  refine hK _ _ ?_; clear hK K
                  refine wpAnyIn_ready (rs := [5]) (by kernel_rfl) (by simp) ?_
                  refine AllReadyIn.cons rfl (fun K hK => ?_) ?_
                  · (go_simp)
                    refine hK _ _ ?_; clear hK K
                    refine wpAnyIn_ready (rs := [6]) (by kernel_rfl) (by simp) ?_
                    refine AllReadyIn.cons rfl (fun K hK => ?_) ?_
                    · (refine step_appF _ (by rfl) _ _ rfl w5.heap.size (fun b => w.heap.size ≤ b ∧ b ≠ w5.heap.size + 1) A c _ fs rfl rfl (hI.own.still ((((Still.refl W).drew).strans ht7.out).alloc _)) w7.heap.size 0 1 ⟨3, ch, dd⟩ B7 c7 rfl ?_ ?_ ?_ ?_ hb7.out.2.1 hb7.out.2.2 ?_ ?_ ?_; (exact cell_new' rfl rfl); (exact cell_new' rfl rfl); (exact cell_new' rfl rfl); (exact BSN.out _ _ _ hb7.out.1 ht7.out); (omega); (have := HGW.out; have := ht7.out.size; simp only [World.size_alloc]; simp only [World.size_drew] at this; omega); intro A8 c8 w8 ho8 ht8 hat8; have H8 := Kp.mk (cut_round (n := fs.length + 1) rfl hI (by omega) ht7.out ht8 ho8 hat8); have x18 := ht8.cell (z17 _) HNB.out; have x18f := (ht8.frozen (a := ⟨w5.heap.size + 1, 0, none⟩) (World.block_lt_of_cell? _ _ (z17 _)) HNB.out).trans (((((Still.refl W).drew).strans ht7.out).alloc _).frozen (a := ⟨w5.heap.size + 1, 0, none⟩) (World.block_lt_of_cell? _ _ x1) (fun f => f)); rw [xf] at x18f; clear ho8 ht8 hat8)
                      refine hK _ _ ?_; clear hK K
                      refine wpAnyIn_ready (rs := [7]) (by kernel_rfl) (by simp) ?_
                      refine AllReadyIn.cons rfl (fun K hK => ?_) ?_
                      · (go_simp)
                        refine hK _ _ ?_; clear hK K
                        refine wpAnyIn_done (by kernel_rfl) ?_ _
                        simp only [Exit.inBlock, Exit.then]
                        exact ⟨H8.out.1, H8.out.2.1, A8, c8, by rw [HFIN.out]; exact H8.out.2.2⟩
                      exact AllReadyIn.nil
                    exact AllReadyIn.nil
                  exact AllReadyIn.nil
                exact AllReadyIn.nil
              refine AllReadyIn.cons rfl (fun K hK => ?_) ?_
              · (go_simp)
                refine hK _ _ ?_; clear hK K
                refine wpAnyIn_ready (rs := [0, 5]) (by kernel_rfl) (by simp) ?_
                refine AllReadyIn.cons rfl (fun K hK => ?_) ?_
                · (go_simp)
                  refine hK _ _ ?_; clear hK K
                  refine wpAnyIn_ready (rs := [5]) (by kernel_rfl) (by simp) ?_
                  refine AllReadyIn.cons rfl (fun K hK => ?_) ?_
                  · (go_simp)
                    refine hK _ _ ?_; clear hK K
                    refine wpAnyIn_ready (rs := [6]) (by kernel_rfl) (by simp) ?_
                    refine AllReadyIn.cons rfl (fun K hK => ?_) ?_
                    · (refine step_appF _ (by rfl) _ _ rfl w5.heap.size (fun b => w.heap.size ≤ b ∧ b ≠ w5.heap.size + 1) A c _ fs rfl rfl (hI.own.still ((((Still.refl W).drew).strans ht7.out).alloc _)) w7.heap.size 0 1 ⟨3, ch, dd⟩ B7 c7 rfl ?_ ?_ ?_ ?_ hb7.out.2.1 hb7.out.2.2 ?_ ?_ ?_; (exact cell_new' rfl rfl); (exact cell_new' rfl rfl); (exact cell_new' rfl rfl); (exact BSN.out _ _ _ hb7.out.1 ht7.out); (omega); (have := HGW.out; have := ht7.out.size; simp only [World.size_alloc]; simp only [World.size_drew] at this; omega); intro A8 c8 w8 ho8 ht8 hat8; have H8 := Kp.mk (cut_round (n := fs.length + 1) rfl hI (by omega) ht7.out ht8 ho8 hat8); have x18 := ht8.cell (z17 _) HNB.out; have x18f := (ht8.frozen (a := ⟨w5.heap.size + 1, 0, none⟩) (World.block_lt_of_cell? _ _ (z17 _)) HNB.out).trans (((((Still.refl W).drew).strans ht7.out).alloc _).frozen (a := ⟨w5.heap.size + 1, 0, none⟩) (World.block_lt_of_cell? _ _ x1) (fun f => f)); rw [xf] at x18f; clear ho8 ht8 hat8)
                      refine hK _ _ ?_; clear hK K
                      refine wpAnyIn_ready (rs := [7]) (by kernel_rfl) (by simp) ?_
                      refine AllReadyIn.cons rfl (fun K hK => ?_) ?_
                      · (go_simp)
                        refine hK _ _ ?_; clear hK K
                        refine wpAnyIn_done (by kernel_rfl) ?_ _
                        simp only [Exit.inBlock, Exit.then]
                        exact ⟨H8.out.1, H8.out.2.1, A8, c8, by rw [HFIN.out]; exact H8.out.2.2⟩
                      exact AllReadyIn.nil
                    exact AllReadyIn.nil
                  exact AllReadyIn.nil
                refine AllReadyIn.cons rfl (fun K hK => ?_) ?_
                · (go_simp)
                  refine hK _ _ ?_; clear hK K
                  refine wpAnyIn_ready (rs := [0]) (by kernel_rfl) (by simp) ?_
                  refine AllReadyIn.cons rfl (fun K hK => ?_) ?_
                  · (go_simp)
                    refine hK _ _ ?_; clear hK K
                    refine wpAnyIn_ready (rs := [6]) (by kernel_rfl) (by simp) ?_
                    refine AllReadyIn.cons rfl (fun K hK => ?_) ?_
                    · (refine step_appF _ (by rfl) _ _ rfl w5.heap.size (fun b => w.heap.size ≤ b ∧ b ≠ w5.heap.size + 1) A c _ fs rfl rfl (hI.own.still ((((Still.refl W).drew).strans ht7.out).alloc _)) w7.heap.size 0 1 ⟨3, ch, dd⟩ B7 c7 rfl ?_ ?_ ?_ ?_ hb7.out.2.1 hb7.out.2.2 ?_ ?_ ?_; (exact cell_new' rfl rfl); (exact cell_new' rfl rfl); (exact cell_new' rfl rfl); (exact BSN.out _ _ _ hb7.out.1 ht7.out); (omega); (have := HGW.out; have := ht7.out.size; simp only [World.size_alloc]; simp only [World.size_drew] at this; omega); intro A8 c8 w8 ho8 ht8 hat8; have H8 := Kp.mk (cut_round (n := fs.length + 1) rfl hI (by omega) ht7.out ht8 ho8 hat8); have x18 := ht8.cell (z17 _) HNB.out; have x18f := (ht8.frozen (a := ⟨w5.heap.size + 1, 0, none⟩) (World.block_lt_of_cell? _ _ (z17 _)) HNB.out).trans (((((Still.refl W).drew).strans ht7.out).alloc _).frozen (a := ⟨w5.heap.size + 1, 0, none⟩) (World.block_lt_of_cell? _ _ x1) (fun f => f)); rw [xf] at x18f; clear ho8 ht8 hat8)
                      refine hK _ _ ?_; clear hK K
                      refine wpAnyIn_ready (rs := [7]) (by kernel_rfl) (by simp) ?_
                      refine AllReadyIn.cons rfl (fun K hK => ?_) ?_
                      · (go_simp)
                        refine hK _ _ ?_; clear hK K
                        refine wpAnyIn_done (by kernel_rfl) ?_ _
                        simp only [Exit.inBlock, Exit.then]
                        exact ⟨H8.out.1, H8.out.2.1, A8, c8, by rw [HFIN.out]; exact H8.out.2.2⟩
                      exact AllReadyIn.nil
                    exact AllReadyIn.nil
                  exact AllReadyIn.nil
                exact AllReadyIn.nil
              exact AllReadyIn.nil
            exact AllReadyIn.nil
          exact AllReadyIn.nil
        exact AllReadyIn.nil
      case done =>
        rintro D xs W hD ⟨mm, rfl, hm1', hm2'⟩ ⟨A, c, hI⟩ hK
        have x1 := hI.box
        have hE : cutE ch m p body.length N = 0 := by simp [cutE, hyes, e1, e2, c6, c7]
        have hn : nCh body.length N = mm := by simp only [nCh, Int.toNat_natCast]; exact chunks_n (by omega) hm1' hm2'
        have hF : cutF ch m p body N = [⟨1, ch, m.putB⟩, ⟨2, ch, hd ++ p.putB⟩] ++ (List.range mm).map (fun i => (⟨3, ch, (body.drop (i * N)).take N⟩ : Fr)) := by simp [cutF, hE, hn, bodyF, HHD.out]
        generalize [⟨1, ch, m.putB⟩, ⟨2, ch, hd ++ p.putB⟩] ++ (List.range mm).map (fun i => (⟨3, ch, (body.drop (i * N)).take N⟩ : Fr)) = fs at *
        simp only [Exit.inBlock, Exit.then]
        go_wp2_with fail
        show LeavesInM Fence.wide 6 Try.prog Try.f25 _ _ _ FrameMode.returning W
        refine ⟨by simp, .inl ⟨_, _, rfl, run_takeDeferred hK, ?_⟩⟩
        have hI2 := hI.kept (grownBy_putObj' W D (.deferred none)) (fun r e => by cases e; exact ⟨hD, _, hK, rfl⟩)
        rw [hE, hF]
        exact ⟨_, results_tmp2 rfl _ _ _, A, c, rfl, hI2.own.fs (fun b hb => by omega) (fun b hb => hb.1), HT0.out.trans hI2.tch (fun b hb e => by omega)⟩
      case stop =>
        rintro D c pre W _ _ h _
        exact h.elim
end Go.Proofs.Ytaeainkfllfdfaa
