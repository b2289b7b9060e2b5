/- Contracts of the functions that the statement reaches, each walked once, and the plain laws over them, for every input that their premises name (E10, E11, E12). -/
import Derived.Test.YtaeainkfllfdfaaQ15
import Derived.Lib.ConvBytes
import Derived.Maps.AppendAt
/- E10: Go's []byte(s); append to a row of frames. -/
namespace Go.Proofs.Ytaeainkfllfdfaa
open Go.RowKit
set_option linter.unusedVariables false
set_option linter.unusedSimpArgs false
set_option maxRecDepth 100000

/-- The world behind a string's conversion to bytes. -/
def cbW (w : World) (l : List UInt8) : World := Lib.bytesWorld w 5 (ps l)
/-- The capacity of the bytes. -/
def cbC (w : World) (l : List UInt8) : Nat := grownCap w l.length 0 5
theorem conv_sb (l : List UInt8) (w : World) : (convert 9 25 (.string (ps l))).run Try.prog w = .ok (.slice (some ⟨w.heap.size, 0, none⟩) l.length (cbC w l)) (cbW w l) := by
  rw [Lib.run_convert_string_bytes w 9 25 5 (ps l) Try.underlying9 Try.underlying25 Try.underlying5]
  simp only [cbC, cbW, ps_size]
theorem cbW_size (w : World) (l : List UInt8) : (cbW w l).heap.size = w.heap.size + 1 := Lib.bytesWorld_size _ _ _
theorem cbW_still (w : World) (l : List UInt8) : Still w (cbW w l) :=
  ⟨by simp [cbW, Lib.bytesWorld, World.freeze, World.alloc, World.drew, -World.alloc_eq, -World.drew_eq], by simp [cbW, Lib.bytesWorld, World.freeze, World.alloc, World.drew, -World.alloc_eq, -World.drew_eq], by simp [cbW, Lib.bytesWorld, World.freeze, World.alloc, World.drew, -World.alloc_eq, -World.drew_eq], by rw [cbW_size]; omega, fun k hk _ => Lib.bytesWorld_at_old w 5 (ps l) k hk⟩
theorem cbW_bs (w : World) (l : List UInt8) (S : Nat → Prop) (hS : S w.heap.size) : Bs (cbW w l) S (some ⟨w.heap.size, 0, none⟩) l :=
  .inr ⟨w.heap.size, 0, rfl, hS, fun j hj => by
    rw [Nat.zero_add, show (cbW w l).cell? ⟨w.heap.size, j, none⟩ = _ from Lib.bytesWorld_cell w 5 (ps l) j (by rw [ps_size]; exact hj)]
    simp [ps, List.getD, hj]⟩
theorem cbC_ge (w : World) (l : List UInt8) : l.length ≤ cbC w l := grownCap_ge _ _ _ _
theorem cbC_le (w : World) (l : List UInt8) (h : l.length ≤ 9223372036854775807) : cbC w l ≤ 9223372036854775807 := grownCap_le_maxLen _ _ _ _ h
attribute [irreducible] cbW cbC

/-- A piece of a string. -/
theorem cut_str (body : List UInt8) (x y : Nat) (h1 : x ≤ y) (h2 : y ≤ body.length) (W : World) : (Instr.slice 9 (.string (ps body)) (some (.int .i64 x)) (some (.int .i64 y)) none).run Try.prog W = .ok (.string (ps ((body.drop x).take (y - x)))) W := by
  rw [run_slice_string W 9 (ps body) .i64 .i64 x y Try.underlying9 (by omega) (by omega) (by rw [ps_size]; omega)]
  congr 2
  exact ByteArray.extract_mk body x y

theorem wpList_appF {ops : Array Oper} {rest : List Oper} {o : Oper} {a : Act} {Q : Exit → Act → World → Prop} (w : World) (hg : o.guard = none) (s x : Operand)
    (hop : o.op = Op.call { callee := Callee.builtin Builtin.append, args := #[s, x], argTypes := #[44, 44] })
    (base : Nat) (S : Nat → Prop) (A : Option Addr) (c n : Nat) (l : List Fr) (hs : a.eval s = .slice A n c) (hn : n = l.length) (ho : OwnF w base S A c l) (b off cB : Nat) (f : Fr) (B : Option Addr) (cD : Nat)
    (hx : a.eval x = .slice (some ⟨b, off, none⟩) 1 cB) (h0 : w.cell? ⟨b, off, none⟩ = some (.int .i64 f.k)) (h1 : w.cell? ⟨b, off + 1, none⟩ = some (.int .i64 f.ch)) (h2 : w.cell? ⟨b, off + 2, none⟩ = some (.slice B f.d.length cD)) (hv : Bs w (fun b => S b ∧ ¬ blk A b) B f.d) (hc1 : f.d.length ≤ cD) (hc2 : cD ≤ 9223372036854775807)
    (hlen : l.length + 1 ≤ 1099511627776) (hbase : base ≤ w.heap.size)
    (hK : ∀ A' c' w', OwnF w' base S A' c' (l ++ [f]) → Tch (blk A) w w' → (∀ b, blk A' b → blk A b ∨ w.heap.size ≤ b) → wpList Try.prog ops Q rest (a.put o.dst (.slice A' (n + 1) c')) w') : wpList Try.prog ops Q (o :: rest) a w := by
  subst hn
  obtain ⟨us, ho1, hv1⟩ := ho
  obtain ⟨i, hi, hz0, hz1, hz2⟩ := info_parts info52
  refine wpList_append_own_at w hg s x 44 hop base 52 i _ 3 40 Try.underlying44 hi hz0 hz1 hz2 rfl (by decide) (.slice A l.length c) l.length us hs ho1 ⟨b, off, none⟩ 1 cB [.int .i64 f.k, .int .i64 f.ch, .slice B f.d.length cD] hx rfl (fun j u hj => ?_) (fun u hu => ?_) (by unfold maxLen; omega) (by omega) hbase ?_
  · rw [Addr.add_lit]
    match j, hj with
    | 0, hj => cases hj; exact h0
    | 1, hj => cases hj; exact h1
    | 2, hj => cases hj; exact h2
    | (j + 3), hj => simp at hj
  · simp only [List.mem_cons, List.not_mem_nil, or_false] at hu
    rcases hu with rfl | rfl | rfl <;> rfl
  · intro v' w' hown hgrow _ hat
    obtain ⟨A', c', rfl⟩ := own_form hown
    have hT2 : Tch (blk A) w w' := (Tch.refl _ w).grown hgrow (fun k hk _ => (ownBlock_iff _ _ _ _).1 hk)
    have hat' : ∀ b, blk A' b → blk A b ∨ w.heap.size ≤ b := fun b hb => by
      have hb' := (ownBlock_iff A' (l.length + 1) c' b).2 hb
      rcases hat with h | h
      · rw [h] at hb'; exact .inl ((ownBlock_iff _ _ _ _).1 hb')
      · rw [h] at hb'; cases hb'; exact .inr (Nat.le_refl _)
    refine hK A' c' w' ⟨us ++ [.int .i64 f.k, .int .i64 f.ch, .slice B f.d.length cD], by rw [List.length_append]; exact hown, FVals.app ?_ ⟨B, cD, [], rfl, ⟨?_, hc1, hc2⟩, rfl⟩⟩ hT2 hat'
    · exact (hv1.old.tch hT2 (fun b hb => hb.1.2)).weak (fun b hb => ⟨hb.1.1, fun h => (hat' b h).elim hb.1.2 (fun h => by omega)⟩)
    · exact (hv.old.tch hT2 (fun b hb => hb.1.2)).weak (fun b hb => ⟨hb.1.1, fun h => (hat' b h).elim hb.1.2 (fun h => by omega)⟩)

theorem putM_any (m : M) (hid : bearsB m.id = true) (hm : m.mayB = true) (hO : m.Ok) (S : Nat → Prop) (A : Option Addr) (n : Nat) (w : World) (hS : Sl w S A m.ar) :
    Calls Try.prog 71 #[m.val A n] w (RetPM w m.enc) := by
  simp only [bearsB, Bool.or_eq_true, beq_iff_eq] at hid
  rcases hid with ((h | h) | h) | h
  · exact putM_6040 m h hm hO S A n w hS
  · exact putM_6050 m h hm hO S A n w hS
  · exact putM_6060 m h hm hO S A n w hS
  · exact putM_6071 m h hm hO S A n w hS
theorem bears_hasA {id : Int} (h : bearsB id = true) : hasA id = false := by
  simp only [bearsB, Bool.or_eq_true, beq_iff_eq] at h
  rcases h with ((h | h) | h) | h <;> subst h <;> decide
theorem bodyF_succ (ch : Int) (body : List UInt8) (most : Int) (k : Nat) : bodyF ch body most (k + 1) = bodyF ch body most k ++ [⟨3, ch, (body.drop (k * most.toNat)).take most.toNat⟩] := by
  simp [bodyF, List.range_succ]
theorem bodyF_len (ch : Int) (body : List UInt8) (most : Int) (k : Nat) : (bodyF ch body most k).length = k := by simp [bodyF]
end Go.Proofs.Ytaeainkfllfdfaa
/- E11: The reference's Cut. -/
namespace Go.Proofs.Ytaeainkfllfdfaa
open Go.RowKit
set_option linter.unusedVariables false
set_option linter.unusedSimpArgs false
set_option maxRecDepth 100000

set_option maxHeartbeats 4000000 in
theorem refCut38 (ch most : Int) (m : M) (p : L) (body : List UInt8) (w : World) (SM SP : Nat → Prop) (AM AP : Option Addr) (nM cP : Nat)
    (hch1 : -9223372036854775808 ≤ ch) (hch2 : ch ≤ 9223372036854775807) (hm1 : -9223372036854775808 ≤ most) (hm2 : most ≤ 9223372036854775807)
    (hM : m.Ok) (hP : p.Ok) (hp : p.len ≤ 140737488351232) (hb : body.length ≤ 140737488351232) (hSM : Sl w SM AM m.ar) (hSP : Sl w SP AP p) :
    Calls Try.prog 38 #[.int .i64 ch, m.val AM nM, .slice AP p.len cP, .string (ps body), .int .i64 most] w (RetCut w (cutF ch m p body most) (cutE ch m p body.length most)) := by
  have CM := Kp.mk (fun W (h : Still w W) => mayM68 m hM SM AM nM W (hSM.still h))
  have CT := Kp.mk (fun W (h : Still w W) => mayTable70 p AP cP SP W hp hP (hSP.still h))
  have CS := Kp.mk (fun (hk : p.mayTab 1 = true) W (h : Still w W) => tabS p AP cP SP W hp hP (L.mayTab_kinds hk) (by have := L.enc_bnd hk; omega) (hSP.still h))
  have CQ := Kp.mk (fun (h1 : bearsB m.id = true) (h2 : m.mayB = true) W (h : Still w W) => putM_any m h1 h2 hM SM AM nM W (hSM.still h))
  have HM := Kp.mk (MAt.new (c := nM) m hSM)
  have hps := ps_size body
  clear hSM hSP hM hP
  by_cases z0 : m.mayB = false
  · have hno : cutMay ch m body.length most = false := by
      unfold cutMay
      simp [z0]
    obtain ⟨e1, e2⟩ := cut_no ch m p body most hno
    rw [e1, e2]
    clear e1 e2 hno
    go_enter Try.func38, Try.ntmps38
    go_wp2_with fail
    refine (CM.out _ ((Still.refl w).alloc _)).mono ?_
    rintro e w1 ⟨rfl, ht1⟩
    rw [z0]
    have HT1 := Kp.mk (((Still.refl w).alloc _).strans ht1)
    have HM1 := Kp.mk (HM.out.still ht1)
    have y0 := HM1.out.id
    clear ht1 HM
    go_wp2_with fail
    go_ret2
    exact RetCut.no _ _ _ _ rfl HT1.out
  replace z0 : m.mayB = true := by first | omega | simpa using z0
  by_cases z1 : bearsB m.id = false
  · have hno : cutMay ch m body.length most = false := by
      unfold cutMay
      simp [z1]
    obtain ⟨e1, e2⟩ := cut_no ch m p body most hno
    rw [e1, e2]
    clear e1 e2 hno
    go_enter Try.func38, Try.ntmps38
    go_wp2_with fail
    refine (CM.out _ ((Still.refl w).alloc _)).mono ?_
    rintro e w1 ⟨rfl, ht1⟩
    rw [z0]
    have HT1 := Kp.mk (((Still.refl w).alloc _).strans ht1)
    have HM1 := Kp.mk (HM.out.still ht1)
    have y0 := HM1.out.id
    clear ht1 HM
    go_wp2_with fail
    refine (bears69 m.id _).mono ?_
    rintro e w2 ⟨rfl, ht2⟩
    rw [z1]
    have HT2 := Kp.mk (HT1.out.strans ht2)
    have HM2 := Kp.mk (HM1.out.still ht2)
    clear ht2 HM1 y0
    go_wp2_with fail
    go_ret2
    exact RetCut.no _ _ _ _ rfl HT2.out
  replace z1 : bearsB m.id = true := by first | omega | simpa using z1
  by_cases z2 : ch < 1
  · have hno : cutMay ch m body.length most = false := by
      unfold cutMay
      simp [z2]
      (try omega)
    obtain ⟨e1, e2⟩ := cut_no ch m p body most hno
    rw [e1, e2]
    clear e1 e2 hno
    go_enter Try.func38, Try.ntmps38
    go_wp2_with fail
    refine (CM.out _ ((Still.refl w).alloc _)).mono ?_
    rintro e w1 ⟨rfl, ht1⟩
    rw [z0]
    have HT1 := Kp.mk (((Still.refl w).alloc _).strans ht1)
    have HM1 := Kp.mk (HM.out.still ht1)
    have y0 := HM1.out.id
    clear ht1 HM
    go_wp2_with fail
    refine (bears69 m.id _).mono ?_
    rintro e w2 ⟨rfl, ht2⟩
    rw [z1]
    have HT2 := Kp.mk (HT1.out.strans ht2)
    have HM2 := Kp.mk (HM1.out.still ht2)
    clear ht2 HM1 y0
    go_wp2_with fail
    go_ret2
    exact RetCut.no _ _ _ _ rfl HT2.out
  replace z2 : 1 ≤ ch := by first | omega | simpa using z2
  by_cases z3 : 65535 < ch
  · have hno : cutMay ch m body.length most = false := by
      unfold cutMay
      simp [z3]
      (try omega)
    obtain ⟨e1, e2⟩ := cut_no ch m p body most hno
    rw [e1, e2]
    clear e1 e2 hno
    go_enter Try.func38, Try.ntmps38
    go_wp2_with fail
    refine (CM.out _ ((Still.refl w).alloc _)).mono ?_
    rintro e w1 ⟨rfl, ht1⟩
    rw [z0]
    have HT1 := Kp.mk (((Still.refl w).alloc _).strans ht1)
    have HM1 := Kp.mk (HM.out.still ht1)
    have y0 := HM1.out.id
    clear ht1 HM
    go_wp2_with fail
    refine (bears69 m.id _).mono ?_
    rintro e w2 ⟨rfl, ht2⟩
    rw [z1]
    have HT2 := Kp.mk (HT1.out.strans ht2)
    have HM2 := Kp.mk (HM1.out.still ht2)
    clear ht2 HM1 y0
    go_wp2_with fail
    go_ret2
    exact RetCut.no _ _ _ _ rfl HT2.out
  replace z3 : ch ≤ 65535 := by first | omega | simpa using z3
  by_cases z4 : most < 8
  · have hno : cutMay ch m body.length most = false := by
      unfold cutMay
      simp [z4]
      (try omega)
    obtain ⟨e1, e2⟩ := cut_no ch m p body most hno
    rw [e1, e2]
    clear e1 e2 hno
    go_enter Try.func38, Try.ntmps38
    go_wp2_with fail
    refine (CM.out _ ((Still.refl w).alloc _)).mono ?_
    rintro e w1 ⟨rfl, ht1⟩
    rw [z0]
    have HT1 := Kp.mk (((Still.refl w).alloc _).strans ht1)
    have HM1 := Kp.mk (HM.out.still ht1)
    have y0 := HM1.out.id
    clear ht1 HM
    go_wp2_with fail
    refine (bears69 m.id _).mono ?_
    rintro e w2 ⟨rfl, ht2⟩
    rw [z1]
    have HT2 := Kp.mk (HT1.out.strans ht2)
    have HM2 := Kp.mk (HM1.out.still ht2)
    clear ht2 HM1 y0
    go_wp2_with fail
    go_ret2
    exact RetCut.no _ _ _ _ rfl HT2.out
  replace z4 : 8 ≤ most := by first | omega | simpa using z4
  by_cases z5 : 4096 < most
  · have hno : cutMay ch m body.length most = false := by
      unfold cutMay
      simp [z5]
      (try omega)
    obtain ⟨e1, e2⟩ := cut_no ch m p body most hno
    rw [e1, e2]
    clear e1 e2 hno
    go_enter Try.func38, Try.ntmps38
    go_wp2_with fail
    refine (CM.out _ ((Still.refl w).alloc _)).mono ?_
    rintro e w1 ⟨rfl, ht1⟩
    rw [z0]
    have HT1 := Kp.mk (((Still.refl w).alloc _).strans ht1)
    have HM1 := Kp.mk (HM.out.still ht1)
    have y0 := HM1.out.id
    clear ht1 HM
    go_wp2_with fail
    refine (bears69 m.id _).mono ?_
    rintro e w2 ⟨rfl, ht2⟩
    rw [z1]
    have HT2 := Kp.mk (HT1.out.strans ht2)
    have HM2 := Kp.mk (HM1.out.still ht2)
    clear ht2 HM1 y0
    go_wp2_with fail
    go_ret2
    exact RetCut.no _ _ _ _ rfl HT2.out
  replace z5 : most ≤ 4096 := by first | omega | simpa using z5
  by_cases z6 : 65536 < body.length
  · have hno : cutMay ch m body.length most = false := by
      unfold cutMay
      simp [z6]
      (try omega)
    obtain ⟨e1, e2⟩ := cut_no ch m p body most hno
    rw [e1, e2]
    clear e1 e2 hno
    go_enter Try.func38, Try.ntmps38
    go_wp2_with fail
    refine (CM.out _ ((Still.refl w).alloc _)).mono ?_
    rintro e w1 ⟨rfl, ht1⟩
    rw [z0]
    have HT1 := Kp.mk (((Still.refl w).alloc _).strans ht1)
    have HM1 := Kp.mk (HM.out.still ht1)
    have y0 := HM1.out.id
    clear ht1 HM
    go_wp2_with fail
    refine (bears69 m.id _).mono ?_
    rintro e w2 ⟨rfl, ht2⟩
    rw [z1]
    have HT2 := Kp.mk (HT1.out.strans ht2)
    have HM2 := Kp.mk (HM1.out.still ht2)
    clear ht2 HM1 y0
    go_wp2_with fail
    go_ret2
    exact RetCut.no _ _ _ _ rfl HT2.out
  replace z6 : body.length ≤ 65536 := by first | omega | simpa using z6
  have HMAY := Kp.mk (show cutMay ch m body.length most = true by
    unfold cutMay; simp [z0, z1, z2, z3, z4, z5, z6])
  have HPE := Kp.mk (show m.putE = 0 by simp [M.putE, z0, bears_hasA z1])
  have HPB := Kp.mk (show m.putB = m.enc by simp [M.putB, HPE.out])
  by_cases z7 : p.mayTab 1 = false
  · have e1 : cutE ch m p body.length most = 1 := by simp [cutE, HMAY.out, HPE.out, L.putE, z7]
    have e2 : cutF ch m p body most = [] := by simp [cutF, e1]
    rw [e1, e2]
    clear e1 e2
    go_enter Try.func38, Try.ntmps38
    go_wp2_with fail
    refine (CM.out _ ((Still.refl w).alloc _)).mono ?_
    rintro e w1 ⟨rfl, ht1⟩
    rw [z0]
    have HT1 := Kp.mk (((Still.refl w).alloc _).strans ht1)
    have HM1 := Kp.mk (HM.out.still ht1)
    have y0 := HM1.out.id
    clear ht1 HM
    go_wp2_with fail
    refine (bears69 m.id _).mono ?_
    rintro e w2 ⟨rfl, ht2⟩
    rw [z1]
    have HT2 := Kp.mk (HT1.out.strans ht2)
    have HM2 := Kp.mk (HM1.out.still ht2)
    clear ht2 HM1 y0
    go_wp2_with fail
    refine (CT.out _ HT2.out).mono ?_
    rintro e w3 ⟨rfl, ht3⟩
    rw [z7]
    have HT3 := Kp.mk (HT2.out.strans ht3)
    have HM3 := Kp.mk (HM2.out.still ht3)
    clear ht3 HM2
    have y0 := HM3.out.id
    have y1 := HM3.out.nm
    have y2 := HM3.out.ty
    have y3 := HM3.out.ex
    have y4 := HM3.out.ky
    have y5 := HM3.out.tx
    have y6 := HM3.out.co
    have y7 := HM3.out.cn
    have y8 := HM3.out.tg
    have y9 := HM3.out.fl
    have y10 := HM3.out.bk
    have y11 := HM3.out.ar
    go_wp2_with fail
    go_ret2
    exact RetCut.no _ _ _ _ rfl HT3.out
  replace z7 : p.mayTab 1 = true := by simpa using z7
  have CS := CS.out z7
  have CQ := CQ.out z1 z0
  obtain ⟨em, hem⟩ : ∃ em, m.enc = em := ⟨_, rfl⟩
  obtain ⟨ep, hep⟩ : ∃ ep, p.enc = ep := ⟨_, rfl⟩
  rw [hem] at HPB CQ
  rw [hep] at CS
  have HEP := Kp.mk hep
  have CS := Kp.mk CS
  have CQ := Kp.mk CQ
  clear hem hep
  obtain ⟨N, rfl⟩ : ∃ N : Nat, most = N := ⟨most.toNat, by omega⟩
  have hpm := ps_size em
  have hpe := ps_size ep
  have hq1 := fun W => conv_sb em W
  go_enter Try.func38, Try.ntmps38
  go_wp2_with fail
  refine (CM.out _ ((Still.refl w).alloc _)).mono ?_
  rintro e w1 ⟨rfl, ht1⟩
  rw [z0]
  have HT1 := Kp.mk (((Still.refl w).alloc _).strans ht1)
  have HM1 := Kp.mk (HM.out.still ht1)
  have y0 := HM1.out.id
  clear ht1 HM
  go_wp2_with fail
  refine (bears69 m.id _).mono ?_
  rintro e w2 ⟨rfl, ht2⟩
  rw [z1]
  have HT2 := Kp.mk (HT1.out.strans ht2)
  have HM2 := Kp.mk (HM1.out.still ht2)
  clear ht2 HM1 y0
  go_wp2_with fail
  refine (CT.out _ HT2.out).mono ?_
  rintro e w3 ⟨rfl, ht3⟩
  rw [z7]
  have HT3 := Kp.mk (HT2.out.strans ht3)
  have HM3 := Kp.mk (HM2.out.still ht3)
  clear ht3 HM2
  have y0 := HM3.out.id
  have y1 := HM3.out.nm
  have y2 := HM3.out.ty
  have y3 := HM3.out.ex
  have y4 := HM3.out.ky
  have y5 := HM3.out.tx
  have y6 := HM3.out.co
  have y7 := HM3.out.cn
  have y8 := HM3.out.tg
  have y9 := HM3.out.fl
  have y10 := HM3.out.bk
  have y11 := HM3.out.ar
  go_wp2_with fail
  refine (CQ.out _ HT3.out).mono ?_
  rintro e w4 ⟨rfl, ht4⟩
  have HT4 := Kp.mk (HT3.out.strans ht4)
  clear ht4 HM3 y0 y1 y2 y3 y4 y5 y6 y7 y8 y9 y10 y11
  go_wp2_with fail
  refine (CS.out _ HT4.out).mono ?_
  rintro e w5 ⟨rfl, ht5⟩
  have HT5 := Kp.mk (HT4.out.strans ht5)
  clear ht5
  by_cases hl : 3000 < ep.length
  · have e1 : cutE ch m p body.length N = 502 := by simp [cutE, HMAY.out, HPE.out, L.putE, HEP.out, z7, hl]
    have e2 : cutF ch m p body N = [] := by simp [cutF, e1]
    have E1 := Kp.mk e1; have E2 := Kp.mk e2
    clear e1 e2
    go_wp2_with fail
    go_ret2
    rw [E1.out, E2.out]
    exact RetCut.no _ _ _ _ rfl HT5.out
  replace hl : ep.length ≤ 3000 := by omega
  have HPP := Kp.mk (show p.putE = 0 by simp [L.putE, HEP.out, z7]; omega)
  have HPC := Kp.mk (show p.putB = ep by simp [L.putB, HEP.out, z7]; omega)
  by_cases hl2 : 4096 < em.length
  · have e1 : cutE ch m p body.length N = 1 := by simp [cutE, HMAY.out, HPE.out, HPP.out, HPB.out, hl2]
    have e2 : cutF ch m p body N = [] := by simp [cutF, e1]
    have E1 := Kp.mk e1; have E2 := Kp.mk e2
    clear e1 e2
    go_wp2_with fail
    go_ret2
    rw [E1.out, E2.out]
    exact RetCut.no _ _ _ _ rfl HT5.out
  replace hl2 : em.length ≤ 4096 := by omega
  have HE := Kp.mk (show cutE ch m p body.length N = 0 by
    simp [cutE, HMAY.out, HPE.out, HPP.out, HPB.out, HPC.out]; omega)
  have HF := Kp.mk (show cutF ch m p body N = ⟨1, ch, em⟩ :: ⟨2, ch, be body.length 8 ++ ep⟩ :: bodyF ch body N (nCh body.length N) by
    simp [cutF, HE.out, HPB.out, HPC.out])
  have hu := u64_small body.length (by omega)
  obtain ⟨pv, hpv⟩ : ∃ pv, be body.length 8 ++ ep = pv := ⟨_, rfl⟩
  have hadd := fun W => (str_add (ps (be body.length 8)) (ps ep) (by simp only [ps_size, be_length]; omega) W).trans (by rw [ps_app, hpv])
  have hq2 := fun W => conv_sb pv W
  have HPV := Kp.mk (show pv.length ≤ 3008 by rw [← hpv, List.length_append, be_length]; omega)
  have HF := HF.out
  rw [hpv] at HF
  have HF := Kp.mk HF
  clear hpv
  go_wp2_with fail
  refine (big73 (body.length : Int) 8 8 _ rfl (by decide) (by omega) (by omega)).mono ?_
  rintro e w6 ⟨rfl, ht6⟩
  rw [Int.toNat_natCast]
  have HT6 := Kp.mk ((HT5.out.strans (cbW_still w5 em)).strans ht6)
  have hz := cbW_size w5 em
  have hz5 := HT5.out.size
  have hz6 := ht6.size
  have HB1 := Kp.mk ((cbW_bs w5 em (fun b => w.heap.size ≤ b ∧ b < w6.heap.size) ⟨hz5, by omega⟩).still ht6)
  have HC1 := Kp.mk (And.intro (cbC_ge w5 em) (cbC_le w5 em (by omega)))
  clear ht6 hz hz5 hz6
  generalize w5.heap.size = X1 at *
  generalize cbC w5 em = c1 at *
  go_wp2_with fail
  have hz7 := cbW_size w6 pv
  have hs6 := HT6.out.size
  have HT7 := Kp.mk (HT6.out.strans (cbW_still w6 pv))
  have HC2 := Kp.mk (And.intro (cbC_ge w6 pv) (cbC_le w6 pv (by have := HPV.out; omega)))
  have hv1 := HB1.out.still (cbW_still w6 pv)
  have hv2 := cbW_bs w6 pv (fun b => w.heap.size ≤ b ∧ b < w6.heap.size + 1) ⟨hs6, by omega⟩
  generalize cbW w6 pv = w7 at *
  generalize cbC w6 pv = c2 at *
  have HO := Kp.mk (OwnF.lit (w := w7.alloc (.cells #[.int .i64 1, .int .i64 ch, .slice (some ⟨X1, 0, none⟩) em.length c1, .int .i64 2, .int .i64 ch, .slice (some ⟨w6.heap.size, 0, none⟩) pv.length c2] 52)) (base := w.heap.size) (g := w7.heap.size) (S := fun b => w.heap.size ≤ b) (l := [⟨1, ch, em⟩, ⟨2, ch, pv⟩]) (us := [.int .i64 1, .int .i64 ch, .slice (some ⟨X1, 0, none⟩) em.length c1, .int .i64 2, .int .i64 ch, .slice (some ⟨w6.heap.size, 0, none⟩) pv.length c2])
    (heap_alloc_new _ _) (by omega)
    ⟨_, _, _, rfl, ⟨(hv1.still ((Still.refl w7).alloc _)).weak (fun b hb => ⟨hb.1, by omega⟩), HC1.out⟩, ⟨_, _, _, rfl, ⟨(hv2.still ((Still.refl w7).alloc _)).weak (fun b hb => ⟨hb.1, by omega⟩), HC2.out⟩, rfl⟩⟩ (show 2 ≤ 9223372036854775807 by decide))
  have HT8 := Kp.mk (HT7.out.alloc (.cells #[.int .i64 1, .int .i64 ch, .slice (some ⟨X1, 0, none⟩) em.length c1, .int .i64 2, .int .i64 ch, .slice (some ⟨w6.heap.size, 0, none⟩) pv.length c2] 52))
  clear hv1 hv2 hz7 hs6 CM CT CS CQ hq1 hq2 hadd
  generalize w7.alloc (.cells #[.int .i64 1, .int .i64 ch, .slice (some ⟨X1, 0, none⟩) em.length c1, .int .i64 2, .int .i64 ch, .slice (some ⟨w6.heap.size, 0, none⟩) pv.length c2] 52) = w8 at *
  go_loopw [15, 16] (fun v i wr => ∃ (k x : Nat) (A' : Option Addr) (c' : Nat), i = .int .i64 x ∧ v = .slice A' (2 + k) c' ∧ Kp (x = k * N ∧ ∀ j, j < k → j * N < body.length) ∧ Kp (OwnF wr w.heap.size (fun b => w.heap.size ≤ b) A' c' (⟨1, ch, em⟩ :: ⟨2, ch, pv⟩ :: bodyF ch body N k)) ∧ Kp (Still w wr)) (fun _ i _ => body.length - (intOf i).toNat)
  case atStart => exact ⟨0, 0, _, _, rfl, rfl, ⟨⟨by omega, fun j h => absurd h (by omega)⟩⟩, HO, HT8⟩
  case round =>
    obtain ⟨k, x, A', c', rfl, rfl, HX, HW, HT⟩ := hrel
    by_cases hlt : x < body.length
    · obtain ⟨d, hd⟩ : ∃ d, (body.drop x).take N = d := ⟨_, rfl⟩
      have hdl : d.length ≤ 4096 := by rw [← hd, List.length_take]; omega
      have hq3 := conv_sb d wr
      have hzr := cbW_size wr d
      have hsr := HT.out.size
      have HCB := Kp.mk (cbW_bs wr d (fun b => w.heap.size ≤ b ∧ ¬ blk A' b) ⟨hsr, fun h => by have := (HW.out.base h).2; omega⟩)
      have HCC := Kp.mk (And.intro (cbC_ge wr d) (cbC_le wr d (by omega)))
      have HCS := Kp.mk (cbW_still wr d)
      have HZR := Kp.mk hzr; have HSR := Kp.mk hsr
      have HD := Kp.mk hd
      have HKB := Kp.mk (show k ≤ 65537 by
        rcases Nat.eq_zero_or_pos k with h | h
        · omega
        · have h1 := HX.out.2 (k - 1) (by omega)
          have h2 : (k - 1) * 1 ≤ (k - 1) * N := Nat.mul_le_mul_left _ (by omega)
          omega)
      generalize cbW wr d = wd at *
      generalize cbC wr d = cd at *
      by_cases hc : x + N < body.length
      · have hsl : ∀ W, (Instr.slice 9 (.string (ps body)) (some (.int .i64 x)) (some (.int .i64 ((x : Int) + (N : Int)))) none).run Try.prog W = .ok (.string (ps d)) W := fun W => by
          have h := cut_str body x (x + N) (by omega) (by omega) W
          rw [show x + N - x = N by omega, hd, Int.natCast_add] at h
          exact h
        clear hd hzr hsr
        go_wp2_with (at_builtin; (refine wpList_appF _ rfl _ _ rfl w.heap.size (fun b => w.heap.size ≤ b) A' c' _ (⟨1, ch, em⟩ :: ⟨2, ch, pv⟩ :: bodyF ch body N k) rfl ?_ ((HW.out.still HCS.out).still ((Still.refl _).alloc _)) _ 0 _ ⟨3, ch, d⟩ (some ⟨wr.heap.size, 0, none⟩) _ rfl ?_ ?_ ?_ (HCB.out.still ((Still.refl _).alloc _)) HCC.out.1 HCC.out.2 ?_ ?_ ?_); (simp only [List.length_cons, bodyF_len]; omega); go_simp; go_simp; go_simp; (simp only [List.length_cons, bodyF_len]; have := HKB.out; omega); (simp only [World.size_alloc]; have := HZR.out; have := HSR.out; omega); intro A2 c2' w2 ho2 ht2 hat2; have HO2 := Kp.mk ho2; have HT2 := Kp.mk (app_still2 ((HT.out.strans HCS.out).alloc _) (fun b hb => (HW.out.base hb).1) ht2); clear ho2 ht2 hat2)
        go_roundw
        case rel =>
          refine ⟨k + 1, x + N, A2, c2', by go_num, rfl, ⟨?_, ?_⟩, ⟨?_⟩, HT2⟩
          · rw [HX.out.1, Nat.succ_mul]
          · intro j hj
            by_cases e : j < k
            · exact HX.out.2 j e
            · have : j = k := by omega
              subst this; have := HX.out.1; omega
          · have h := HO2.out
            rw [← HD.out, HX.out.1] at h
            rw [bodyF_succ, Int.toNat_natCast]
            exact h
        case measure => go_light; simp only [intOf]; omega
      · have hsl : ∀ W, (Instr.slice 9 (.string (ps body)) (some (.int .i64 x)) (some (.int .i64 body.length)) none).run Try.prog W = .ok (.string (ps d)) W := fun W => by
          have h := cut_str body x body.length (by omega) (by omega) W
          rw [List.take_of_length_le (by simp), show body.drop x = d by rw [← hd, List.take_of_length_le (by simp; omega)]] at h
          exact h
        replace hc : body.length ≤ x + N := by omega
        clear hd hzr hsr
        go_wp2_with (at_builtin; (refine wpList_appF _ rfl _ _ rfl w.heap.size (fun b => w.heap.size ≤ b) A' c' _ (⟨1, ch, em⟩ :: ⟨2, ch, pv⟩ :: bodyF ch body N k) rfl ?_ ((HW.out.still HCS.out).still ((Still.refl _).alloc _)) _ 0 _ ⟨3, ch, d⟩ (some ⟨wr.heap.size, 0, none⟩) _ rfl ?_ ?_ ?_ (HCB.out.still ((Still.refl _).alloc _)) HCC.out.1 HCC.out.2 ?_ ?_ ?_); (simp only [List.length_cons, bodyF_len]; omega); go_simp; go_simp; go_simp; (simp only [List.length_cons, bodyF_len]; have := HKB.out; omega); (simp only [World.size_alloc]; have := HZR.out; have := HSR.out; omega); intro A2 c2' w2 ho2 ht2 hat2; have HO2 := Kp.mk ho2; have HT2 := Kp.mk (app_still2 ((HT.out.strans HCS.out).alloc _) (fun b hb => (HW.out.base hb).1) ht2); clear ho2 ht2 hat2)
        go_roundw
        case rel =>
          refine ⟨k + 1, x + N, A2, c2', by go_num, rfl, ⟨?_, ?_⟩, ⟨?_⟩, HT2⟩
          · rw [HX.out.1, Nat.succ_mul]
          · intro j hj
            by_cases e : j < k
            · exact HX.out.2 j e
            · have : j = k := by omega
              subst this; have := HX.out.1; omega
          · have h := HO2.out
            rw [← HD.out, HX.out.1] at h
            rw [bodyF_succ, Int.toNat_natCast]
            exact h
        case measure => go_light; simp only [intOf]; omega
    · have hn : nCh body.length (N : Int) = k := by
        unfold nCh
        rw [Int.toNat_natCast]
        exact chunks_n (by omega) (by have := HX.out.1; omega) HX.out.2
      have HN := Kp.mk hn
      clear hn
      go_wp2_with fail
      go_ret2
      rw [HE.out, HF.out, HN.out]
      refine ⟨A', c', ?_, HW.out.fs (fun _ h => h) (fun _ h => h), HT.out⟩
      simp only [List.length_cons, bodyF_len]
      rw [show k + 1 + 1 = 2 + k by omega]
      rfl
end Go.Proofs.Ytaeainkfllfdfaa
/- E12: The walk of ContentCuts. -/
namespace Go.Proofs.Ytaeainkfllfdfaa
open Go.RowKit
set_option linter.unusedVariables false
set_option linter.unusedSimpArgs false
set_option maxRecDepth 100000

theorem nCh_le (n N : Nat) (hn : n ≤ 600) (h1 : 8 ≤ N) : (n + N - 1) / N ≤ 700 := by
  have h1 : (n + N - 1) / N ≤ (n + N - 1 + 0) / 1 := by
    rw [Nat.div_one]; exact Nat.div_le_self _ _
  by_cases h : N ≤ 100
  · omega
  · have : (n + N - 1) / N < 8 := by
      rw [Nat.div_lt_iff_lt_mul (by omega)]; omega
    omega
theorem cutF_len (ch : Int) (m : M) (p : L) (body : List UInt8) (most : Int) (hb : body.length ≤ 600) : (cutF ch m p body most).length ≤ 1000 := by
  unfold cutF
  by_cases h : cutE ch m p body.length most = 0
  · rw [if_pos h]
    have hm : cutMay ch m body.length most = true := by
      cases hc : cutMay ch m body.length most with
      | true => rfl
      | false => unfold cutE at h; rw [hc] at h; simp at h
    unfold cutMay at hm
    simp only [Bool.and_eq_true, decide_eq_true_eq] at hm
    simp only [List.length_cons, bodyF_len]
    have := nCh_le body.length most.toNat hb (by omega)
    unfold nCh
    omega
  · rw [if_neg h]; exact Nat.zero_le _

set_option maxHeartbeats 4000000 in
theorem cuts15 (ch : Int) (m : M) (A : Option Addr) (c : Nat) (p : L) (AP : Option Addr) (cP : Nat) (body : List UInt8) (AB : Option Addr) (cB : Nat) (most : Int) (w : World) (hch1 : -9223372036854775808 ≤ ch) (hch2 : ch ≤ 9223372036854775807) (hM : m.Ok) (hS : Sl w (fun b => b < w.heap.size) A m.ar)
    (hO : p.Ok) (hl : p.len ≤ 140737488351232) (hSP : Sl w (fun b => b < w.heap.size) AP p) (hB : Bs w (fun b => b < w.heap.size) AB body) (hbl : body.length ≤ 140737488351232) (hbc : body.length ≤ cB)
    (hm1 : -9223372036854775808 ≤ most) (hm2 : most ≤ 9223372036854775807) :
    Calls Try.prog 15 #[.int .i64 ch, m.val A c, .slice AP p.len cP, .slice AB body.length cB, .int .i64 most] w fun e w' => e = .returned (.bool true) ∧ Still w w' := by
  have HMO := Kp.mk hM; have HPO := Kp.mk hO; have HSM := Kp.mk hS; have HSP := Kp.mk hSP; have HSB := Kp.mk hB
  have HM0 := Kp.mk (MAt.new (c := c) m hS)
  clear hM hO hS hSP hB
  go_enter Try.func15, Try.ntmps15
  go_wp2_with fail
  refine (few23 m A c _ _ HMO.out (HSM.out.still ((Still.refl _).alloc _))).mono ?_
  rintro e w1 ⟨⟨fw, rfl⟩, ht1⟩
  have HT1 := Kp.mk (((Still.refl w).alloc _).strans ht1)
  have HM1 := Kp.mk (HM0.out.still ht1)
  clear ht1 HM0
  cases fw with
  | false =>
    go_wp2_with fail
    refine (told24 w1).mono ?_
    rintro e w2 ⟨rfl, ht2⟩
    have HT2 := Kp.mk (HT1.out.strans ht2); clear ht2
    go_wp2_with fail
    go_ret
    exact ⟨rfl, HT2.out⟩
  | true =>
  go_wp2_with fail
  refine (few16 p AP cP _ w1 hl HPO.out (HSP.out.still HT1.out)).mono ?_
  rintro e w2 ⟨⟨fw, rfl⟩, ht2⟩
  have HT2 := Kp.mk (HT1.out.strans ht2)
  have HM2 := Kp.mk (HM1.out.still ht2)
  clear ht2 HM1 HT1
  cases fw with
  | false =>
    go_wp2_with fail
    refine (told24 w2).mono ?_
    rintro e w3 ⟨rfl, ht3⟩
    have HT3 := Kp.mk (HT2.out.strans ht3); clear ht3
    go_wp2_with fail
    go_ret
    exact ⟨rfl, HT3.out⟩
  | true =>
  by_cases hlong : 600 < body.length
  · go_wp2_with fail
    refine (told24 w2).mono ?_
    rintro e w3 ⟨rfl, ht3⟩
    have HT3 := Kp.mk (HT2.out.strans ht3); clear ht3
    go_wp2_with fail
    go_ret
    exact ⟨rfl, HT3.out⟩
  replace hlong : body.length ≤ 600 := by omega
  have q0 := HM2.out.id
  have q1 := HM2.out.nm
  have q2 := HM2.out.ty
  have q3 := HM2.out.ex
  have q4 := HM2.out.ky
  have q5 := HM2.out.tx
  have q6 := HM2.out.co
  have q7 := HM2.out.cn
  have q8 := HM2.out.tg
  have q9 := HM2.out.fl
  have q10 := HM2.out.bk
  have q11 := HM2.out.ar
  go_wp2_with fail
  refine (cut25 ch most m p body w2 _ _ _ A AP AB c cP cB hch1 hch2 hm1 hm2 HMO.out HPO.out hl hbl hbc (HSM.out.still HT2.out) (HSP.out.still HT2.out) (HSB.out.still HT2.out)).mono ?_
  rintro e w3 ⟨A1, c1, rfl, hf1, ht3⟩
  have HT3 := Kp.mk (HT2.out.strans ht3)
  have HM3 := Kp.mk (HM2.out.still ht3)
  have HF1 := Kp.mk hf1
  have hlf := cutF_len ch m p body most hlong
  clear ht3 hf1 HM2 HT2 q0 q1 q2 q3 q4 q5 q6 q7 q8 q9 q10 q11
  have q0 := HM3.out.id
  have q1 := HM3.out.nm
  have q2 := HM3.out.ty
  have q3 := HM3.out.ex
  have q4 := HM3.out.ky
  have q5 := HM3.out.tx
  have q6 := HM3.out.co
  have q7 := HM3.out.cn
  have q8 := HM3.out.tg
  have q9 := HM3.out.fl
  have q10 := HM3.out.bk
  have q11 := HM3.out.ar
  have hcv := run_conv (c := cB) (HSB.out.still HT3.out) body.length rfl
  go_wp2_with fail
  refine (refCut38 ch most m p body w3 _ _ A AP c cP hch1 hch2 hm1 hm2 HMO.out HPO.out hl hbl (HSM.out.still HT3.out) (HSP.out.still HT3.out)).mono ?_
  rintro e w4 ⟨A2, c2, rfl, hf2, ht4⟩
  have HT4 := Kp.mk (HT3.out.strans ht4)
  have HF1 := Kp.mk ((HF1.out.still ht4).weak (S' := fun _ => True) (fun _ _ => trivial))
  have HF2 := Kp.mk (hf2.weak (S' := fun _ => True) (fun _ _ => trivial))
  clear ht4 hf2 HM3 q0 q1 q2 q3 q4 q5 q6 q7 q8 q9 q10 q11 hcv
  generalize cutF ch m p body most = fs at *
  generalize cutE ch m p body.length most = code at *
  go_wp2_with fail
  go_loopw [15] (fun i wr => ∃ t : Nat, t ≤ fs.length ∧ i = .int .i64 t ∧ Kp (Still w4 wr)) (fun i _ => fs.length - (intOf i).toNat)
  case atStart => exact ⟨0, by omega, rfl, ⟨Tch.refl _ _⟩⟩
  case round =>
    obtain ⟨t, ht, rfl, HT⟩ := hrel
    by_cases hlt : t < fs.length
    · obtain ⟨b1, o1, rfl, hat1⟩ := fs_frame HF1.out (by omega)
      obtain ⟨b2, o2, rfl, hat2⟩ := fs_frame HF2.out (by omega)
      obtain ⟨A5, c5, p0, p1, p2, HB5⟩ := hat1 wr HT.out t hlt
      obtain ⟨A6, c6, r0, r1, r2, HB6⟩ := hat2 wr HT.out t hlt
      have HA1 := Kp.mk hat1; have HA2 := Kp.mk hat2
      generalize fs[t] = f at *
      clear hat1 hat2 HF1 HF2
      have HP := Kp.mk (show ∀ W, Still wr W → W.cell? ⟨b1, o1 + t * 3, none⟩ = some (.int .i64 f.k) ∧ W.cell? ⟨b1, o1 + t * 3 + 1, none⟩ = some (.int .i64 f.ch) ∧ W.cell? ⟨b1, o1 + t * 3 + 2, none⟩ = some (.slice A5 f.d.length c5) ∧ W.cell? ⟨b2, o2 + t * 3, none⟩ = some (.int .i64 f.k) ∧ W.cell? ⟨b2, o2 + t * 3 + 1, none⟩ = some (.int .i64 f.ch) ∧ W.cell? ⟨b2, o2 + t * 3 + 2, none⟩ = some (.slice A6 f.d.length c6) from fun W h => ⟨h.scell p0, h.scell p1, h.scell p2, h.scell r0, h.scell r1, h.scell r2⟩)
      clear p0 p1 p2 r0 r1 r2
      go_upto_region 10 with (fail)
      refine wp_region_held_drew (S := fun W => W.cell? ⟨b1, o1 + t * 3, none⟩ = some (.int .i64 f.k) ∧ W.cell? ⟨b1, o1 + t * 3 + 1, none⟩ = some (.int .i64 f.ch) ∧ W.cell? ⟨b1, o1 + t * 3 + 2, none⟩ = some (.slice A5 f.d.length c5) ∧ W.cell? ⟨b2, o2 + t * 3, none⟩ = some (.int .i64 f.k) ∧ W.cell? ⟨b2, o2 + t * 3 + 1, none⟩ = some (.int .i64 f.ch) ∧ W.cell? ⟨b2, o2 + t * 3 + 2, none⟩ = some (.slice A6 f.d.length c6)) (by kernel_rfl) (HP.out _ ((Still.refl wr).drew)) (fun hHeld0 => ?_)
      refine wpAnyH_take (i := 0) (v := .slice (some ⟨b1, o1, none⟩) fs.length c1) rfl (by kernel_rfl) (by kernel_rfl) (by kernel_rfl) (fun _ _ _ h => h) (Or.inl ⟨by rfl, ?_⟩) hHeld0 ?_
      · (intro w hSw; (try dsimp only at hSw); go_simp; all_goals (try rfl))
      simp only [Act.put, List.getElem_toArray, List.getElem_cons_zero, List.getElem_cons_succ, List.setIfInBounds_toArray, List.set_cons_zero, List.set_cons_succ]
      refine wpAnyH_take (i := 1) (v := .int .i64 t) rfl (by kernel_rfl) (by kernel_rfl) (by kernel_rfl) (fun _ _ _ h => h) (Or.inl ⟨by rfl, ?_⟩) hHeld0 ?_
      · (intro w hSw; (try dsimp only at hSw); go_simp; all_goals (try rfl))
      simp only [Act.put, List.getElem_toArray, List.getElem_cons_zero, List.getElem_cons_succ, List.setIfInBounds_toArray, List.set_cons_zero, List.set_cons_succ]
      refine wpAnyH_take (i := 4) (v := .slice (some ⟨b2, o2, none⟩) fs.length c2) rfl (by kernel_rfl) (by kernel_rfl) (by kernel_rfl) (fun _ _ _ h => h) (Or.inl ⟨by rfl, ?_⟩) hHeld0 ?_
      · (intro w hSw; (try dsimp only at hSw); go_simp; all_goals (try rfl))
      simp only [Act.put, List.getElem_toArray, List.getElem_cons_zero, List.getElem_cons_succ, List.setIfInBounds_toArray, List.set_cons_zero, List.set_cons_succ]
      refine wpAnyH_take (i := 5) (v := .int .i64 t) rfl (by kernel_rfl) (by kernel_rfl) (by kernel_rfl) (fun _ _ _ h => h) (Or.inl ⟨by rfl, ?_⟩) hHeld0 ?_
      · (intro w hSw; (try dsimp only at hSw); go_simp; all_goals (try rfl))
      simp only [Act.put, List.getElem_toArray, List.getElem_cons_zero, List.getElem_cons_succ, List.setIfInBounds_toArray, List.set_cons_zero, List.set_cons_succ]
      refine wpAnyH_take (i := 2) (v := .pointer (some ⟨b1, o1 + t * 3, none⟩)) rfl (by kernel_rfl) (by kernel_rfl) (by kernel_rfl) (fun _ _ _ h => h) (Or.inl ⟨by rfl, ?_⟩) hHeld0 ?_
      · (intro w hSw; (try dsimp only at hSw); go_simp; all_goals (try rfl))
      simp only [Act.put, List.getElem_toArray, List.getElem_cons_zero, List.getElem_cons_succ, List.setIfInBounds_toArray, List.set_cons_zero, List.set_cons_succ]
      refine wpAnyH_take (i := 3) (v := .agg #[.int .i64 f.k, .int .i64 f.ch, .slice A5 f.d.length c5]) rfl (by kernel_rfl) (by kernel_rfl) (by kernel_rfl) (fun _ _ _ h => h) (Or.inl ⟨by rfl, ?_⟩) hHeld0 ?_
      · (intro w hSw; (try dsimp only at hSw); go_simp; all_goals (try rfl))
      simp only [Act.put, List.getElem_toArray, List.getElem_cons_zero, List.getElem_cons_succ, List.setIfInBounds_toArray, List.set_cons_zero, List.set_cons_succ]
      refine wpAnyH_take (i := 6) (v := .pointer (some ⟨b2, o2 + t * 3, none⟩)) rfl (by kernel_rfl) (by kernel_rfl) (by kernel_rfl) (fun _ _ _ h => h) (Or.inl ⟨by rfl, ?_⟩) hHeld0 ?_
      · (intro w hSw; (try dsimp only at hSw); go_simp; all_goals (try rfl))
      simp only [Act.put, List.getElem_toArray, List.getElem_cons_zero, List.getElem_cons_succ, List.setIfInBounds_toArray, List.set_cons_zero, List.set_cons_succ]
      refine wpAnyH_take (i := 7) (v := .agg #[.int .i64 f.k, .int .i64 f.ch, .slice A6 f.d.length c6]) rfl (by kernel_rfl) (by kernel_rfl) (by kernel_rfl) (fun _ _ _ h => h) (Or.inl ⟨by rfl, ?_⟩) hHeld0 ?_
      · (intro w hSw; (try dsimp only at hSw); go_simp; all_goals (try rfl))
      simp only [Act.put, List.getElem_toArray, List.getElem_cons_zero, List.getElem_cons_succ, List.setIfInBounds_toArray, List.set_cons_zero, List.set_cons_succ]
      refine wpAnyH_ready (rs := [8]) (by kernel_rfl) (by simp) ?_
      refine AllReadyH.cons (o := ?o1) ?ho1 (fun K hK => ?_) AllReadyH.nil
      case ho1 => (first | (simp only [List.getElem?_toArray, List.getElem?_cons_succ, List.getElem?_cons_zero]; done) | (simp only [List.getElem?_toArray, List.getElem?_cons_succ, List.getElem?_cons_zero]; rfl))
      go_simp
      go_at_call 39
      refine (sameF39 f A5 A6 c5 c6 (fun _ => True) _ (HB5.out.1.still ((Still.refl wr).drew)) (HB6.out.1.still ((Still.refl wr).drew))).mono ?_
      rintro e w5 ⟨rfl, ht5⟩
      have HT5 := Kp.mk (((Still.refl wr).drew).strans ht5); clear ht5
      go_simp
      refine hK.out _ _ (HP.out _ HT5.out) (fun hHeld1 => ?_)
      clear hK K
      try simp only [Act.put, List.getElem_toArray, List.getElem_cons_zero, List.getElem_cons_succ, List.setIfInBounds_toArray, List.set_cons_zero, List.set_cons_succ]
      refine wpAnyH_ready (rs := [9]) (by kernel_rfl) (by simp) ?_
      refine AllReadyH.cons (o := ?o2) ?ho2 (fun K hK => ?_) AllReadyH.nil
      case ho2 => (first | (simp only [List.getElem?_toArray, List.getElem?_cons_succ, List.getElem?_cons_zero]; done) | (simp only [List.getElem?_toArray, List.getElem?_cons_succ, List.getElem?_cons_zero]; rfl))
      go_simp
      refine hK.out _ _ (HP.out _ HT5.out) (fun hHeld2 => ?_)
      clear hK K
      try simp only [Act.put, List.getElem_toArray, List.getElem_cons_zero, List.getElem_cons_succ, List.setIfInBounds_toArray, List.set_cons_zero, List.set_cons_succ]
      refine wpAnyH_done (by kernel_rfl) ?_ _
      go_wp2_with fail
      go_roundw
      case rel => exact ⟨t + 1, by omega, by go_num, ⟨HT.out.strans HT5.out⟩⟩
      case measure => go_light; simp only [intOf]; omega
    · go_wp2_with fail
      refine (told24 wr).mono ?_
      rintro e w5 ⟨rfl, ht5⟩
      have HT5 := Kp.mk ((HT4.out.strans HT.out).strans ht5); clear ht5
      go_wp2_with fail
      go_ret
      exact ⟨rfl, HT5.out⟩
end Go.Proofs.Ytaeainkfllfdfaa
