/- The contract of value.reader's table. -/
import Derived.Test.YtaeainkfllfdfaaB9
namespace Go.Proofs.Ytaeainkfllfdfaa
open Go.RowKit
set_option linter.unusedVariables false
set_option linter.unusedSimpArgs false
set_option maxRecDepth 100000

/-- What holds of the loop of reader.table at its label. -/
structure TabInv (w : World) (R N base deep : Nat) (S : Nat → Prop) (tab : Rd → L × Rd) (r2 : Rd) (q : L × Rd) (acc : L) (inn : Rd) (A : Option Addr) (c : Nat) (wr : World) : Prop where
  fuel : Rd.items tab (33 - acc.len) acc inn = q
  le : acc.len ≤ 33
  own : OwnI wr base (base ≤ ·) A c acc
  dp : inn.bad = false → deep ≤ 4
  inn : RdAt wr N S inn
  out : RdAt wr R S r2
  tch : Tch (· = R) w wr
  hN : N < base
  hN2 : w.heap.size ≤ N
  hB : base ≤ wr.heap.size

/-- The frame there. -/
def TabJ (w : World) (R deep : Nat) (S : Nat → Prop) (tab : Rd → L × Rd) (r2 : Rd) (q : L × Rd) (a' : Act) (wr : World) : Prop :=
  ∃ (N base : Nat) (acc : L) (inn : Rd) (A : Option Addr) (c : Nat) (u6 u7 u9 u10 u11 u12 u13 u14 u15 u16 u17 u18 u19 u20 u21 u22 u23 u24 u25 u26 u27 u28 u29 u30 u31 u32 u33 u34 u35 u36 u37 u38 u39 u40 u41 u42 u43 u44 u45 u46 u47 u48 u49 u50 u51 u52 u53 u54 u55 u56 u57 u58 u59 u60 u61 u62 u63 u64 u65 u66 u67 u68 u69 u70 u71 : Value), Kp (TabInv w R N base deep S tab r2 q acc inn A c wr) ∧
    a' = { tmps := #[.pointer (some ⟨R, 0, none⟩), .int .i64 deep, undef, undef, .slice none 0 0, .slice A acc.len c, u6, u7, .pointer (some ⟨N, 0, none⟩), u9, u10, u11, u12, u13, u14, u15, u16, u17, u18, u19, u20, u21, u22, u23, u24, u25, u26, u27, u28, u29, u30, u31, u32, u33, u34, u35, u36, u37, u38, u39, u40, u41, u42, u43, u44, u45, u46, u47, u48, u49, u50, u51, u52, u53, u54, u55, u56, u57, u58, u59, u60, u61, u62, u63, u64, u65, u66, u67, u68, u69, u70, u71], defers := [] }

theorem Rd.items_stop {tab : Rd → L × Rd} {f : Nat} {l : L} {r : Rd} (h : ¬ (r.bad = false ∧ r.b ≠ [] ∧ l.len ≤ 32)) : Rd.items tab f l r = (l, r) := by
  cases f with
  | zero => rfl
  | succ f => simp only [Rd.items, if_neg h]

set_option maxHeartbeats 8000000 in
theorem table_loop (j deep : Nat) (hC : deep ≤ 4 → TabRC j (deep + 1)) (hdp : deep ≤ 5) (R : Nat) (S : Nat → Prop) (r : Rd) (w : World) (hr : RdAt w R S r) (hS : ¬ S R) (hR : R < w.heap.size) (hSo : ∀ b, S b → b < w.heap.size) :
    Calls Try.prog 42 #[.pointer (some ⟨R, 0, none⟩), .int .i64 deep] w (RetTab w R S (Rd.table (j + 1) deep r)) := by
  have HR := Kp.mk hr; clear hr
  have HS := Kp.mk hS; clear hS
  have HC := Kp.mk hC; clear hC
  have HSO := Kp.mk hSo; clear hSo
  rw [show Rd.table (j + 1) deep r = ((Rd.items (Rd.table j (deep + 1)) 33 .nil ⟨((r.num 4).2.raw (r.num 4).1).1, ((r.num 4).2.raw (r.num 4).1).2.bad || decide (4 < deep)⟩).1, ⟨((r.num 4).2.raw (r.num 4).1).2.b, ((r.num 4).2.raw (r.num 4).1).2.bad || (Rd.items (Rd.table j (deep + 1)) 33 .nil ⟨((r.num 4).2.raw (r.num 4).1).1, ((r.num 4).2.raw (r.num 4).1).2.bad || decide (4 < deep)⟩).2.bad⟩) from rfl]
  go_enter Try.func42, Try.ntmps42
  go_wp2_with fail
  refine wp_scope_loop 0 (TabJ w R deep S (Rd.table j (deep + 1)) ((r.num 4).2.raw (r.num 4).1).2 (Rd.items (Rd.table j (deep + 1)) 33 .nil ⟨((r.num 4).2.raw (r.num 4).1).1, ((r.num 4).2.raw (r.num 4).1).2.bad || decide (4 < deep)⟩)) (fun a' _ => 40 - lenOfV (a'.tmps.getD 5 undef)) rfl ?_ ?_
  · rintro a' wr ⟨N, base, acc, inn, A, c, u6, u7, u9, u10, u11, u12, u13, u14, u15, u16, u17, u18, u19, u20, u21, u22, u23, u24, u25, u26, u27, u28, u29, u30, u31, u32, u33, u34, u35, u36, u37, u38, u39, u40, u41, u42, u43, u44, u45, u46, u47, u48, u49, u50, u51, u52, u53, u54, u55, u56, u57, u58, u59, u60, u61, u62, u63, u64, u65, u66, u67, u68, u69, u70, u71, ⟨HI⟩, rfl⟩
    generalize ((r.num 4).2.raw (r.num 4).1).2 = r2 at *
    by_cases hcond : inn.bad = false ∧ inn.b ≠ [] ∧ acc.len ≤ 32
    · obtain ⟨hb1, hbe, hal⟩ := hcond
      have hbl : 0 < inn.b.length := List.length_pos_iff.2 hbe
      have hb3 := HI.inn
      have hd4 := HI.dp hb1
      have hC1 := HC.out hd4
      obtain ⟨AI, cI, i0, i1, fi0, fi1, _, _, _⟩ := HI.inn
      rw [hb1] at i1
      have HB1 := Kp.mk hb1
      have HBE := Kp.mk hbe; clear hb1 hbe hb3 HC
      have hNS : ¬ S N := fun h => by have := HSO.out N h; have := HI.hN2; omega
      have HNS := Kp.mk hNS; clear hNS
      have hNN := HI.hN; have hNN2 := HI.hN2; have hBB := HI.hB
      have HII := Kp.mk HI; clear HI
      have HC1 := Kp.mk hC1; clear hC1
      go_wp2_with fail
      refine (rnum76 N S inn 1 _ _ rfl (by omega) HII.out.inn HNS.out).mono ?_
      rintro e w1 ⟨rfl, hr1, ht1⟩
      have hl4 := num_lt inn 1 (by omega)
      go_wp2_with fail
      refine (raw77 N S (inn.num 1).2 _ _ w1 rfl hl4 hr1 HNS.out).mono ?_
      rintro e w2 ⟨AX, cX, rfl, hbx, hr2, ht2, hc1, hc2⟩
      have HT2 := Kp.mk (ht1.trans ht2 (S := (· = N)) (fun b _ h => h))
      have hsz := HT2.out.size
      have HR2 := Kp.mk hr2
      have hcv := run_conv (c := cX) hbx _ rfl
      clear ht1 ht2 hr1 hl4 hr2 hbx
      go_wp2_with fail
      refine (value78 j deep HC1.out hdp N S ((inn.num 1).2.raw (inn.num 1).1).2 _ _ rfl (HR2.out.still ((Still.refl _).alloc _)) HNS.out (by simp only [World.size_alloc]; omega) (fun b hb => by have := HSO.out b hb; simp only [World.size_alloc]; omega)).mono ?_
      rintro e w3 ⟨AV, cV, rfl, hsv, hr3, ht3⟩
      have hit : inn.item (Rd.table j (deep + 1)) = ({ (((inn.num 1).2.raw (inn.num 1).1).2.value (Rd.table j (deep + 1))).1 with nm := ⟨((inn.num 1).2.raw (inn.num 1).1).1.toArray⟩ }, (((inn.num 1).2.raw (inn.num 1).1).2.value (Rd.table j (deep + 1))).2) := rfl
      generalize ((inn.num 1).2.raw (inn.num 1).1).2.value (Rd.table j (deep + 1)) = V at *
      have hnb : N ≠ w2.heap.size := by omega
      have z0 := ht3.cell (a := ⟨w2.heap.size, 0, none⟩) (v := .string ⟨((inn.num 1).2.raw (inn.num 1).1).1.toArray⟩) (by go_simp) (by simp; omega)
      have z1 := ht3.cell (a := ⟨w2.heap.size, 1, none⟩) (v := .int .i64 0) (by go_simp) (by simp; omega)
      have z2 := ht3.cell (a := ⟨w2.heap.size, 2, none⟩) (v := .int .i64 0) (by go_simp) (by simp; omega)
      have z3 := ht3.cell (a := ⟨w2.heap.size, 3, none⟩) (v := .string { data := #[] }) (by go_simp) (by simp; omega)
      have z4 := ht3.cell (a := ⟨w2.heap.size, 4, none⟩) (v := .slice none 0 0) (by go_simp) (by simp; omega)
      have zf : ∀ o, w3.frozen? ⟨w2.heap.size, o, none⟩ = false := fun o => (ht3.frozen (a := ⟨w2.heap.size, o, none⟩) (by simp) (by simp; omega)).trans (by go_simp)
      have hsz3 := ht3.size
      simp only [World.size_alloc] at hsz3
      have HT3 := Kp.mk ((HT2.out.alloc _).trans ht3 (S := (· = N)) (fun b _ h => h))
      have HSV := Kp.mk hsv; have HR3 := Kp.mk hr3; have HIT := Kp.mk hit; clear hsv hr3 ht3 hit hcv HR2 HT2
      have hown : ∀ w4, Tch (· = w2.heap.size) w3 w4 → OwnI w4 base (base ≤ ·) A c acc := fun w4 h4 =>
        (HII.out.own.tch (HT3.out.trans h4 (S := fun b => b = N) (fun b hb e => by omega)) (fun b hb e => by have := (HII.out.own.base hb).1; omega) (fun b hb _ e => by omega))
      have hvs : ∀ w4, Tch (· = w2.heap.size) w3 w4 → Vals w4 (fun b => wr.heap.size ≤ b) (L.one (inn.item (Rd.table j (deep + 1))).1) [.string ⟨((inn.num 1).2.raw (inn.num 1).1).1.toArray⟩, .int .i64 V.1.k, .int .i64 V.1.n, .string V.1.s, .slice AV V.1.it.len cV] := fun w4 h4 => by
        rw [HIT.out]
        exact ⟨AV, cV, [], rfl, (HSV.out.tch h4 (fun b hb e => by simp only [World.size_alloc] at hb; omega)).weak (fun b hb => by simp only [World.size_alloc] at hb; omega), rfl⟩
      have HO := Kp.mk hown; have HVS := Kp.mk hvs; clear hown hvs
      have hW4 : Tch (· = w2.heap.size) w3 (((((w3.setCell ⟨w2.heap.size, 1, none⟩ (.int .i64 V.1.k)).setCell ⟨w2.heap.size, 2, none⟩ (.int .i64 V.1.n)).setCell ⟨w2.heap.size, 3, none⟩ (.string V.1.s)).setCell ⟨w2.heap.size, 4, none⟩ (.slice AV V.1.it.len cV)).alloc (.cells #[.string ⟨((inn.num 1).2.raw (inn.num 1).1).1.toArray⟩, .int .i64 V.1.k, .int .i64 V.1.n, .string V.1.s, .slice AV V.1.it.len cV] 37)) := by
        refine Tch.alloc ?_ _
        iterate 4 refine Tch.setCell ?_ _ _ (fun _ => rfl)
        exact Tch.refl _ _
      have HW4 := Kp.mk hW4; clear hW4
      go_wp2_with (at_builtin; (refine wpList_appI _ rfl _ _ rfl base (base ≤ ·) (wr.heap.size ≤ ·) A c _ 1 acc (L.one (inn.item (Rd.table j (deep + 1))).1) rfl rfl (HO.out _ ?_) (some ⟨w3.heap.size, 0, none⟩) 1 _ rfl rfl (.inr ⟨_, 0, rfl, ?_⟩) (HVS.out _ ?_) ?_ ?_ ?_ ?_); rotate_right; intro A1 c1 w5 ho1 ht1 hat1; have HO1 := Kp.mk ho1; have HT1 := Kp.mk ht1; clear ho1 ht1 hat1)
      · have hlen : (acc.app (L.one (inn.item (Rd.table j (deep + 1))).1)).len = acc.len + 1 := by rw [L.len_app, L.len_one]
        rw [← hlen]
        go_step3
        simp only [Exit.then]
        have hTT : Tch (fun b => b = N ∨ blk A b) wr w5 := by
          refine (HT3.out.mono (T := fun b => b = N ∨ blk A b) (fun b _ h => .inl h)).trans ((HW4.out.mono (T := fun b => b = w2.heap.size ∨ blk A b) (fun b _ h => .inl h)).trans HT1.out (fun b _ h => .inr h)) (fun b hb e => ?_)
          rcases e with e | e
          · omega
          · exact .inr e
        have hbA : ∀ b, blk A b → base ≤ b := fun b hb => (HII.out.own.base hb).1
        have hfu : Rd.items (Rd.table j (deep + 1)) (33 - acc.len) acc inn = Rd.items (Rd.table j (deep + 1)) (33 - (acc.len + 1)) (acc.app (L.one (inn.item (Rd.table j (deep + 1))).1)) (inn.item (Rd.table j (deep + 1))).2 := by
          rw [show 33 - acc.len = (33 - (acc.len + 1)) + 1 by omega]
          rw [Rd.items, if_pos ⟨HB1.out, HBE.out, hal⟩]
        show _ ∧ _
        refine ⟨rfl, ⟨N, base, _, (inn.item (Rd.table j (deep + 1))).2, A1, c1, _, _, _, _, _, _, _, _, _, _, _, _, _, _, _, _, _, _, _, _, _, _, _, _, _, _, _, _, _, _, _, _, _, _, _, _, _, _, _, _, _, _, _, _, _, _, _, _, _, _, _, _, _, _, _, _, _, _, _, _, _, _, _, _, _, ⟨⟨?_, by rw [hlen]; omega, HO1.out, fun _ => hd4, ?_, HII.out.out.tch hTT (fun e => ?_) (fun b hb e => ?_), HII.out.tch.trans hTT (fun b hb e => ?_), hNN, hNN2, ?_⟩⟩, rfl⟩, ?_⟩
        · rw [hlen, ← hfu]; exact HII.out.fuel
        · rw [HIT.out]
          refine (HR3.out.tch HW4.out (by omega) (fun b hb e => ?_)).tch HT1.out (fun e => ?_) (fun b hb e => ?_)
          · have := HSO.out b hb; omega
          · have := hbA _ e; omega
          · have := HSO.out b hb; have := hbA _ e; omega
        · rcases e with e | e
          · omega
          · have := hbA _ e; omega
        · have := HSO.out b hb
          rcases e with e | e
          · omega
          · have := hbA _ e; omega
        · rcases e with e | e
          · omega
          · have := hbA _ e; omega
        · have := hTT.size; omega
        · show 40 - (acc.app (L.one (inn.item (Rd.table j (deep + 1))).1)).len < 40 - acc.len
          rw [hlen]; omega
      · exact HW4.out
      · intro j u hj
        rw [Nat.zero_add]
        exact cell_new' (by simp) (by rw [← hj]; simp only [List.getElem?_toArray])
      · exact HW4.out
      · intro b hb hlt
        refine ⟨by omega, fun h => ?_⟩
        have := (HII.out.own.base h).2; omega
      · simp only [L.len_one]; omega
      · have := HW4.out.size; omega
    · have hit := HI.fuel
      rw [Rd.items_stop hcond] at hit
      generalize Rd.items (Rd.table j (deep + 1)) 33 .nil _ = q at *
      subst hit
      obtain ⟨AI, cI, i0, i1, fi0, fi1, _, _, _⟩ := HI.inn
      obtain ⟨AO, cO, o0, o1, fo0, fo1, _, _, _⟩ := HI.out
      have hfin : ∀ b, (r2.bad || inn.bad) = b → RetTab w R S (acc, ⟨r2.b, b⟩) (.returned (.slice A acc.len c)) (wr.setCell ⟨R, 1, none⟩ (.bool b)) := fun b hb => by
        subst hb
        have hN := HI.hN; have hN2 := HI.hN2
        refine ⟨A, c, rfl, (HI.own.tch (T := (· = R)) ((Tch.refl _ wr).setCell _ _ (fun _ => rfl)) (fun b hb e => ?_) (fun b hb _ e => ?_)).sl (fun b hb => ?_) (fun b hb => Nat.le_of_lt (Nat.lt_of_le_of_lt hN2 (Nat.lt_of_lt_of_le hN hb))), HI.out.setBit HS.out _, HI.tch.setCell _ _ (fun _ => rfl)⟩
        · have := (HI.own.base hb).1; omega
        · omega
        · omega
      have HF := Kp.mk hfin; clear hfin HI
      cases hr2 : r2.bad with
      | true =>
        rw [hr2] at o1
        have HR2 := Kp.mk hr2; clear hr2
        cases hb1 : inn.bad with
        | true =>
          rw [hb1] at i1
          have HB1 := Kp.mk hb1; clear hb1 hcond
          go_wp2_with fail
          simp only [Exit.jump]
          go_ret
          exact HF.out true (by rw [HR2.out, HB1.out]; rfl)
        | false =>
          rw [hb1] at i1
          by_cases hbe : inn.b = []
          · have hbl : (inn.b.length : Int) = 0 := by rw [hbe]; rfl
            have hbn : inn.b.length = 0 := by omega
            rw [hbn] at i0
            have HB1 := Kp.mk hb1; clear hb1 hcond hbe hbl hbn
            go_wp2_with fail
            simp only [Exit.jump]
            go_ret
            exact HF.out true (by rw [HR2.out, HB1.out]; rfl)
          · have hal : ¬ acc.len ≤ 32 := fun h => hcond ⟨hb1, hbe, h⟩
            have hbl : 0 < inn.b.length := List.length_pos_iff.2 hbe
            have HB1 := Kp.mk hb1; clear hb1 hcond hbe
            go_wp2_with fail
            simp only [Exit.jump]
            go_ret
            exact HF.out true (by rw [HR2.out, HB1.out]; rfl)
      | false =>
        rw [hr2] at o1
        have HR2 := Kp.mk hr2; clear hr2
        cases hb1 : inn.bad with
        | true =>
          rw [hb1] at i1
          have HB1 := Kp.mk hb1; clear hb1 hcond
          go_wp2_with fail
          simp only [Exit.jump]
          go_ret
          exact HF.out true (by rw [HR2.out, HB1.out]; rfl)
        | false =>
          rw [hb1] at i1
          by_cases hbe : inn.b = []
          · have hbl : (inn.b.length : Int) = 0 := by rw [hbe]; rfl
            have hbn : inn.b.length = 0 := by omega
            rw [hbn] at i0
            have HB1 := Kp.mk hb1; clear hb1 hcond hbe hbl hbn
            go_wp2_with fail
            simp only [Exit.jump]
            go_ret
            exact HF.out false (by rw [HR2.out, HB1.out]; rfl)
          · have hal : ¬ acc.len ≤ 32 := fun h => hcond ⟨hb1, hbe, h⟩
            have hbl : 0 < inn.b.length := List.length_pos_iff.2 hbe
            have HB1 := Kp.mk hb1; clear hb1 hcond hbe
            go_wp2_with fail
            simp only [Exit.jump]
            go_ret
            exact HF.out false (by rw [HR2.out, HB1.out]; rfl)
  · intro hJ
    have HJ := Kp.mk hJ; clear hJ
    go_wp2_with fail
    refine (rnum76 R S r 4 _ _ rfl (by omega) HR.out HS.out).mono ?_
    rintro e w1 ⟨rfl, hr1, ht1⟩
    have hl4 := num_lt r 4 (by omega)
    go_wp2_with fail
    refine (raw77 R S (r.num 4).2 _ _ w1 rfl hl4 hr1 HS.out).mono ?_
    rintro e w2 ⟨AX, cX, rfl, hbx, hr2, ht2, hc1, hc2⟩
    have HT2 := Kp.mk (ht1.trans ht2 (S := (· = R)) (fun b _ h => h))
    clear ht1 ht2 hr1 hl4
    have hini : ∀ bad, RdAt (w2.alloc (.cells #[.slice AX ((r.num 4).2.raw (r.num 4).1).1.length cX, .bool bad] 77)) w2.heap.size S ⟨((r.num 4).2.raw (r.num 4).1).1, bad⟩ := fun bad => RdAt.new bad rfl hbx hc1 hc2
    have HINI := Kp.mk hini; clear hini hbx
    have HR2 := Kp.mk hr2
    obtain ⟨AR, cR, k0, k1, f0, f1, _, _, _⟩ := hr2
    have hsz := HT2.out.size
    cases hbad : ((r.num 4).2.raw (r.num 4).1).2.bad with
    | true =>
      rw [hbad] at k1
      have HBD := Kp.mk hbad; clear hbad
      go_wp2_with fail
      go_step3
      simp only [Exit.then]
      refine ‹∀ (a : Act) (w : World), Code.wp _ _ _ a w → _› _ _ (HJ.out _ _ ?_)
      clear HJ
      refine ⟨w2.heap.size, w2.heap.size + 1, .nil, ⟨((r.num 4).2.raw (r.num 4).1).1, ((r.num 4).2.raw (r.num 4).1).2.bad || decide (4 < deep)⟩, none, 0, _, _, _, _, _, _, _, _, _, _, _, _, _, _, _, _, _, _, _, _, _, _, _, _, _, _, _, _, _, _, _, _, _, _, _, _, _, _, _, _, _, _, _, _, _, _, _, _, _, _, _, _, _, _, _, _, _, _, _, _, _, _, _, _, _, ⟨⟨rfl, by simp [L.len], OwnI.nil _ _ _, fun h => by simp at h; omega, ?_, HR2.out.still ((Still.refl _).alloc _), HT2.out.alloc _, by omega, hsz, by simp⟩⟩, rfl⟩
      have h := HINI.out true
      go_light
      rw [HBD.out]
      simpa using h
    | false =>
      rw [hbad] at k1
      have HBD := Kp.mk hbad; clear hbad
      go_wp2_with fail
      go_step3
      simp only [Exit.then]
      refine ‹∀ (a : Act) (w : World), Code.wp _ _ _ a w → _› _ _ (HJ.out _ _ ?_)
      clear HJ
      refine ⟨w2.heap.size, w2.heap.size + 1, .nil, ⟨((r.num 4).2.raw (r.num 4).1).1, ((r.num 4).2.raw (r.num 4).1).2.bad || decide (4 < deep)⟩, none, 0, _, _, _, _, _, _, _, _, _, _, _, _, _, _, _, _, _, _, _, _, _, _, _, _, _, _, _, _, _, _, _, _, _, _, _, _, _, _, _, _, _, _, _, _, _, _, _, _, _, _, _, _, _, _, _, _, _, _, _, _, _, _, _, _, _, ⟨⟨rfl, by simp [L.len], OwnI.nil _ _ _, fun h => by simp at h; omega, ?_, HR2.out.still ((Still.refl _).alloc _), HT2.out.alloc _, by omega, hsz, by simp⟩⟩, rfl⟩
      have h := HINI.out (decide (4 < deep))
      go_light
      rw [HBD.out]
      have e : decide ((4 : Int) < (deep : Int)) = decide (4 < deep) := by rw [Bool.eq_iff_iff]; simp; omega
      rw [e]
      simpa using h

theorem TabRC_all : ∀ (j deep : Nat), deep ≤ 5 → 5 ≤ deep + j → TabRC (j + 1) deep
  | 0, deep, h1, h2 => fun R S r D w hD hr hS hR hSo => by
    subst hD
    exact table_loop 0 deep (fun h => by omega) h1 R S r w hr hS hR hSo
  | j + 1, deep, h1, h2 => fun R S r D w hD hr hS hR hSo => by
    subst hD
    exact table_loop (j + 1) deep (fun _ => TabRC_all j (deep + 1) (by omega) (by omega)) h1 R S r w hr hS hR hSo
end Go.Proofs.Ytaeainkfllfdfaa
