/- Plain laws of calls: the round trip, and what is cut off, longer or turned. No program in sight. -/
import Derived.Test.YtaeainkfllfdfaaA10
namespace Go.Proofs.Ytaeainkfllfdfaa
open Go.RowKit
set_option linter.unusedVariables false
set_option linter.unusedSimpArgs false

/-- What a call that is put bears. -/
structure M.Good (m : M) : Prop where
  ok : m.Ok
  may : m.mayB = true
  pe : m.putE = 0
  ne : partsL m.id ≠ [45]
  lo : 2010 ≤ m.id
  hi : m.id ≤ 9031
  let_ : ∀ c ∈ partsL m.id, c ∈ lettersL
  rt : ∀ c ∈ lettersL, m.rightB c = true
  em : ∀ c ∈ lettersL, c ∉ partsL m.id → m.emptyB c = true
  ar : 97 ∈ partsL m.id → m.ar.enc.length ≤ 3000
  la : partsL m.id = [110, 101, 107, 97] ∨ 97 ∉ partsL m.id
theorem M.good {m : M} (hO : m.Ok) (hp : m.putE = 0) : m.Good := by
  have hm : m.mayB = true := by
    cases h : m.mayB with
    | true => rfl
    | false => simp [M.putE, h] at hp
  obtain ⟨h1, h2⟩ := (M.mayB_iff m).1 hm
  obtain ⟨g1, g2, g3, g4, g5, g6, _⟩ := parts_a m.id h1
  refine ⟨hO, hm, hp, h1, g5, g6, g1, fun c hc => ?_, fun c hc hn => ?_, fun h => ?_, ?_⟩
  · have := h2 c hc
    simp only [M.okAt, Bool.and_eq_true] at this
    exact this.2
  · have := h2 c hc
    simp only [M.okAt, Bool.and_eq_true, Bool.or_eq_true] at this
    exact this.1.resolve_left (by simpa using hn)
  · exact encP_le m hm hp 97 h
  · cases ha : hasA m.id with
    | true => exact .inl (g3 ha)
    | false => exact .inr (g4 ha)
theorem M.Good.putB {m : M} (h : m.Good) : m.putB = m.enc := by simp [M.putB, h.pe]

theorem partsR_app : ∀ (a b : List UInt8) (m : M) (r : Rd), Rd.partsR (a ++ b) m r = Rd.partsR b (Rd.partsR a m r).1 (Rd.partsR a m r).2
  | [], b, m, r => rfl
  | c :: a, b, m, r => partsR_app a b _ _
/-- Parts that are no arguments. -/
theorem partsR_back {m : M} (h : m.Good) : ∀ (qs : List UInt8) (p : UInt8 → Bool) (mk : M) (rest : List UInt8), (∀ c ∈ qs, c ∈ lettersL ∧ c ≠ 97) →
    Rd.partsR qs (m.mix mk p) ⟨m.encPs qs ++ rest, false⟩ = (m.mix mk (fun x => p x || qs.contains x), ⟨rest, false⟩)
  | [], p, mk, rest, _ => by simp [Rd.partsR, M.encPs]
  | c :: qs, p, mk, rest, hq => by
    obtain ⟨hc, h97⟩ := hq c (by simp)
    unfold Rd.partsR
    rw [M.encPs, List.append_assoc, part_back h.ok hc (h.rt c hc) (fun e => absurd e h97) _ (fun e => absurd e h97), M.setP_mix m mk p hc]
    rw [partsR_back h qs _ mk rest (fun c hc => hq c (by simp [hc]))]
    congr 2
    funext x
    simp only [List.contains_cons, Bool.or_assoc]
theorem M.eq_parts (a b : M) : a = b ↔ a.id = b.id ∧ a.nm = b.nm ∧ a.ty = b.ty ∧ a.ex = b.ex ∧ a.ky = b.ky ∧ a.tx = b.tx ∧ a.co = b.co ∧ a.cn = b.cn ∧ a.tg = b.tg ∧ a.fl = b.fl ∧ a.bk = b.bk ∧ a.ar = b.ar := by
  cases a; cases b; simp only [M.mk.injEq]
theorem bytes_zero {s : ByteArray} (h : s.size = 0) : s = .empty := ba_nil h
/-- All parts taken over, the others empty: the call. -/
theorem mix_all {m : M} (h : m.Good) : m.mix { M.zero with id := m.id } (fun x => (partsL m.id).contains x) = m := by
  have em := h.em
  have key : ∀ c ∈ lettersL, (partsL m.id).contains c = false → m.emptyB c = true := fun c hc hn => em c hc (by simpa using hn)
  have k1 := key 110 (by decide); have k2 := key 121 (by decide); have k3 := key 101 (by decide); have k4 := key 107 (by decide); have k5 := key 120 (by decide)
  have k6 := key 99 (by decide); have k7 := key 117 (by decide); have k8 := key 116 (by decide); have k9 := key 102 (by decide); have k10 := key 98 (by decide); have k11 := key 97 (by decide)
  simp [M.emptyB, M.txt] at k1 k2 k3 k4 k5 k6 k7 k8 k9 k10 k11
  unfold M.mix M.zero
  rw [M.eq_parts]
  simp only
  refine ⟨trivial, ?_, ?_, ?_, ?_, ?_, ?_, ?_, ?_, ?_, ?_, ?_⟩
  all_goals (simp only [List.contains_eq_mem, decide_eq_true_eq]; split)
  all_goals first | rfl | skip
  · exact (k1 ‹_›).symm
  · exact (k2 ‹_›).symm
  · exact (k3 ‹_›).symm
  · exact (k4 ‹_›).symm
  · exact (k5 ‹_›).symm
  · exact (k6 ‹_›).symm
  · exact (k7 ‹_›).symm
  · exact (k8 ‹_›).symm
  · exact (k9 ‹_›).symm
  · exact (k10 ‹_›).symm
  · exact (L.len_zero (k11 ‹_›)).symm

theorem M.enc_eq (m : M) : m.enc = be (u64w (m.id.tdiv 100)) 2 ++ (be (u64w (m.id.tmod 100)) 2 ++ m.encPs (partsL m.id)) := by unfold M.enc; rw [List.append_assoc]
theorem M.Good.head {m : M} (h : m.Good) : mgC m.enc = (m.id / 100).toNat ∧ mgI m.enc = (m.id % 100).toNat ∧ mgR m.enc = ⟨m.encPs (partsL m.id), false⟩ ∧ mgId m.enc = m.id := by
  have h1 := h.lo; have h2 := h.hi
  obtain ⟨e1, e2⟩ := id_bytes h1 h2
  have hc : Rd.num ⟨m.enc, false⟩ 2 = ((m.id / 100).toNat, ⟨be (u64w (m.id.tmod 100)) 2 ++ m.encPs (partsL m.id), false⟩) := by
    rw [M.enc_eq, num_be, e1, Nat.mod_eq_of_lt (by omega)]
  have hi : Rd.num ⟨be (u64w (m.id.tmod 100)) 2 ++ m.encPs (partsL m.id), false⟩ 2 = ((m.id % 100).toNat, ⟨m.encPs (partsL m.id), false⟩) := by
    rw [num_be, e2, Nat.mod_eq_of_lt (by omega)]
  have c1 : mgC m.enc = (m.id / 100).toNat := by unfold mgC; rw [hc]
  have c2 : mgI m.enc = (m.id % 100).toNat := by unfold mgI; rw [hc, hi]
  refine ⟨c1, c2, by unfold mgR; rw [hc, hi], ?_⟩
  unfold mgId
  rw [c1, c2]
  omega
theorem M.Good.back {m : M} (h : m.Good) : mgX m.enc = (m, ⟨[], false⟩) := by
  obtain ⟨_, _, h3, h4⟩ := h.head
  unfold mgX
  rw [h4, h3]
  have hz : ({ M.zero with id := m.id } : M) = m.mix { M.zero with id := m.id } (fun _ => false) := rfl
  rw [hz]
  rcases h.la with hp | hn
  · have e1 := partsR_back h [110, 101, 107] (fun _ => false) { M.zero with id := m.id } (m.encPs [97]) (by decide)
    have e2 : m.encPs (partsL m.id) = m.encPs [110, 101, 107] ++ m.encPs [97] := by rw [hp, ← M.encPs_app]; rfl
    have e3 : partsL m.id = [110, 101, 107] ++ [97] := hp
    rw [e2]
    conv => lhs; rw [e3]
    rw [partsR_app, e1]
    have e4 := part_back (mk := m.mix { M.zero with id := m.id } (fun x => (fun _ => false) x || [110, 101, 107].contains x)) h.ok (c := 97) (by decide) (h.rt 97 (by decide)) (fun _ => h.ar (by rw [hp]; decide)) [] (fun _ => rfl)
    rw [show m.encPs [97] = m.encP 97 ++ [] from rfl]
    unfold Rd.partsR
    rw [e4, M.setP_mix m _ _ (by decide)]
    unfold Rd.partsR
    have e5 := mix_all h
    rw [hp] at e5
    refine Prod.ext ?_ rfl
    simp only
    conv => rhs; rw [← e5]
    congr 1
    funext x
    simp only [List.contains_cons, List.contains_nil, Bool.false_or, Bool.or_false, Bool.or_assoc]
  · have e1 := partsR_back h (partsL m.id) (fun _ => false) { M.zero with id := m.id } [] (fun c hc => ⟨h.let_ c hc, fun e => hn (e ▸ hc)⟩)
    rw [List.append_nil] at e1
    rw [e1]
    refine Prod.ext ?_ rfl
    simp only [Bool.false_or]
    exact mix_all h
theorem M.Good.get {m : M} (h : m.Good) : mgE m.enc = 0 ∧ mgM m.enc = m := by
  obtain ⟨h1, h2, h3, h4⟩ := h.head
  have hk : mgOk m.enc = true := by
    unfold mgOk
    rw [h.back]
    simp [h.pe, h.putB]
  have he : mgE m.enc = 0 := by
    unfold mgE
    rw [h3, h4, h2, hk]
    have hne := h.ne
    rw [if_neg (by simp), if_neg (by rintro (h9 | h9); omega; exact hne h9), if_pos rfl]
  exact ⟨he, by unfold mgM; rw [he, h.back]; rfl⟩
theorem mg_good {b : List UInt8} (hb : b.length ≤ 140737488351232) (h : mgE b = 0) : (mgM b).Good ∧ (mgM b).enc = b ∧ mgId b = (mgM b).id := by
  have hm : mgM b = (mgX b).1 := by unfold mgM; rw [if_pos h]
  have hk : mgOk b = true := by
    unfold mgE at h
    split at h
    · cases h
    split at h
    · cases h
    split at h
    · assumption
    · cases h
  unfold mgOk at hk
  simp only [Bool.and_eq_true, decide_eq_true_eq] at hk
  have hg : (mgM b).Good := by rw [hm]; exact M.good (mgX_ok b hb) hk.2.1
  have he : (mgM b).enc = b := by rw [← hg.putB, hm]; exact hk.2.2
  refine ⟨hg, he, ?_⟩
  have := hg.head.2.2.2
  rw [he] at this
  exact this

/-! ### cut off, longer -/
theorem be_inj {a b : Nat} (k : Nat) (ha : a < 256 ^ k) (hb : b < 256 ^ k) (h : be a k = be b k) : a = b := by
  have := congrArg val h
  rwa [val_be, val_be, Nat.mod_eq_of_lt ha, Nat.mod_eq_of_lt hb] at this
/-- A part's bytes tell where they end. -/
theorem encP_free {m k : M} {c : UInt8} (hc : c ∈ lettersL) (hm : m.rightB c = true) (hk : k.rightB c = true) (am : c = 97 → m.ar.enc.length ≤ 3000) (ak : c = 97 → k.ar.enc.length ≤ 3000) {X Y : List UInt8}
    (h : m.encP c ++ X = k.encP c ++ Y) : X = Y := by
  have key : (m.encP c).length = (k.encP c).length := by
    rcases letters_five hc with rfl | rfl | rfl | rfl | rfl | rfl | rfl | rfl | rfl | rfl | rfl
    · simp [M.encP, be_length]
    · simp [M.encP, be_length]
    · simp [M.encP, be_length]
    · simp [M.encP]
    · simp [M.encP]
    · have e1 : m.encP 97 = be m.ar.encI.length 4 ++ m.ar.encI := rfl
      have e2 : k.encP 97 = be k.ar.encI.length 4 ++ k.ar.encI := rfl
      have l1 : m.ar.enc.length = 4 + m.ar.encI.length := by simp [L.enc, be_length]
      have l2 : k.ar.enc.length = 4 + k.ar.encI.length := by simp [L.enc, be_length]
      have a1 := am rfl; have a2 := ak rfl
      rw [e1, e2, List.append_assoc, List.append_assoc] at h
      have h2 := (List.append_inj h (by rw [be_length, be_length])).1
      have h3 := be_inj 4 (by omega) (by omega) h2
      rw [e1, e2, List.length_append, List.length_append, be_length, be_length, h3]
    all_goals
      simp [M.rightB, M.txt] at hm hk
      simp [M.encP, M.txt] at h ⊢
      have h1 := congrArg UInt8.toNat h.1
      rw [UInt8.toNat_ofNat', UInt8.toNat_ofNat', Nat.mod_eq_of_lt (by omega), Nat.mod_eq_of_lt (by omega)] at h1
      exact h1
  exact (List.append_inj h key).2
theorem encPs_free {m k : M} (hm : m.Good) (hk : k.Good) : ∀ (qs : List UInt8), (∀ c ∈ qs, c ∈ partsL m.id ∧ c ∈ partsL k.id) → ∀ {X Y : List UInt8}, m.encPs qs ++ X = k.encPs qs ++ Y → X = Y
  | [], _, X, Y, h => h
  | c :: qs, hq, X, Y, h => by
    obtain ⟨h1, h2⟩ := hq c (by simp)
    have hl := hm.let_ c h1
    rw [M.encPs, M.encPs, List.append_assoc, List.append_assoc] at h
    exact encPs_free hm hk qs (fun c hc => hq c (by simp [hc])) (encP_free hl (hm.rt c hl) (hk.rt c hl) (fun e => hm.ar (e ▸ h1)) (fun e => hk.ar (e ▸ h2)) h)
/-- Of two calls of one number none's bytes are the other's, cut off. -/
theorem enc_free {m k : M} (hm : m.Good) (hk : k.Good) (hid : m.id = k.id) {X Y : List UInt8} (h : m.enc ++ X = k.enc ++ Y) : X = Y := by
  rw [M.enc_eq, M.enc_eq, hid] at h
  simp only [List.append_assoc] at h
  have h2 := (List.append_inj (List.append_inj h rfl).2 rfl).2
  exact encPs_free hm hk (partsL k.id) (fun c hc => ⟨by rw [hid]; exact hc, hc⟩) h2

theorem num_short {bs : List UInt8} {k : Nat} (h : bs.length < k) : (Rd.num ⟨bs, false⟩ k).2.bad = true := by
  unfold Rd.num Rd.raw
  rw [if_pos (.inr h)]
theorem num_bad (bs : List UInt8) (k : Nat) : (Rd.num ⟨bs, true⟩ k).2.bad = true := by
  unfold Rd.num Rd.raw
  rw [if_pos (.inl rfl)]
theorem num_long {bs : List UInt8} {k : Nat} (h : k ≤ bs.length) : Rd.num ⟨bs, false⟩ k = (val (bs.take k), ⟨bs.drop k, false⟩) := by
  unfold Rd.num Rd.raw
  rw [if_neg (by simp; omega)]
theorem mg_short {b : List UInt8} (h : b.length < 4) : mgE b = 502 := by
  have hb : (mgR b).bad = true := by
    unfold mgR
    by_cases h2 : b.length < 2
    · have := num_short (k := 2) h2
      generalize Rd.num ⟨b, false⟩ 2 = q at *
      obtain ⟨x, y, z⟩ := q
      simp only at this
      subst this
      exact num_bad y 2
    · rw [num_long (by omega)]
      exact num_short (by rw [List.length_drop]; omega)
  unfold mgE
  rw [hb]; rfl
theorem mg_long {b : List UInt8} (h : 4 ≤ b.length) : mgC b = val (b.take 2) ∧ mgI b = val ((b.drop 2).take 2) ∧ mgR b = ⟨b.drop 4, false⟩ := by
  have h1 : Rd.num ⟨b, false⟩ 2 = (val (b.take 2), ⟨b.drop 2, false⟩) := num_long (by omega)
  have h2 : Rd.num ⟨b.drop 2, false⟩ 2 = (val ((b.drop 2).take 2), ⟨(b.drop 2).drop 2, false⟩) := num_long (by rw [List.length_drop]; omega)
  unfold mgC mgI mgR
  rw [h1, h2]
  simp
/-- With the same first four bytes the number is the same. -/
theorem mg_same {b b' : List UInt8} (h : 4 ≤ b.length) (h' : 4 ≤ b'.length) (he : b'.take 4 = b.take 4) : mgC b' = mgC b ∧ mgI b' = mgI b ∧ mgId b' = mgId b ∧ (mgR b').bad = false := by
  obtain ⟨a1, a2, a3⟩ := mg_long h
  obtain ⟨c1, c2, c3⟩ := mg_long h'
  have e1 : b'.take 2 = b.take 2 := by have := congrArg (List.take 2) he; simpa [List.take_take] using this
  have e2 : (b'.drop 2).take 2 = (b.drop 2).take 2 := by
    have := congrArg (List.drop 2) he
    simpa [List.drop_take] using this
  have r1 : mgC b' = mgC b := by rw [c1, a1, e1]
  have r2 : mgI b' = mgI b := by rw [c2, a2, e2]
  exact ⟨r1, r2, by unfold mgId; rw [r1, r2], by rw [c3]⟩
theorem mg_not503 {m : M} (h : m.Good) {b' : List UInt8} (h' : 4 ≤ b'.length) (he : b'.take 4 = m.enc.take 4) : mgE b' = 0 ∨ mgE b' = 502 := by
  have hl : 4 ≤ m.enc.length := by rw [M.enc_eq]; simp [be_length]; omega
  obtain ⟨r1, r2, r3, r4⟩ := mg_same hl h' he
  obtain ⟨h1, h2, h3, h4⟩ := h.head
  have hne := h.ne
  unfold mgE
  rw [r4, r3, r2, h4, h2, if_neg (by simp), if_neg (by rintro (h9 | h9); omega; exact hne h9)]
  split
  · exact .inl rfl
  · exact .inr rfl
theorem enc_len {m : M} : 4 ≤ m.enc.length := by rw [M.enc_eq]; simp [be_length]; omega
theorem mg_cut {m : M} (h : m.Good) {b' X Y : List UInt8} (hl : b'.length ≤ 140737488351232) (h4 : 4 ≤ b'.length) (he : b'.take 4 = m.enc.take 4) (hx : b' ++ X = m.enc ++ Y) (hne : X ≠ Y) : mgE b' = 502 := by
  rcases mg_not503 h h4 he with h0 | h0
  · obtain ⟨g1, g2, g3⟩ := mg_good hl h0
    obtain ⟨r1, r2, r3, r4⟩ := mg_same enc_len h4 he
    have hid : (mgM b').id = m.id := by rw [← g3, r3]; exact h.head.2.2.2
    rw [← g2] at hx
    exact absurd (enc_free g1 h hid hx) hne
  · exact h0
theorem mg_take {m : M} (h : m.Good) (hl : m.enc.length ≤ 140737488351232) {k : Nat} (hk : k < m.enc.length) : mgE (m.enc.take k) = 502 := by
  by_cases h4 : 4 ≤ k
  · refine mg_cut h (X := m.enc.drop k) (Y := []) (by rw [List.length_take]; omega) (by rw [List.length_take]; omega) (by rw [List.take_take, Nat.min_eq_left h4]) (by simp) ?_
    intro e
    have := congrArg List.length e
    simp at this
    omega
  · exact mg_short (by rw [List.length_take]; omega)
theorem mg_more {m : M} (h : m.Good) (hl : m.enc.length ≤ 140737488351231) (c : UInt8) : mgE (m.enc ++ [c]) = 502 :=
  mg_cut h (X := []) (Y := [c]) (by simp; omega) (by have := @enc_len m; simp; omega) (by rw [List.take_append_of_le_length enc_len]) (by simp) (by simp)
theorem mg_turn_yes {m : M} (h : m.Good) {k : Nat} (c : UInt8) (hk : k < m.enc.length) (hl : m.enc.length ≤ 140737488351232) (h0 : mgE (turn m.enc k c) = 0) : (mgM (turn m.enc k c) = m ↔ c = 0) ∧ (mgM (turn m.enc k c)).putE = 0 ∧ (mgM (turn m.enc k c)).putB = turn m.enc k c := by
  obtain ⟨g1, g2, g3⟩ := mg_good (by rw [turn_length]; exact hl) h0
  refine ⟨⟨fun e => ?_, fun e => ?_⟩, g1.pe, by rw [g1.putB]; exact g2⟩
  · rw [e] at g2
    exact (turn_eq c hk).1 g2.symm
  · rw [(turn_eq c hk).2 e]
    exact h.get.2
theorem mg_turn_no {m : M} (h : m.Good) {k : Nat} (c : UInt8) (hk : k < m.enc.length) (h0 : mgE (turn m.enc k c) ≠ 0) : c ≠ 0 ∧ (mgE (turn m.enc k c) = 502 ∨ (mgE (turn m.enc k c) = 503 ∧ k < 4)) := by
  refine ⟨fun e => h0 ?_, ?_⟩
  · rw [(turn_eq c hk).2 e]; exact h.get.1
  · by_cases h4 : k < 4
    · unfold mgE at h0 ⊢
      split
      · exact .inl rfl
      rename_i hb
      rw [if_neg hb] at h0
      split
      · exact .inr ⟨rfl, h4⟩
      rename_i hp
      rw [if_neg hp] at h0
      split
      · rename_i hk; rw [if_pos hk] at h0; exact absurd rfl h0
      · exact .inl rfl
    · left
      rcases mg_not503 h (b' := turn m.enc k c) (by rw [turn_length]; exact enc_len) (by unfold turn; rw [List.take_set_of_le (by omega)]) with h1 | h1
      · exact absurd h1 h0
      · exact h1
end Go.Proofs.Ytaeainkfllfdfaa
