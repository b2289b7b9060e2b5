/- A table that may be comes back from its bytes: the plain reader reads what the plain writer wrote. No program in sight. -/
import Derived.Test.YtaeainkfllfdfaaB11
namespace Go.Proofs.Ytaeainkfllfdfaa
open Go.RowKit
set_option linter.unusedVariables false
set_option linter.unusedSimpArgs false

theorem val_cons (c : UInt8) (bs : List UInt8) : val (c :: bs) = c.toNat * 256 ^ bs.length + val bs := by
  have key : ∀ (l : List UInt8) (n : Nat), l.foldl (fun n c => n * 256 + c.toNat) n = n * 256 ^ l.length + l.foldl (fun n c => n * 256 + c.toNat) 0 := by
    intro l
    induction l with
    | nil => intro n; simp
    | cons d l ih =>
      intro n
      simp only [List.foldl_cons, List.length_cons]
      rw [ih (n * 256 + d.toNat), ih (0 * 256 + d.toNat)]
      rw [Nat.pow_succ, Nat.add_mul, Nat.add_mul, Nat.mul_assoc, Nat.mul_comm 256]
      omega
  unfold val
  rw [List.foldl_cons, key]
  simp
theorem val_be (n : Nat) : ∀ k, val (be n k) = n % 256 ^ k
  | 0 => by simp [be, val, Nat.mod_one]
  | k + 1 => by
    have e : n % 256 ^ (k + 1) = n % 256 ^ k + 256 ^ k * (n / 256 ^ k % 256) := by rw [Nat.pow_succ, Nat.mod_mul]
    rw [be, val_cons, be_length, val_be n k, UInt8.toNat_ofNat', e]
    rw [Nat.add_comm, Nat.mul_comm]
theorem raw_app (xs rest : List UInt8) : Rd.raw ⟨xs ++ rest, false⟩ xs.length = (xs, ⟨rest, false⟩) := by
  unfold Rd.raw
  rw [if_neg (by simp)]
  simp
theorem raw_app' (xs rest : List UInt8) (n : Nat) (h : xs.length = n) : Rd.raw ⟨xs ++ rest, false⟩ n = (xs, ⟨rest, false⟩) := by subst h; exact raw_app xs rest
theorem num_be (n k : Nat) (rest : List UInt8) : Rd.num ⟨be n k ++ rest, false⟩ k = (n % 256 ^ k, ⟨rest, false⟩) := by
  unfold Rd.num
  rw [raw_app' _ _ _ (be_length n k), val_be]
theorem num_one (c : UInt8) (rest : List UInt8) : Rd.num ⟨c :: rest, false⟩ 1 = (c.toNat, ⟨rest, false⟩) := by
  unfold Rd.num
  rw [show c :: rest = [c] ++ rest from rfl, raw_app' [c] rest 1 rfl]
  simp [val]
theorem ba_eta (s : ByteArray) : (⟨s.data.toList.toArray⟩ : ByteArray) = s := by cases s; simp
theorem ba_nil {s : ByteArray} (h : s.size = 0) : s = .empty := ByteArray.ext (Array.eq_empty_of_size_eq_zero h)
theorem letter_kind (k : Int) (h0 : 0 ≤ k) (h5 : k ≤ 5) : kindOf (letter k).toNat = k := by
  have : k = 0 ∨ k = 1 ∨ k = 2 ∨ k = 3 ∨ k = 4 ∨ k = 5 := by omega
  rcases this with rfl | rfl | rfl | rfl | rfl | rfl <;> decide
theorem u64w_mod (n : Int) : ((u64w n : Nat) : Int) = n % 18446744073709551616 := by
  rw [← u64w_eq]
  simp only [IntKind.wrap, IntKind.signed, Bool.false_and]; rfl

theorem value_back {tab : Rd → L × Rd} (k n : Int) (s : ByteArray) (it : L) (sub : Bool) (rest : List UInt8) (hk : kindOk k n s.size it.len sub = true) (hn1 : -9223372036854775808 ≤ n) (hn2 : n ≤ 9223372036854775807)
    (htab : k = 5 → sub = true → tab ⟨it.enc ++ rest, false⟩ = (it, ⟨rest, false⟩)) :
    Rd.value tab ⟨encBody k n s it.enc ++ rest, false⟩ = (⟨.empty, k, n, s, it⟩, ⟨rest, false⟩) := by
  obtain ⟨k0, k5⟩ := kindOk_kind hk
  unfold encBody Rd.value
  rw [List.cons_append, num_one]
  simp only
  rw [letter_kind k k0 k5]
  unfold kindOk at hk
  by_cases hbad : k ≠ 4 ∧ s.size ≠ 0 ∨ k ≠ 5 ∧ 0 < it.len
  · rw [if_pos hbad] at hk; cases hk
  rw [if_neg hbad] at hk
  have hs : k ≠ 4 → s = .empty := fun h => ba_nil (by omega)
  have hit : k ≠ 5 → it = .nil := fun h => L.len_zero (by omega)
  by_cases h1 : k = 1
  · subst h1
    rw [hs (by omega), hit (by omega)]
    simp only [if_true, decide_eq_true_eq] at hk ⊢
    rw [List.singleton_append, num_one]
    rcases hk with rfl | rfl
    · simp only [Prod.mk.injEq, It.mk.injEq, true_and, and_true]; decide +kernel
    · simp only [Prod.mk.injEq, It.mk.injEq, true_and, and_true]; decide +kernel
  by_cases h2 : k = 2
  · subst h2
    rw [hs (by omega), hit (by omega)]
    simp at hk
    simp only [if_true, show (2 : Int) ≠ 1 from by decide, if_false]
    rw [num_be]
    simp only [Prod.mk.injEq, and_true, It.mk.injEq, true_and]
    have hu := u64w_mod n
    unfold wrap32 wrap64
    have e : ((u64w n % 256 ^ 4 : Nat) : Int) = ((u64w n : Nat) : Int) % 4294967296 := by rw [Int.natCast_emod]; rfl
    rw [e, hu]
    omega
  by_cases h3 : k = 3
  · subst h3
    rw [hs (by omega), hit (by omega)]
    simp only [if_true, show (3 : Int) ≠ 1 from by decide, show (3 : Int) ≠ 2 from by decide, if_false]
    rw [num_be]
    simp only [Prod.mk.injEq, and_true, It.mk.injEq, true_and]
    have hu := u64w_mod n
    unfold wrap64
    have e : ((u64w n % 256 ^ 8 : Nat) : Int) = ((u64w n : Nat) : Int) % 18446744073709551616 := by rw [Int.natCast_emod]; rfl
    rw [e, hu]
    omega
  by_cases h4 : k = 4
  · subst h4
    rw [hit (by omega)]
    simp at hk
    obtain ⟨rfl, hsz⟩ := hk
    simp only [if_true, show (4 : Int) ≠ 1 from by decide, show (4 : Int) ≠ 2 from by decide, show (4 : Int) ≠ 3 from by decide, if_false]
    rw [List.append_assoc, num_be]
    simp only
    rw [raw_app' _ _ _ (by rw [Array.length_toList, Nat.mod_eq_of_lt (by omega)]; rfl)]
  by_cases h5 : k = 5
  · subst h5
    rw [hs (by omega)]
    simp at hk
    obtain ⟨rfl, rfl⟩ := hk
    simp only [if_true, show (5 : Int) ≠ 1 from by decide, show (5 : Int) ≠ 2 from by decide, show (5 : Int) ≠ 3 from by decide, show (5 : Int) ≠ 4 from by decide, if_false]
    rw [htab rfl rfl]
  · have h0 : k = 0 := by omega
    subst h0
    rw [hs (by omega), hit (by omega)]
    simp at hk
    subst hk
    rfl

theorem item_back {tab : Rd → L × Rd} (d : Nat) (seen : List ByteArray) (x : It) (hO : x.Ok) (h : x.ok d seen = true) (rest : List UInt8) (htab : x.it.mayTab (d + 1) = true → x.k = 5 → tab ⟨x.it.enc ++ rest, false⟩ = (x.it, ⟨rest, false⟩)) :
    Rd.item tab ⟨x.enc ++ rest, false⟩ = (x, ⟨rest, false⟩) := by
  unfold It.ok It.may at h
  simp only [Bool.and_eq_true, decide_eq_true_eq] at h
  obtain ⟨⟨⟨h1, h2⟩, _⟩, h3⟩ := h
  unfold Rd.item It.enc
  rw [List.cons_append, List.cons_append, num_one]
  simp only
  rw [List.append_assoc, raw_app' _ _ _ (by rw [Array.length_toList, UInt8.toNat_ofNat', Nat.mod_eq_of_lt (by omega)]; rfl)]
  simp only
  unfold It.encV
  rw [value_back x.k x.n x.s x.it (x.it.mayTab (d + 1)) rest h3 hO.1.2.2.2.2.2.1 hO.1.2.2.2.2.2.2 (fun a b => htab b a)]

theorem items_back {tab : Rd → L × Rd} (d : Nat) : ∀ (l : L) (seen : List ByteArray) (f : Nat) (acc : L), l.Ok → l.mayIts d seen = true → l.len ≤ f → acc.len + l.len ≤ 32 →
    (∀ i, i < l.len → (l.get i).it.mayTab (d + 1) = true → (l.get i).k = 5 → ∀ rest, tab ⟨(l.get i).it.enc ++ rest, false⟩ = ((l.get i).it, ⟨rest, false⟩)) →
    Rd.items tab f acc ⟨l.encI, false⟩ = (acc.app l, ⟨[], false⟩)
  | .nil, _, f, acc, _, _, _, _, _ => by
    rw [L.app_nil]
    exact Rd.items_stop (fun h => h.2.1 rfl)
  | .cons nm k n s it rest, seen, f, acc, hO, hm, hf, hl, ht => by
    obtain ⟨f, rfl⟩ : ∃ g, f = g + 1 := ⟨f - 1, by simp only [L.len] at hf; omega⟩
    simp only [L.mayIts, Bool.and_eq_true] at hm
    have hx : (⟨nm, k, n, s, it⟩ : It).ok d seen = true := by
      unfold It.ok It.may L.mayTab
      simp only [Bool.and_eq_true]
      exact hm.1
    have e1 : (L.cons nm k n s it rest).encI = (⟨nm, k, n, s, it⟩ : It).enc ++ rest.encI := by simp only [L.encI, It.enc, It.encV, L.enc]
    have hi := item_back (tab := tab) d seen ⟨nm, k, n, s, it⟩ ⟨hO.1, hO.2.1⟩ hx rest.encI (fun a b => ht 0 (by simp only [L.len]; omega) a b rest.encI)
    rw [Rd.items, if_pos ⟨rfl, by rw [e1]; simp [It.enc], by simp only [L.len] at hl; omega⟩]
    rw [e1, hi]
    have hr := items_back (tab := tab) d rest (nm :: seen) f (acc.app (L.one ⟨nm, k, n, s, it⟩)) hO.2.2 hm.2 (by simp only [L.len] at hf; omega) (by rw [L.len_app, L.len_one]; simp only [L.len] at hl; omega)
      (fun i hi a b r => ht (i + 1) (by simp only [L.len]; omega) a b r)
    simp only
    rw [hr, L.app_assoc]
    rfl

theorem table_back : ∀ (j : Nat) (d : Nat) (l : L) (rest : List UInt8), 5 ≤ d + j → l.Ok → l.mayTab d = true → l.encI.length < 4294967296 → Rd.table j d ⟨l.enc ++ rest, false⟩ = (l, ⟨rest, false⟩)
  | 0, d, l, rest, hj, hO, hm, hb => by
    simp only [L.mayTab, Bool.and_eq_true, decide_eq_true_eq] at hm
    omega
  | j + 1, d, l, rest, hj, hO, hm, hb => by
    have hm0 := hm
    simp only [L.mayTab, Bool.and_eq_true, decide_eq_true_eq] at hm
    unfold Rd.table L.enc
    rw [List.append_assoc, num_be]
    simp only
    rw [raw_app' _ _ _ (by rw [Nat.mod_eq_of_lt (by omega)])]
    simp only [show decide (4 < d) = false from decide_eq_false (by omega), Bool.or_false]
    rw [items_back d l [] 33 .nil hO hm.2 (by omega) (by simp only [L.len]; omega) (fun i hi a b r => table_back j (d + 1) (l.get i).it r (by omega) (hO.get i hi).2 a ?_)]
    · rfl
    · have h1 := L.encI_le l (i + 1)
      rw [L.encI_succ l i hi, List.length_append] at h1
      have h2 := It.enc_length (l.get i)
      have h3 : (l.get i).it.encI.length ≤ (l.get i).encV.length := by
        unfold It.encV encBody
        rw [b]
        simp [L.enc]
        omega
      omega

theorem get_put {l : L} (hO : l.Ok) (hm : l.mayTab 1 = true) (hb : l.enc.length ≤ 3000) : getL l.enc = l ∧ getE l.enc = 0 := by
  have h1 := table_back 5 1 l [] (by omega) hO hm (by have : l.encI.length ≤ l.enc.length := by simp [L.enc]
                                                      omega)
  rw [List.append_nil] at h1
  have h2 : getR l.enc = (l, ⟨[], false⟩) := h1
  have h3 : getOk l.enc = true := by
    unfold getOk
    rw [h2]
    simp [L.putE, L.putB, hm, show ¬ 3000 < l.enc.length by omega]
  unfold getL getE
  rw [h3, h2]
  exact ⟨rfl, rfl⟩
end Go.Proofs.Ytaeainkfllfdfaa
