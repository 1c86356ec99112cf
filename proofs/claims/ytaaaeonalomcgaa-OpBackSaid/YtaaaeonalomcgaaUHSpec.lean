/- Plain laws on numbers and texts laid as bytes: what is written is read again, and what is read was written. No program. -/
import Init
namespace Go.Proofs.Ytaaaeonalomcgaa.Sp
def tm : Nat → List UInt8 → Option Nat
  | 0, _ => none
  | _, [] => none
  | n + 1, c :: r => if c < 128 then some 1 else (tm n r).map (· + 1)
def vl : List UInt8 → Nat
  | [] => 0
  | c :: r => c.toNat % 128 + 128 * vl r
def gn (b : List UInt8) : Option (Nat × List UInt8) :=
  match tm 9 b with
  | none => none
  | some m => if 1 < m ∧ b.getD (m - 1) 0 = 0 then none else some (vl (b.take m), b.drop m)
def pn (x : Nat) : List UInt8 := if x < 128 then [UInt8.ofNat x] else UInt8.ofNat (x % 128 + 128) :: pn (x / 128)
  termination_by x
  decreasing_by omega
theorem pn_small {x : Nat} (h : x < 128) : pn x = [UInt8.ofNat x] := by rw [pn, if_pos h]
theorem pn_big {x : Nat} (h : ¬ x < 128) : pn x = UInt8.ofNat (x % 128 + 128) :: pn (x / 128) := by rw [pn, if_neg h]
theorem u8_ofNat_toNat {n : Nat} (h : n < 256) : (UInt8.ofNat n).toNat = n := by simp; omega
theorem u8_lt128 (c : UInt8) : c < 128 ↔ c.toNat < 128 := by rw [UInt8.lt_iff_toNat_lt]; rfl
theorem pn_ne_nil (x : Nat) : pn x ≠ [] := by
  by_cases h : x < 128
  · rw [pn_small h]; simp
  · rw [pn_big h]; simp
theorem pn_len_pos (x : Nat) : 0 < (pn x).length := List.length_pos_iff.2 (pn_ne_nil x)
theorem tm_len : ∀ (n : Nat) (b : List UInt8) (m : Nat), tm n b = some m → 1 ≤ m ∧ m ≤ n ∧ m ≤ b.length
  | 0, _, _, h => by simp [tm] at h
  | n + 1, [], _, h => by simp [tm] at h
  | n + 1, c :: r, m, h => by
    unfold tm at h
    split at h
    · simp at h; subst h; simp
    · rw [Option.map_eq_some_iff] at h
      obtain ⟨k, hk, rfl⟩ := h
      have := tm_len n r k hk
      simp; omega
theorem vl_pn (x : Nat) : vl (pn x) = x := by
  induction x using Nat.strongRecOn with
  | _ x ih =>
    by_cases h : x < 128
    · rw [pn_small h]; simp [vl]; omega
    · rw [pn_big h]; simp only [vl]
      rw [ih (x / 128) (by omega), u8_ofNat_toNat (by omega)]; omega
theorem tm_pn (x : Nat) (r : List UInt8) : ∀ (n : Nat), x < 128 ^ (n + 1) → tm (n + 1) (pn x ++ r) = some (pn x).length := by
  induction x using Nat.strongRecOn with
  | _ x ih =>
    intro n hn
    by_cases h : x < 128
    · rw [pn_small h]; simp only [List.cons_append, List.nil_append, tm, List.length_singleton]
      rw [if_pos ((u8_lt128 _).2 (by rw [u8_ofNat_toNat (by omega)]; omega))]
    · rw [pn_big h]; simp only [List.cons_append, tm, List.length_cons]
      rw [if_neg (fun hc => by have := (u8_lt128 _).1 hc; rw [u8_ofNat_toNat (by omega)] at this; omega)]
      cases n with
      | zero => simp at hn; omega
      | succ n => rw [ih (x / 128) (by omega) n (by rw [Nat.pow_succ] at hn; omega)]; rfl
theorem tm_pn9 (x : Nat) (hx : x < 9223372036854775808) (r : List UInt8) : tm 9 (pn x ++ r) = some (pn x).length := tm_pn x r 8 (by omega)
theorem last_pn (x : Nat) : x < 128 ∨ (pn x).getD ((pn x).length - 1) 0 ≠ 0 := by
  induction x using Nat.strongRecOn with
  | _ x ih =>
    by_cases h : x < 128
    · exact .inl h
    · right
      rw [pn_big h, List.length_cons, Nat.add_sub_cancel]
      have hp := pn_len_pos (x / 128)
      have e : (UInt8.ofNat (x % 128 + 128) :: pn (x / 128)).getD (pn (x / 128)).length 0 = (pn (x / 128)).getD ((pn (x / 128)).length - 1) 0 := by
        obtain ⟨k, hk⟩ : ∃ k, (pn (x / 128)).length = k + 1 := ⟨(pn (x / 128)).length - 1, by omega⟩
        rw [hk]; simp
      rw [e]
      rcases ih (x / 128) (by omega) with h2 | h2
      · rw [pn_small h2]; simp
        intro he
        have := congrArg UInt8.toNat he
        rw [u8_ofNat_toNat (by omega)] at this
        simp at this; omega
      · exact h2
theorem gn_pn (x : Nat) (hx : x < 9223372036854775808) (r : List UInt8) : gn (pn x ++ r) = some (x, r) := by
  unfold gn
  rw [tm_pn9 x hx r]
  simp only
  rw [if_neg]
  · simp [vl_pn]
  · rintro ⟨h1, h2⟩
    rcases last_pn x with h | h
    · rw [pn_small h] at h1; simp at h1
    · apply h
      simp only [List.getD_eq_getElem?_getD] at h2 ⊢
      rw [List.getElem?_append_left (by omega)] at h2
      exact h2
theorem vl_lt : ∀ (b : List UInt8), vl b < 128 ^ b.length
  | [] => by simp [vl]
  | c :: r => by
    have := vl_lt r
    simp only [vl, List.length_cons, Nat.pow_succ]
    omega
theorem pn_vl : ∀ (n : Nat) (b : List UInt8) (m : Nat), tm n b = some m → (m = 1 ∨ b.getD (m - 1) 0 ≠ 0) → pn (vl (b.take m)) = b.take m
  | 0, _, _, h, _ => by simp [tm] at h
  | n + 1, [], _, h, _ => by simp [tm] at h
  | n + 1, c :: r, m, h, hl => by
    unfold tm at h
    split at h
    · rename_i hc
      simp at h; subst h
      have hc' := (u8_lt128 c).1 hc
      simp only [List.take_succ_cons, List.take_zero, vl]
      rw [show c.toNat % 128 + 128 * 0 = c.toNat from by omega, pn_small hc']; simp
    · rename_i hc
      rw [Option.map_eq_some_iff] at h
      obtain ⟨k, hk, rfl⟩ := h
      have hb := tm_len n r k hk
      have hc' : ¬ c.toNat < 128 := fun h => hc ((u8_lt128 c).2 h)
      have hlt := c.toNat_lt
      have hl2 : r.getD (k - 1) 0 ≠ 0 := by
        rcases hl with hl | hl
        · omega
        · obtain ⟨j, rfl⟩ : ∃ j, k = j + 1 := ⟨k - 1, by omega⟩
          simpa using hl
      have ih := pn_vl n r k hk (.inr hl2)
      have hpos : 0 < vl (r.take k) := by
        rcases Nat.eq_zero_or_pos (vl (r.take k)) with h0 | h0
        · exfalso
          rw [h0, pn_small (by omega)] at ih
          have hk1 : k = 1 := by
            have := congrArg List.length ih
            simp at this; omega
          subst hk1
          cases r with
          | nil => simp at hb
          | cons d r => simp at ih; exact hl2 (by simp [← ih])
        · exact h0
      simp only [List.take_succ_cons, vl]
      rw [pn_big (by omega), show (c.toNat % 128 + 128 * vl (r.take k)) / 128 = vl (r.take k) from by omega, ih,
        show (c.toNat % 128 + 128 * vl (r.take k)) % 128 + 128 = c.toNat from by omega]
      simp
theorem gn_some {b : List UInt8} {x : Nat} {r : List UInt8} (h : gn b = some (x, r)) : b = pn x ++ r ∧ x < 9223372036854775808 := by
  unfold gn at h
  cases hm : tm 9 b with
  | none => rw [hm] at h; simp at h
  | some m =>
    rw [hm] at h
    simp only at h
    split at h
    · simp at h
    · rename_i hn
      simp at h
      obtain ⟨rfl, rfl⟩ := h
      have hb := tm_len 9 b m hm
      refine ⟨?_, ?_⟩
      · rw [pn_vl 9 b m hm (by
          by_cases h1 : m = 1
          · exact .inl h1
          · exact .inr (fun h0 => hn ⟨by omega, h0⟩)), List.take_append_drop]
      · have h1 := vl_lt (b.take m)
        have h2 : (b.take m).length ≤ 9 := by simp; omega
        have h3 : 128 ^ (b.take m).length ≤ 128 ^ 9 := Nat.pow_le_pow_right (by decide) h2
        omega
def pt (s : List UInt8) : List UInt8 := pn s.length ++ s
def gt (b : List UInt8) : Option (List UInt8 × List UInt8) :=
  match gn b with
  | none => none
  | some (n, r) => if n ≤ 65536 ∧ n ≤ r.length then some (r.take n, r.drop n) else none
theorem gt_pt (s : List UInt8) (h : s.length ≤ 65536) (r : List UInt8) : gt (pt s ++ r) = some (s, r) := by
  unfold gt pt
  rw [List.append_assoc, gn_pn _ (by omega)]
  simp [h]
theorem gt_some {b s r : List UInt8} (h : gt b = some (s, r)) : b = pt s ++ r ∧ s.length ≤ 65536 := by
  unfold gt at h
  cases hg : gn b with
  | none => rw [hg] at h; simp at h
  | some q =>
    obtain ⟨n, q⟩ := q
    rw [hg] at h
    simp only at h
    split at h
    · rename_i hc
      simp at h
      obtain ⟨rfl, rfl⟩ := h
      have := (gn_some hg).1
      refine ⟨?_, by simp; omega⟩
      rw [this, pt, List.length_take, Nat.min_eq_left hc.2, List.append_assoc, List.take_append_drop]
    · simp at h
end Go.Proofs.Ytaaaeonalomcgaa.Sp
