/- A text written with its escapes is read as one token of just its bytes. Conditions: at most 256 bytes. -/
import Derived.Test.YtapbpmpeikobcaaDoorHSpec
import Derived.Test.YtapbpmpeikobcaaDoorHLex6
set_option linter.unusedVariables false
set_option linter.unusedSimpArgs false
namespace Go.Proofs.YtapbpmpeikobcaaDoor.Q
open Go.RowKit Go.Proofs.YtapbpmpeikobcaaDoorW.PrintWords Go.Proofs.YtapbpmpeikobcaaDoorW.PrintLast Go.Proofs.YtapbpmpeikobcaaDoorW.PrintMore

def esc1 (c : UInt8) : List UInt8 := if c.toNat = 34 ∨ c.toNat = 92 then [92, c] else if c.toNat = 10 then [92, 110] else [c]
def escs (t : List UInt8) : List UInt8 := t.flatMap esc1
/-- A text as it is written. -/
def wrT (t : List UInt8) : List UInt8 := 34 :: (escs t ++ [34])
theorem esc1_len (c : UInt8) : 1 ≤ (esc1 c).length ∧ (esc1 c).length ≤ 2 := by unfold esc1; split <;> (try split) <;> simp
theorem escs_len : ∀ t : List UInt8, (escs t).length ≤ 2 * t.length
  | [] => by simp [escs]
  | c :: r => by have := escs_len r; have h := esc1_len c; unfold escs at this ⊢; simp only [List.flatMap_cons, List.length_append, List.length_cons]; omega
theorem wrT_len (t : List UInt8) : (wrT t).length ≤ 2 * t.length + 2 := by have := escs_len t; unfold wrT; simp; omega
theorem unesc_escs (q : List UInt8) : ∀ t : List UInt8, Lx.unesc (escs t ++ 34 :: q) = some (t, (escs t).length + 1)
  | [] => by show Lx.unesc (34 :: q) = _; rw [unesc_end (by rfl)]; rfl
  | c :: r => by
    have ih := unesc_escs q r
    have e : escs (c :: r) = esc1 c ++ escs r := rfl
    rw [e, List.append_assoc]
    by_cases h1 : c.toNat = 34 ∨ c.toNat = 92
    · have e1 : esc1 c = [92, c] := if_pos h1
      rw [e1]
      show Lx.unesc (92 :: c :: (escs r ++ 34 :: q)) = _
      rw [unesc_two (by rfl) (show Lx.esc c = some c from by unfold Lx.esc; rw [if_pos h1]), ih]
      simp [ext]; omega
    · by_cases h2 : c.toNat = 10
      · have e1 : esc1 c = [92, 110] := by unfold esc1; rw [if_neg h1, if_pos h2]
        have hc : c = 10 := UInt8.toNat_inj.1 h2
        rw [e1]
        show Lx.unesc (92 :: 110 :: (escs r ++ 34 :: q)) = _
        rw [unesc_two (by rfl) (show Lx.esc 110 = some 10 from rfl), ih, hc]
        simp [ext]; omega
      · have e1 : esc1 c = [c] := by unfold esc1; rw [if_neg h1, if_neg h2]
        rw [e1]
        show Lx.unesc (c :: (escs r ++ 34 :: q)) = _
        rw [unesc_one (by omega) h2 (by omega), ih]
        simp [ext]; omega
theorem token_wrT (t q : List UInt8) (h : t.length ≤ 256) : Lx.token (wrT t ++ q) = .ok (2, t, 0, (wrT t).length) := by
  have e : wrT t ++ q = 34 :: (escs t ++ 34 :: q) := by simp [wrT]
  rw [e]
  simp only [Lx.token]
  rw [if_neg (by decide), if_neg (by decide), if_neg (by decide), if_pos (by rfl), unesc_escs]
  simp only
  rw [if_pos h]
  simp [wrT]
theorem L_wrT (p : Nat) (t q : List UInt8) (h : t.length ≤ 256) : Lx.L p (wrT t ++ q) = Lx.pre [⟨2, t, 0, p⟩] (Lx.L (p + (wrT t).length) q) := by
  have ht := token_wrT t q h
  have e : wrT t ++ q = 34 :: (escs t ++ 34 :: q) := by simp [wrT]
  have hd : (wrT t ++ q).drop (wrT t).length = q := List.drop_left
  rw [e] at ht hd ⊢
  rw [Lx.L_tok (by decide) (by decide) ht, hd]
theorem L_x (p : Nat) : Lx.L p [120] = .ok [⟨0, [120], 0, p⟩] := rfl
theorem tokens_texts (s t : List UInt8) (hs : s.length ≤ 256) (ht : t.length ≤ 256) :
    Lx.tokens (wrT s ++ wrT t ++ [120]) = .ok [⟨2, s, 0, 0⟩, ⟨2, t, 0, (wrT s).length⟩, ⟨0, [120], 0, (wrT s).length + (wrT t).length⟩] := by
  have h1 := wrT_len s
  have h2 := wrT_len t
  unfold Lx.tokens
  rw [if_neg (by simp; omega), List.append_assoc, L_wrT 0 s _ hs, L_wrT _ t _ ht, L_x]
  simp [Lx.pre]
end Go.Proofs.YtapbpmpeikobcaaDoor.Q
