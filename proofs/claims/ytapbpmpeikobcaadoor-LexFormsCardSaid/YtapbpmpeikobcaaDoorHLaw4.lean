/- Two texts side by side, with a byte 10 between, have the tokens of both. No condition. -/
import Derived.Test.YtapbpmpeikobcaaDoorHSpec
set_option linter.unusedVariables false
set_option linter.unusedSimpArgs false
namespace Go.Proofs.YtapbpmpeikobcaaDoor.Lx

theorem run_app {p : UInt8 → Bool} (hp : p 10 = false) (q : List UInt8) : ∀ b : List UInt8, run p (b ++ 10 :: q) = run p b
  | [] => run_no hp
  | c :: r => by
    have ih := run_app hp q r
    cases h : p c with
    | true => rw [List.cons_append, run_yes h, run_yes h, ih]
    | false => rw [List.cons_append, run_no h, run_no h]
theorem take_run_app {p : UInt8 → Bool} (b q : List UInt8) {n : Nat} (h : n ≤ b.length) : (b ++ q).take n = b.take n := List.take_append_of_le_length h
theorem unesc_app (q : List UInt8) : ∀ (b o : List UInt8) (k : Nat), unesc b = some (o, k) → unesc (b ++ q) = some (o, k)
  | [], _, _, h => by simp [unesc] at h
  | [c], o, k, h => by
    unfold unesc at h
    split at h
    · rename_i h1
      simp at h; obtain ⟨rfl, rfl⟩ := h
      show unesc (c :: q) = _
      unfold unesc; rw [if_pos h1]
    · split at h
      · simp at h
      · split at h
        · simp at h
        · simp [unesc] at h
  | c :: d :: r, o, k, h => by
    show unesc (c :: d :: (r ++ q)) = _
    unfold unesc at h ⊢
    split at h
    · rename_i h1; rw [if_pos h1]; exact h
    · rename_i h1
      rw [if_neg h1]
      split at h
      · simp at h
      · rename_i h2
        rw [if_neg h2]
        split at h
        · rename_i h3
          rw [if_pos h3]
          simp only at h ⊢
          cases he : esc d with
          | none => rw [he] at h; simp at h
          | some x =>
            rw [he] at h
            simp only at h ⊢
            cases hu : unesc r with
            | none => rw [hu] at h; simp at h
            | some w =>
              obtain ⟨o2, k2⟩ := w
              rw [hu] at h
              rw [unesc_app q r o2 k2 hu]; exact h
        · rename_i h3
          rw [if_neg h3]
          cases hu : unesc (d :: r) with
          | none => rw [hu] at h; simp at h
          | some w =>
            obtain ⟨o2, k2⟩ := w
            rw [hu] at h
            have := unesc_app q (d :: r) o2 k2 hu
            rw [List.cons_append] at this
            rw [this]; exact h
theorem word10 : isWord 10 = false := by decide
theorem digit10 : isDigit 10 = false := by decide
theorem drop_app (b q : List UInt8) {n : Nat} (h : n ≤ b.length) : (b ++ q).drop n = b.drop n ++ q := List.drop_append_of_le_length h
theorem token_app (q : List UInt8) {c : UInt8} {r : List UInt8} {x : Int × List UInt8 × Int × Nat} (h : token (c :: r) = .ok x) : token (c :: r ++ 10 :: q) = .ok x := by
  have hrw := run_app word10 q (c :: r)
  have hlw := run_le isWord (c :: r)
  have hrd := run_app digit10 q r
  have hld := run_le isDigit r
  have hrd2 := run_app digit10 q (c :: r)
  have hld2 := run_le isDigit (c :: r)
  have e0 : c :: r ++ 10 :: q = c :: (r ++ 10 :: q) := rfl
  rw [e0] at hrw hrd2 ⊢
  simp only [token] at h ⊢
  rw [hrw, hrd, hrd2]
  have e1 : (c :: (r ++ 10 :: q)).take (run isWord (c :: r)) = (c :: r).take (run isWord (c :: r)) := take_run_app (p := isWord) (c :: r) (10 :: q) hlw
  have e2 : (r ++ 10 :: q).take (run isDigit r) = r.take (run isDigit r) := take_run_app (p := isWord) r _ hld
  have e3 : (r ++ 10 :: q).drop (run isDigit r) = r.drop (run isDigit r) ++ 10 :: q := drop_app r _ hld
  have e4 : (c :: (r ++ 10 :: q)).take (run isDigit (c :: r)) = (c :: r).take (run isDigit (c :: r)) := take_run_app (p := isWord) (c :: r) (10 :: q) hld2
  have e5 : (c :: (r ++ 10 :: q)).drop (run isDigit (c :: r)) = (c :: r).drop (run isDigit (c :: r)) ++ 10 :: q := drop_app (c :: r) _ hld2
  rw [e1, e2, e3, e4, e5, run_app word10, run_app word10]
  split at h
  · rename_i h1; rw [if_pos h1]; exact h
  · rename_i h1
    rw [if_neg h1]
    split at h
    · rename_i h2; rw [if_pos h2]; exact h
    · rename_i h2
      rw [if_neg h2]
      split at h
      · rename_i h3; rw [if_pos h3]; exact h
      · rename_i h3
        rw [if_neg h3]
        split at h
        · rename_i h4
          rw [if_pos h4]
          cases hu : unesc r with
          | none => rw [hu] at h; simp at h
          | some w =>
            obtain ⟨o, k⟩ := w
            rw [hu] at h
            rw [unesc_app _ r o k hu]; exact h
        · rename_i h4
          rw [if_neg h4]
          split at h
          · rename_i h5; rw [if_pos h5]; exact h
          · rename_i h5
            rw [if_neg h5]
            split at h
            · rename_i h6
              have hl : 3 ≤ (c :: r).length := by have := congrArg List.length h6; rw [List.length_take] at this; simp only [List.length_cons, List.length_nil] at this ⊢; omega
              rw [if_pos (by rw [← e0, List.take_append_of_le_length hl]; exact h6)]; exact h
            · cases h
theorem noEnd10 : noEnd 10 = false := by decide
theorem L_app (q : List UInt8) : ∀ (n : Nat) (b : List UInt8) (p : Nat) (ts : List Tok), b.length = n → L p b = .ok ts → L p (b ++ 10 :: q) = pre ts (L (p + b.length + 1) q) := by
  intro n
  induction n using Nat.strongRecOn with
  | _ n ih =>
    intro b p ts hb h
    subst hb
    cases b with
    | nil =>
      rw [L_nil] at h; cases h
      rw [pre_nil, List.nil_append, L_blank (by decide)]; rfl
    | cons c r =>
      cases hbl : isBlank c with
      | true =>
        rw [L_blank hbl] at h
        rw [List.cons_append, L_blank hbl, ih r.length (by simp) r (p + 1) ts rfl h]
        congr 1; congr 1; simp; omega
      | false =>
        by_cases h35 : c.toNat = 35
        · rw [L_note h35] at h
          have hr := run_app noEnd10 q (c :: r)
          have hle := run_le noEnd (c :: r)
          have hpos : run noEnd (c :: r) = run noEnd r + 1 := run_yes (by unfold noEnd; simp; omega)
          rw [List.cons_append] at hr
          have hL := ih ((c :: r).drop (run noEnd (c :: r))).length (by simp; omega) _ _ ts rfl h
          rw [List.cons_append, L_note h35, hr]
          have e : (c :: (r ++ 10 :: q)).drop (run noEnd (c :: r)) = (c :: r).drop (run noEnd (c :: r)) ++ 10 :: q := drop_app (c :: r) _ hle
          rw [e, hL]
          congr 1; congr 1; simp at hle ⊢; omega
        · cases ht : token (c :: r) with
          | error e => rw [L_err hbl h35 ht] at h; cases h
          | ok x =>
            obtain ⟨kd, tx, i, m⟩ := x
            have hpos := token_pos ht
            rw [L_tok hbl h35 ht] at h
            have ht2 := token_app q ht
            cases hr : L (p + m) ((c :: r).drop m) with
            | error e => rw [hr] at h; cases h
            | ok us =>
              rw [hr] at h
              have hts : ts = [⟨kd, tx, i, p⟩] ++ us := by cases h; rfl
              have hL := ih ((c :: r).drop m).length (by simp; omega) _ _ us rfl hr
              rw [List.cons_append] at ht2
              rw [List.cons_append, L_tok hbl h35 ht2]
              have e : (c :: (r ++ 10 :: q)).drop m = (c :: r).drop m ++ 10 :: q := drop_app (c :: r) _ (by simp; omega)
              rw [e, hL, pre_pre, hts]
              congr 1; congr 1; simp; omega
def shiftT (d : Nat) (t : Tok) : Tok := ⟨t.kind, t.text, t.int, t.pos + d⟩
def shiftR (d : Nat) : Except Int (List Tok) → Except Int (List Tok)
  | .error e => .error e
  | .ok ts => .ok (ts.map (shiftT d))
theorem L_shift (d : Nat) : ∀ (n : Nat) (b : List UInt8) (p : Nat), b.length = n → L (p + d) b = shiftR d (L p b) := by
  intro n
  induction n using Nat.strongRecOn with
  | _ n ih =>
    intro b p hb
    subst hb
    cases b with
    | nil => rfl
    | cons c r =>
      cases hbl : isBlank c with
      | true => rw [L_blank hbl, L_blank hbl, show p + d + 1 = p + 1 + d from by omega, ih r.length (by simp) r (p + 1) rfl]
      | false =>
        by_cases h35 : c.toNat = 35
        · have hpos : run noEnd (c :: r) = run noEnd r + 1 := run_yes (by unfold noEnd; simp; omega)
          rw [L_note h35, L_note h35, show p + d + run noEnd (c :: r) = p + run noEnd (c :: r) + d from by omega]
          exact ih _ (by simp; omega) _ _ rfl
        · cases ht : token (c :: r) with
          | error e => rw [L_err hbl h35 ht, L_err hbl h35 ht]; rfl
          | ok x =>
            obtain ⟨kd, tx, i, m⟩ := x
            have hpos := token_pos ht
            rw [L_tok hbl h35 ht, L_tok hbl h35 ht, show p + d + m = p + m + d from by omega, ih _ (by simp; omega) _ _ rfl]
            cases L (p + m) ((c :: r).drop m) <;> simp [pre, shiftR, shiftT]
theorem L_pos : ∀ (n : Nat) (b : List UInt8) (p : Nat) (ts : List Tok), b.length = n → L p b = .ok ts → ∀ t ∈ ts, t.pos < p + b.length := by
  intro n
  induction n using Nat.strongRecOn with
  | _ n ih =>
    intro b p ts hb h
    subst hb
    cases b with
    | nil => rw [L_nil] at h; cases h; simp
    | cons c r =>
      cases hbl : isBlank c with
      | true =>
        rw [L_blank hbl] at h
        intro t ht
        have := ih r.length (by simp) r (p + 1) ts rfl h t ht
        simp; omega
      | false =>
        by_cases h35 : c.toNat = 35
        · have hpos : run noEnd (c :: r) = run noEnd r + 1 := run_yes (by unfold noEnd; simp; omega)
          have hle := run_le noEnd (c :: r)
          rw [L_note h35] at h
          intro t ht
          have := ih _ (by simp; omega) _ _ ts rfl h t ht
          simp at this hle ⊢; omega
        · cases hk : token (c :: r) with
          | error e => rw [L_err hbl h35 hk] at h; cases h
          | ok x =>
            obtain ⟨kd, tx, i, m⟩ := x
            have hpos := token_pos hk
            rw [L_tok hbl h35 hk] at h
            cases hr : L (p + m) ((c :: r).drop m) with
            | error e => rw [hr] at h; cases h
            | ok us =>
              rw [hr] at h
              have hts : ts = [⟨kd, tx, i, p⟩] ++ us := by cases h; rfl
              subst hts
              intro t ht
              rcases List.mem_append.1 ht with ht | ht
              · simp at ht; subst ht; simp
              · have := ih _ (by simp; omega) _ _ us rfl hr t ht
                simp at this ⊢; omega
theorem tokens_ok {s : List UInt8} {ts : List Tok} (h : tokens s = .ok ts) : s.length ≤ 65536 ∧ ts.length ≤ 2048 ∧ L 0 s = .ok ts := by
  unfold tokens at h
  split at h
  · cases h
  · split at h
    · cases h
    · rename_i us hL
      split at h
      · cases h
      · cases h; exact ⟨by omega, by omega, hL⟩
theorem tokens_parts {s t : List UInt8} {a b : List Tok} (ha : tokens s = .ok a) (hb : tokens t = .ok b) (hl : a.length + b.length ≤ 2048) (hz : s.length + t.length + 1 ≤ 65536) :
    tokens (s ++ 10 :: t) = .ok (a ++ b.map (shiftT (s.length + 1))) := by
  obtain ⟨_, _, h1⟩ := tokens_ok ha
  obtain ⟨_, _, h2⟩ := tokens_ok hb
  have h3 := L_app t _ s 0 a rfl h1
  have h4 := L_shift (s.length + 1) _ t 0 rfl
  rw [h2] at h4
  rw [show 0 + s.length + 1 = 0 + (s.length + 1) from by omega, h4] at h3
  unfold tokens
  rw [if_neg (by simp; omega), h3]
  simp only [shiftR, pre]
  rw [if_neg (by simp; omega)]
theorem tokens_parts_big {s t : List UInt8} {a b : List Tok} (ha : tokens s = .ok a) (hb : tokens t = .ok b) (h : 2048 < a.length + b.length ∨ 65536 < s.length + t.length + 1) :
    ∃ x, (x = 1300 ∨ x = 1302) ∧ tokens (s ++ 10 :: t) = .error x := by
  by_cases hz : 65536 < s.length + t.length + 1
  · refine ⟨1300, .inl rfl, ?_⟩
    unfold tokens; rw [if_pos (by simp; omega)]
  · obtain ⟨_, _, h1⟩ := tokens_ok ha
    obtain ⟨_, _, h2⟩ := tokens_ok hb
    have h3 := L_app t _ s 0 a rfl h1
    have h4 := L_shift (s.length + 1) _ t 0 rfl
    rw [h2] at h4
    rw [show 0 + s.length + 1 = 0 + (s.length + 1) from by omega, h4] at h3
    refine ⟨1302, .inr rfl, ?_⟩
    unfold tokens
    rw [if_neg (by simp; omega), h3]
    simp only [shiftR, pre]
    rw [if_pos (by simp; omega)]
end Go.Proofs.YtapbpmpeikobcaaDoor.Lx
