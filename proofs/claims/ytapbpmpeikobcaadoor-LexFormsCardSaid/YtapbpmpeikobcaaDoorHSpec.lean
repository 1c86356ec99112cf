/- Plain laws of a text's tokens, as chapter 13 of the document has them. No program, no condition. -/
import Init
namespace Go.Proofs.YtapbpmpeikobcaaDoor.Lx

def isFirst (c : UInt8) : Bool := decide (97 ≤ c.toNat) && decide (c.toNat ≤ 122) || decide (65 ≤ c.toNat) && decide (c.toNat ≤ 90) || decide (c.toNat = 95)
def isDigit (c : UInt8) : Bool := decide (48 ≤ c.toNat) && decide (c.toNat ≤ 57)
def isWord (c : UInt8) : Bool := isFirst c || isDigit c
def isBlank (c : UInt8) : Bool := decide (c.toNat = 9) || decide (c.toNat = 10) || decide (c.toNat = 13) || decide (c.toNat = 32) || decide (c.toNat = 44)
def isMark (c : UInt8) : Bool := decide (c.toNat = 123) || decide (c.toNat = 125) || decide (c.toNat = 40) || decide (c.toNat = 41) || decide (c.toNat = 58) || decide (c.toNat = 36) || decide (c.toNat = 64)
/-- How far bytes of a kind go on. -/
def run (p : UInt8 → Bool) : List UInt8 → Nat
  | [] => 0
  | c :: r => if p c then run p r + 1 else 0
theorem run_le (p : UInt8 → Bool) : ∀ b, run p b ≤ b.length
  | [] => Nat.le_refl _
  | c :: r => by have := run_le p r; unfold run; split <;> simp <;> omega
theorem run_nil (p : UInt8 → Bool) : run p [] = 0 := rfl
theorem run_yes {p : UInt8 → Bool} {c : UInt8} {r : List UInt8} (h : p c = true) : run p (c :: r) = run p r + 1 := by simp [run, h]
theorem run_no {p : UInt8 → Bool} {c : UInt8} {r : List UInt8} (h : p c = false) : run p (c :: r) = 0 := by simp [run, h]
/-- A number's digits. -/
def numVal (ds : List UInt8) : Int := ds.foldl (fun n c => n * 10 + ((c.toNat : Int) - 48)) 0
/-- What stands behind a backslash. -/
def esc (d : UInt8) : Option UInt8 := if d.toNat = 34 ∨ d.toNat = 92 then some d else if d.toNat = 110 then some 10 else none
/-- What stands up to a closing quote, and how far it goes, the quote told. -/
def unesc : List UInt8 → Option (List UInt8 × Nat)
  | [] => none
  | c :: r => if c.toNat = 34 then some ([], 1) else if c.toNat = 10 then none else if c.toNat = 92 then
      match r with
      | [] => none
      | d :: q => match esc d with
        | none => none
        | some x => match unesc q with
          | none => none
          | some (o, k) => some (x :: o, k + 2)
    else match unesc r with
      | none => none
      | some (o, k) => some (c :: o, k + 1)
structure Tok where
  kind : Int
  text : List UInt8
  int : Int
  pos : Nat
/-- The token at the head of some bytes: its kind, text, number, and how far it goes. -/
def token : List UInt8 → Except Int (Int × List UInt8 × Int × Nat)
  | [] => .error 1300
  | c :: r =>
    if isFirst c then
      if run isWord (c :: r) ≤ 32 then .ok (0, (c :: r).take (run isWord (c :: r)), 0, run isWord (c :: r)) else .error 1300
    else if c.toNat = 45 then
      if run isDigit r = 0 ∨ 15 < run isDigit r ∨ 0 < run isWord (r.drop (run isDigit r)) then .error 1300
      else .ok (1, [], -numVal (r.take (run isDigit r)), run isDigit r + 1)
    else if isDigit c then
      if 15 < run isDigit (c :: r) ∨ 0 < run isWord ((c :: r).drop (run isDigit (c :: r))) then .error 1300
      else .ok (1, [], numVal ((c :: r).take (run isDigit (c :: r))), run isDigit (c :: r))
    else if c.toNat = 34 then
      match unesc r with
      | none => .error 1301
      | some (o, k) => if o.length ≤ 256 then .ok (2, o, 0, k + 1) else .error 1301
    else if isMark c then .ok (3, [c], 0, 1)
    else if (c :: r).take 3 = [46, 46, 46] then .ok (3, [46, 46, 46], 0, 3)
    else .error 1300
/-- May a text be a name? -/
def nameB : List UInt8 → Bool
  | [] => false
  | c :: r => decide (r.length + 1 ≤ 32) && isFirst c && (c :: r).all isWord
def noEnd (c : UInt8) : Bool := decide (¬ c.toNat = 10)
def lex : Nat → Nat → List UInt8 → Except Int (List Tok)
  | 0, _, _ => .error 0
  | _ + 1, _, [] => .ok []
  | k + 1, p, c :: r =>
    if isBlank c then lex k (p + 1) r
    else if c.toNat = 35 then lex k (p + run noEnd (c :: r)) ((c :: r).drop (run noEnd (c :: r)))
    else match token (c :: r) with
      | .error e => .error e
      | .ok (kd, tx, i, n) => match lex k (p + n) ((c :: r).drop n) with
        | .error e => .error e
        | .ok ts => .ok (⟨kd, tx, i, p⟩ :: ts)
/-- The tokens of what is left, from a place on. -/
def L (p : Nat) (b : List UInt8) : Except Int (List Tok) := lex (b.length + 1) p b
/-- A text's tokens, or the error. -/
def tokens (s : List UInt8) : Except Int (List Tok) :=
  if 65536 < s.length then .error 1300 else match L 0 s with
    | .error e => .error e
    | .ok ts => if 2048 < ts.length then .error 1302 else .ok ts

theorem unesc_pos : ∀ (b : List UInt8) (o : List UInt8) (k : Nat), unesc b = some (o, k) → 1 ≤ k ∧ k ≤ b.length
  | [], _, _, h => by simp [unesc] at h
  | [c], o, k, h => by
    unfold unesc at h
    split at h
    · simp at h; simp; omega
    · split at h
      · simp at h
      · split at h
        · simp at h
        · simp [unesc] at h
  | c :: d :: q, o, k, h => by
    unfold unesc at h
    split at h
    · simp at h; simp; omega
    · split at h
      · simp at h
      · split at h
        · simp only at h
          split at h
          · simp at h
          · split at h
            · simp at h
            · rename_i x he o' k' hq
              have := unesc_pos q o' k' hq
              simp at h; simp; omega
        · split at h
          · simp at h
          · rename_i o' k' hq
            have := unesc_pos (d :: q) o' k' hq
            simp at h this; simp; omega
theorem token_pos {c : UInt8} {r : List UInt8} {kd : Int} {tx : List UInt8} {i : Int} {n : Nat} (h : token (c :: r) = .ok (kd, tx, i, n)) : 1 ≤ n ∧ n ≤ r.length + 1 := by
  simp only [token] at h
  split at h
  · rename_i hf
    have h1 := run_le isWord (c :: r)
    have h2 : run isWord (c :: r) = run isWord r + 1 := run_yes (by unfold isWord; rw [hf]; rfl)
    split at h
    · simp at h1; simp at h; omega
    · simp at h
  · split at h
    · have h1 := run_le isDigit r
      split at h
      · simp at h
      · simp at h; omega
    · split at h
      · rename_i hd
        have h1 := run_le isDigit (c :: r)
        have h2 : run isDigit (c :: r) = run isDigit r + 1 := run_yes hd
        split at h
        · simp at h
        · simp at h1; simp at h; omega
      · split at h
        · split at h
          · simp at h
          · rename_i o k hu
            have := unesc_pos _ _ _ hu
            split at h
            · simp at h; omega
            · simp at h
        · split at h
          · simp at h; omega
          · split at h
            · rename_i hc
              have := congrArg List.length hc
              simp at this
              simp at h; omega
            · simp at h
/-- Enough rounds give one answer. -/
theorem lex_more (b : List UInt8) : ∀ (k m p : Nat), b.length < k → b.length < m → lex k p b = lex m p b := by
  induction h : b.length using Nat.strongRecOn generalizing b with
  | _ n ih =>
    intro k m p hk hm
    subst h
    obtain ⟨k, rfl⟩ : ∃ j, k = j + 1 := ⟨k - 1, by omega⟩
    obtain ⟨m, rfl⟩ : ∃ j, m = j + 1 := ⟨m - 1, by omega⟩
    cases b with
    | nil => rfl
    | cons c r =>
      simp at hk hm
      simp only [lex]
      split
      · exact ih r.length (by simp) r rfl k m (p + 1) (by omega) (by omega)
      · split
        · rename_i hc
          have h1 := run_le noEnd (c :: r)
          have h2 : run noEnd (c :: r) = run noEnd r + 1 := run_yes (by unfold noEnd; simp; omega)
          exact ih _ (by simp; omega) _ rfl k m _ (by simp; omega) (by simp; omega)
        · split
          · rfl
          · rename_i kd tx i n ht
            have := token_pos ht
            rw [ih ((c :: r).drop n).length (by simp; omega) _ rfl k m _ (by simp; omega) (by simp; omega)]
theorem L_nil (p : Nat) : L p [] = .ok [] := rfl
theorem L_blank {p : Nat} {c : UInt8} {r : List UInt8} (h : isBlank c = true) : L p (c :: r) = L (p + 1) r := by
  unfold L; simp only [List.length_cons, lex]; rw [if_pos h]
theorem L_note {p : Nat} {c : UInt8} {r : List UInt8} (h : c.toNat = 35) : L p (c :: r) = L (p + run noEnd (c :: r)) ((c :: r).drop (run noEnd (c :: r))) := by
  unfold L; simp only [List.length_cons, lex]
  rw [if_neg (by unfold isBlank; simp; omega), if_pos h]
  have h2 : run noEnd (c :: r) = run noEnd r + 1 := run_yes (by unfold noEnd; simp; omega)
  exact lex_more _ _ _ _ (by simp; omega) (by simp)
theorem L_err {p : Nat} {c : UInt8} {r : List UInt8} {e : Int} (hb : isBlank c = false) (hn : ¬ c.toNat = 35) (h : token (c :: r) = .error e) : L p (c :: r) = .error e := by
  unfold L; simp only [List.length_cons, lex]
  rw [if_neg (by rw [hb]; decide), if_neg hn, h]
/-- A token ahead of others. -/
def pre (acc : List Tok) : Except Int (List Tok) → Except Int (List Tok)
  | .error e => .error e
  | .ok ts => .ok (acc ++ ts)
theorem pre_pre (a b : List Tok) (r : Except Int (List Tok)) : pre a (pre b r) = pre (a ++ b) r := by cases r <;> simp [pre]
theorem pre_nil (r : Except Int (List Tok)) : pre [] r = r := by cases r <;> rfl
theorem L_tok {p : Nat} {c : UInt8} {r : List UInt8} {kd : Int} {tx : List UInt8} {i : Int} {n : Nat} (hb : isBlank c = false) (hn : ¬ c.toNat = 35) (h : token (c :: r) = .ok (kd, tx, i, n)) :
    L p (c :: r) = pre [⟨kd, tx, i, p⟩] (L (p + n) ((c :: r).drop n)) := by
  have hp := token_pos h
  have e : lex (r.length + 1) (p + n) ((c :: r).drop n) = L (p + n) ((c :: r).drop n) := lex_more _ _ _ _ (by simp; omega) (by simp)
  unfold L at e ⊢; simp only [List.length_cons, lex]
  rw [if_neg (by rw [hb]; decide), if_neg hn, h]
  simp only [e]
  cases lex (((c :: r).drop n).length + 1) (p + n) ((c :: r).drop n) <;> rfl
end Go.Proofs.YtapbpmpeikobcaaDoor.Lx
