/- What written answers at a token. Condition: the token is one of a text's. -/
import Derived.Test.YtapbpmpeikobcaaDoorHLaw3
import Derived.Test.YtapbpmpeikobcaaDoorHLaw2
set_option linter.unusedVariables false
set_option linter.unusedSimpArgs false
namespace Go.Proofs.YtapbpmpeikobcaaDoor.Lx
open Go.Proofs.YtapbpmpeikobcaaDoor.Q (wrT token_wrT escs)

/-- A number's digits. -/
def decL (n : Nat) : List UInt8 := if n < 10 then [UInt8.ofNat (48 + n)] else decL (n / 10) ++ [UInt8.ofNat (48 + n % 10)]
  termination_by n
  decreasing_by omega
theorem decL_small {n : Nat} (h : n < 10) : decL n = [UInt8.ofNat (48 + n)] := by rw [decL, if_pos h]
theorem decL_big {n : Nat} (h : ¬ n < 10) : decL n = decL (n / 10) ++ [UInt8.ofNat (48 + n % 10)] := by rw [decL, if_neg h]
theorem digit_of {k : Nat} (h : k < 10) : isDigit (UInt8.ofNat (48 + k)) = true ∧ (UInt8.ofNat (48 + k)).toNat = 48 + k := by
  have e : (UInt8.ofNat (48 + k)).toNat = 48 + k := by simp; omega
  refine ⟨?_, e⟩
  unfold isDigit; rw [e]; simp; omega
theorem numVal_snoc (l : List UInt8) (c : UInt8) : numVal (l ++ [c]) = numVal l * 10 + ((c.toNat : Int) - 48) := by simp [numVal]
theorem decL_val (n : Nat) : numVal (decL n) = n := by
  induction n using Nat.strongRecOn with
  | _ n ih =>
    by_cases h : n < 10
    · rw [decL_small h]; simp only [numVal, List.foldl_cons, List.foldl_nil, (digit_of h).2]; omega
    · rw [decL_big h, numVal_snoc, ih (n / 10) (by omega), (digit_of (show n % 10 < 10 by omega)).2]; omega
theorem decL_all (n : Nat) : (decL n).all isDigit = true := by
  induction n using Nat.strongRecOn with
  | _ n ih =>
    by_cases h : n < 10
    · rw [decL_small h]; simp only [List.all_cons, List.all_nil, Bool.and_true]; exact (digit_of h).1
    · rw [decL_big h, List.all_append, ih (n / 10) (by omega)]; simp only [List.all_cons, List.all_nil, Bool.and_true, Bool.true_and]; exact (digit_of (show n % 10 < 10 by omega)).1
theorem decL_len (n : Nat) : ∀ k, n < 10 ^ (k + 1) → 1 ≤ (decL n).length ∧ (decL n).length ≤ k + 1 := by
  induction n using Nat.strongRecOn with
  | _ n ih =>
    intro k hk
    by_cases h : n < 10
    · rw [decL_small h]; simp
    · rw [decL_big h]
      cases k with
      | zero => simp at hk; omega
      | succ k =>
        have := ih (n / 10) (by omega) k (by rw [Nat.pow_succ] at hk; omega)
        simp; omega
theorem run_all_app {p : UInt8 → Bool} : ∀ (l q : List UInt8), l.all p = true → run p (l ++ q) = l.length + run p q
  | [], q, _ => by simp
  | c :: r, q, h => by
    simp only [List.all_cons, Bool.and_eq_true] at h
    rw [List.cons_append, run_yes h.1, run_all_app r q h.2]; simp; omega
/-- What a text's tokens are. -/
def Valid (t : Tok) : Prop :=
  (t.kind = 0 ∧ nameB t.text = true ∧ t.int = 0) ∨ (t.kind = 1 ∧ t.text = [] ∧ -1000000000000000 < t.int ∧ t.int < 1000000000000000) ∨ (t.kind = 2 ∧ t.text.length ≤ 256 ∧ t.int = 0)
    ∨ (t.kind = 3 ∧ t.int = 0 ∧ ((∃ c, t.text = [c] ∧ isMark c = true) ∨ t.text = [46, 46, 46]))
theorem all_run {p : UInt8 → Bool} : ∀ l : List UInt8, (l.take (run p l)).all p = true
  | [] => rfl
  | c :: r => by
    cases h : p c with
    | true => rw [run_yes h, List.take_succ_cons, List.all_cons, h, all_run r]; rfl
    | false => rw [run_no h]; rfl
theorem numVal_bound : ∀ (l : List UInt8), l.all isDigit = true → 0 ≤ numVal l ∧ numVal l < 10 ^ l.length := by
  have key : ∀ (l : List UInt8), l.all isDigit = true → 0 ≤ numVal l.reverse.reverse ∧ numVal l.reverse.reverse < 10 ^ l.length := by
    intro l
    rw [List.reverse_reverse]
    have : ∀ m : List UInt8, m.all isDigit = true → 0 ≤ numVal m.reverse ∧ numVal m.reverse < 10 ^ m.length := by
      intro m
      induction m with
      | nil => intro _; simp [numVal]
      | cons c r ih =>
        intro h
        simp only [List.all_cons, Bool.and_eq_true] at h
        obtain ⟨h1, h2⟩ := ih h.2
        have hc := h.1
        simp [isDigit] at hc
        rw [List.reverse_cons, numVal_snoc, List.length_cons, Int.pow_succ]
        omega
    intro h
    have := this l.reverse (by simpa using h)
    rw [List.reverse_reverse, List.length_reverse] at this; exact this
  intro l h
  have := key l h
  rwa [List.reverse_reverse] at this
theorem pow15 {k : Nat} (h : k ≤ 15) : (10 : Int) ^ k ≤ 1000000000000000 := by
  have h1 : (10 : Nat) ^ k ≤ 10 ^ 15 := Nat.pow_le_pow_right (by decide) h
  have h2 : ((10 ^ k : Nat) : Int) ≤ ((10 ^ 15 : Nat) : Int) := Int.ofNat_le.2 h1
  simpa using h2
theorem token_valid {c : UInt8} {r : List UInt8} {kd : Int} {tx : List UInt8} {i : Int} {n p : Nat} (h : token (c :: r) = .ok (kd, tx, i, n)) : Valid ⟨kd, tx, i, p⟩ := by
  simp only [token] at h
  split at h
  · rename_i hf
    split at h
    · rename_i h32
      simp only [Except.ok.injEq, Prod.mk.injEq] at h
      obtain ⟨rfl, rfl, rfl, rfl⟩ := h
      refine .inl ⟨rfl, ?_, rfl⟩
      have h2 : run isWord (c :: r) = run isWord r + 1 := run_yes (by unfold isWord; rw [hf]; rfl)
      have h3 := all_run (p := isWord) (c :: r)
      have h4 := run_le isWord r
      rw [h2] at h3 h32 ⊢
      rw [List.take_succ_cons] at h3 ⊢
      simp only [nameB, hf, h3, Bool.and_true, decide_eq_true_eq, List.length_take]
      omega
    · cases h
  · split at h
    · split at h
      · cases h
      · rename_i hn
        simp only [Except.ok.injEq, Prod.mk.injEq] at h
        obtain ⟨rfl, rfl, rfl, rfl⟩ := h
        have hb := numVal_bound _ (all_run (p := isDigit) r)
        rw [List.length_take, Nat.min_eq_left (run_le isDigit r)] at hb
        have := pow15 (k := run isDigit r) (by omega)
        refine .inr (.inl ⟨rfl, rfl, ?_, ?_⟩) <;> simp only <;> omega
    · split at h
      · split at h
        · cases h
        · rename_i hn
          simp only [Except.ok.injEq, Prod.mk.injEq] at h
          obtain ⟨rfl, rfl, rfl, rfl⟩ := h
          have hb := numVal_bound _ (all_run (p := isDigit) (c :: r))
          rw [List.length_take, Nat.min_eq_left (run_le isDigit (c :: r))] at hb
          have := pow15 (k := run isDigit (c :: r)) (by omega)
          refine .inr (.inl ⟨rfl, rfl, ?_, ?_⟩) <;> simp only <;> omega
      · split at h
        · split at h
          · cases h
          · split at h
            · rename_i ho
              simp only [Except.ok.injEq, Prod.mk.injEq] at h
              obtain ⟨rfl, rfl, rfl, rfl⟩ := h
              exact .inr (.inr (.inl ⟨rfl, ho, rfl⟩))
            · cases h
        · split at h
          · rename_i hm
            simp only [Except.ok.injEq, Prod.mk.injEq] at h
            obtain ⟨rfl, rfl, rfl, rfl⟩ := h
            exact .inr (.inr (.inr ⟨rfl, rfl, .inl ⟨c, rfl, hm⟩⟩))
          · split at h
            · simp only [Except.ok.injEq, Prod.mk.injEq] at h
              obtain ⟨rfl, rfl, rfl, rfl⟩ := h
              exact .inr (.inr (.inr ⟨rfl, rfl, .inr rfl⟩))
            · cases h
theorem L_valid : ∀ (n : Nat) (b : List UInt8) (p : Nat) (ts : List Tok), b.length = n → L p b = .ok ts → ∀ t ∈ ts, Valid t := by
  intro n
  induction n using Nat.strongRecOn with
  | _ n ih =>
    intro b p ts hb h
    subst hb
    cases b with
    | nil => rw [L_nil] at h; cases h; simp
    | cons c r =>
      cases hbl : isBlank c with
      | true =>
        rw [L_blank hbl] at h
        exact ih r.length (by simp) r (p + 1) ts rfl h
      | false =>
        by_cases h35 : c.toNat = 35
        · have hpos : run noEnd (c :: r) = run noEnd r + 1 := run_yes (by unfold noEnd; simp; omega)
          rw [L_note h35] at h
          exact ih _ (by simp; omega) _ _ ts rfl h
        · cases hk : token (c :: r) with
          | error e => rw [L_err hbl h35 hk] at h; cases h
          | ok x =>
            obtain ⟨kd, tx, i, m⟩ := x
            have hpos := token_pos hk
            rw [L_tok hbl h35 hk] at h
            cases hr : L (p + m) ((c :: r).drop m) with
            | error e => rw [hr] at h; cases h
            | ok us =>
              rw [hr] at h
              have hts : ts = [⟨kd, tx, i, p⟩] ++ us := by cases h; rfl
              subst hts
              intro t ht
              rcases List.mem_append.1 ht with ht | ht
              · simp at ht; subst ht; exact token_valid hk
              · exact ih _ (by simp; omega) _ _ us rfl hr t ht
/-- A token as it is written, and what stands behind it. -/
def wr (t : Tok) : List UInt8 := if t.kind = 1 then (if t.int < 0 then 45 :: decL (-t.int).toNat else decL t.int.toNat) else if t.kind = 2 then wrT t.text else t.text
def sep (t : Tok) : List UInt8 := if t.kind = 3 then [] else [32]
theorem first_noMark {c : UInt8} (h : isMark c = true) : isFirst c = false ∧ ¬ c.toNat = 45 ∧ isDigit c = false ∧ ¬ c.toNat = 34 ∧ isBlank c = false ∧ ¬ c.toNat = 35 := by
  simp [isMark] at h
  simp [isFirst, isDigit, isBlank]
  omega
theorem first_no {c : UInt8} (h : isFirst c = true) : isBlank c = false ∧ ¬ c.toNat = 35 := by
  simp [isFirst] at h
  simp [isBlank]
  omega
theorem digit_no {c : UInt8} (h : isDigit c = true) : isFirst c = false ∧ ¬ c.toNat = 45 ∧ isBlank c = false ∧ ¬ c.toNat = 35 := by
  simp [isDigit] at h
  simp [isFirst, isBlank]
  omega
/-- A token that is written is read again. -/
theorem L_wr (p : Nat) (t : Tok) (q : List UInt8) (hv : Valid t) : L p (wr t ++ sep t ++ q) = pre [⟨t.kind, t.text, t.int, p⟩] (L (p + (wr t ++ sep t).length) q) := by
  have step : ∀ (b : List UInt8) (c : UInt8) (r : List UInt8), wr t = b → b = c :: r → isBlank c = false → ¬ c.toNat = 35 → token (b ++ sep t ++ q) = .ok (t.kind, t.text, t.int, b.length) → L p (wr t ++ sep t ++ q) = pre [⟨t.kind, t.text, t.int, p⟩] (L (p + (wr t ++ sep t).length) q) := by
    intro b c r hb hc h1 h2 h3
    rw [hb]
    have hd : (b ++ sep t ++ q).drop b.length = sep t ++ q := by rw [List.append_assoc]; exact List.drop_left
    have e : b ++ sep t ++ q = c :: (r ++ sep t ++ q) := by rw [hc]; simp
    rw [e] at h3 hd ⊢
    rw [L_tok h1 h2 h3, hd]
    unfold sep
    split
    · simp
    · rw [List.singleton_append, L_blank (by decide)]
      simp
      rfl
  rcases hv with ⟨hk, hn, hi⟩ | ⟨hk, ht, h1, h2⟩ | ⟨hk, hl, hi⟩ | ⟨hk, hi, hm⟩
  · have hw : wr t = t.text := by unfold wr; rw [hk]; rfl
    have hs : sep t = [32] := by unfold sep; rw [hk]; rfl
    obtain ⟨x, hx⟩ : ∃ x, t.text = x := ⟨_, rfl⟩
    rw [hx] at hn
    cases x with
    | nil => simp [nameB] at hn
    | cons c r =>
      simp only [nameB, Bool.and_eq_true, decide_eq_true_eq] at hn
      obtain ⟨⟨hl, hf⟩, ha⟩ := hn
      refine step (c :: r) c r (by rw [hw, hx]) rfl (first_no hf).1 (first_no hf).2 ?_
      have hr : run isWord (c :: r ++ sep t ++ q) = (c :: r).length := by
        rw [List.append_assoc, run_all_app _ _ ha, hs, List.singleton_append, run_no (by decide)]; rfl
      have e : c :: r ++ sep t ++ q = c :: (r ++ sep t ++ q) := by simp
      rw [e] at hr ⊢
      simp only [token]
      rw [if_pos hf, hr, if_pos (by simp; omega), hk, hi]
      have : (c :: (r ++ sep t ++ q)).take (c :: r).length = c :: r := by rw [← e, List.append_assoc]; exact List.take_left
      rw [this, hx]
  · have hs : sep t = [32] := by unfold sep; rw [hk]; rfl
    by_cases hneg : t.int < 0
    · have hw : wr t = 45 :: decL (-t.int).toNat := by unfold wr; rw [hk, if_pos rfl, if_pos hneg]
      refine step _ 45 _ hw rfl (by decide) (by decide) ?_
      have hall := decL_all (-t.int).toNat
      have hlen := decL_len (-t.int).toNat 14 (by omega)
      have hr : run isDigit (decL (-t.int).toNat ++ sep t ++ q) = (decL (-t.int).toNat).length := by rw [List.append_assoc, run_all_app _ _ hall, hs, List.singleton_append, run_no (by decide)]; rfl
      have e : 45 :: decL (-t.int).toNat ++ sep t ++ q = 45 :: (decL (-t.int).toNat ++ sep t ++ q) := by simp
      have ht1 : (decL (-t.int).toNat ++ sep t ++ q).take (decL (-t.int).toNat).length = decL (-t.int).toNat := by rw [List.append_assoc]; exact List.take_left
      have hd1 : (decL (-t.int).toNat ++ sep t ++ q).drop (decL (-t.int).toNat).length = sep t ++ q := by rw [List.append_assoc]; exact List.drop_left
      rw [e]
      simp only [token]
      rw [if_neg (by decide), if_pos (by decide), hr, if_neg, ht1, decL_val, hk, ht]
      · congr 1; simp; omega
      · rw [hd1, hs, List.singleton_append, run_no (by decide)]; omega
    · have hw : wr t = decL t.int.toNat := by unfold wr; rw [hk, if_pos rfl, if_neg hneg]
      have hall := decL_all t.int.toNat
      have hlen := decL_len t.int.toNat 14 (by omega)
      cases hx : decL t.int.toNat with
      | nil => rw [hx] at hlen; simp at hlen
      | cons c r =>
        have hval := decL_val t.int.toNat
        rw [hx] at hall hlen hval
        have hd : isDigit c = true := by simp only [List.all_cons, Bool.and_eq_true] at hall; exact hall.1
        refine step (c :: r) c r (by rw [hw, hx]) rfl (digit_no hd).2.2.1 (digit_no hd).2.2.2 ?_
        have hr : run isDigit (c :: r ++ sep t ++ q) = (c :: r).length := by rw [List.append_assoc, run_all_app _ _ hall, hs, List.singleton_append, run_no (by decide)]; rfl
        have ht1 : (c :: r ++ sep t ++ q).take (c :: r).length = c :: r := by rw [List.append_assoc]; exact List.take_left
        have hd1 : (c :: r ++ sep t ++ q).drop (c :: r).length = sep t ++ q := by rw [List.append_assoc]; exact List.drop_left
        have e : c :: r ++ sep t ++ q = c :: (r ++ sep t ++ q) := by simp
        rw [e] at hr ht1 hd1 ⊢
        simp only [token]
        rw [if_neg (by rw [(digit_no hd).1]; decide), if_neg (digit_no hd).2.1, hd, if_pos rfl, hr, if_neg, ht1, hval, hk, ht]
        · congr 1; simp; omega
        · rw [hd1, hs, List.singleton_append, run_no (by decide)]; omega
  · have hw : wr t = wrT t.text := by unfold wr; rw [hk]; rfl
    refine step (wrT t.text) 34 _ hw rfl (by decide) (by decide) ?_
    rw [List.append_assoc, token_wrT _ _ hl, hk, hi]
  · have hw : wr t = t.text := by unfold wr; rw [hk]; rfl
    rcases hm with ⟨c, hc, hcm⟩ | hc
    · have hno := first_noMark hcm
      refine step [c] c [] (by rw [hw, hc]) rfl hno.2.2.2.2.1 hno.2.2.2.2.2 ?_
      have e : [c] ++ sep t ++ q = c :: (sep t ++ q) := by simp
      rw [e]
      simp only [token]
      rw [if_neg (by rw [hno.1]; decide), if_neg hno.2.1, if_neg (by rw [hno.2.2.1]; decide), if_neg hno.2.2.2.1, hcm, if_pos rfl, hk, hi, hc]; rfl
    · refine step [46, 46, 46] 46 [46, 46] (by rw [hw, hc]) rfl (by decide) (by decide) ?_
      have e : [46, 46, 46] ++ sep t ++ q = 46 :: 46 :: 46 :: (sep t ++ q) := by simp
      rw [e]
      simp only [token]
      rw [if_neg (by decide), if_neg (by decide), if_neg (by decide), if_neg (by decide), if_neg (by decide), if_pos (show (46 :: 46 :: 46 :: (sep t ++ q)).take 3 = [46, 46, 46] from rfl), hk, hi, hc]; rfl
/-- A row of bytes that are blanks. -/
def Gap (g : List UInt8) : Prop := ∀ (p : Nat) (q : List UInt8), L p (g ++ q) = L (p + g.length) q
theorem gap1 : Gap [32] := fun p q => L_blank (by decide)
theorem gap2 : Gap [10] := fun p q => L_blank (by decide)
theorem gap3 : Gap [44, 44, 32] := fun p q => by
  show L p (44 :: 44 :: 32 :: q) = _
  rw [L_blank (by decide), L_blank (by decide), L_blank (by decide)]; rfl
theorem gap4 : Gap [35, 120, 34, 10] := fun p q => by
  show L p (35 :: 120 :: 34 :: 10 :: q) = _
  rw [L_note (by decide)]
  have hr : run noEnd (35 :: 120 :: 34 :: 10 :: q) = 3 := by
    rw [run_yes (by decide), run_yes (by decide), run_yes (by decide), run_no (by decide)]
  rw [hr]
  show L (p + 3) (10 :: q) = _
  rw [L_blank (by decide)]; rfl
/-- Tokens written, blanks ahead of each. -/
def txt (g : Nat → List UInt8) : Nat → List Tok → List UInt8
  | _, [] => []
  | i, t :: r => g i ++ (wr t ++ sep t) ++ txt g (i + 1) r
def again (g : Nat → List UInt8) : Nat → Nat → List Tok → List Tok
  | _, _, [] => []
  | i, p, t :: r => ⟨t.kind, t.text, t.int, p + (g i).length⟩ :: again g (i + 1) (p + (g i).length + (wr t ++ sep t).length) r
theorem L_txt (g : Nat → List UInt8) (hg : ∀ i, Gap (g i)) : ∀ (ts : List Tok) (i p : Nat), (∀ t ∈ ts, Valid t) → L p (txt g i ts) = .ok (again g i p ts)
  | [], _, _, _ => rfl
  | t :: r, i, p, h => by
    have ih := L_txt g hg r (i + 1) (p + (g i).length + (wr t ++ sep t).length) (fun x hx => h x (List.mem_cons_of_mem _ hx))
    rw [txt, List.append_assoc, hg i, L_wr _ t _ (h t List.mem_cons_self), ih]; rfl
theorem again_len (g : Nat → List UInt8) : ∀ (ts : List Tok) (i p : Nat), (again g i p ts).length = ts.length
  | [], _, _ => rfl
  | t :: r, i, p => by simp [again, again_len g r]
end Go.Proofs.YtapbpmpeikobcaaDoor.Lx
namespace Go.Proofs.YtapbpmpeikobcaaDoor.Q
open Go.RowKit Go.Proofs.YtapbpmpeikobcaaDoorW.PrintWords Go.Proofs.YtapbpmpeikobcaaDoorW.PrintLast Go.Proofs.YtapbpmpeikobcaaDoorW.PrintMore

def numsOf (l : List UInt8) : List Int := l.map fun b => (b.toNat : Int)
theorem strOf_nums (l : List UInt8) : strOfNums (numsOf l) = ba l := by
  unfold strOfNums numsOf ba; congr 1; congr 1; rw [List.map_map]
  conv => rhs; rw [← List.map_id l]
  apply List.map_congr_left; intro b _; simp
theorem u64w (x : Int) (h : 0 ≤ x) (h2 : x < 18446744073709551616) : IntKind.u64.wrap x = x := by
  simp [IntKind.wrap, IntKind.signed, IntKind.bits]; omega
theorem dec_step (x0 : Int) (n : Nat) (hn : n < 1000000000000000) (acc : List UInt8) (hl : acc.length < 1000) :
    ((some (([(IntKind.u64.wrap (48 + (Int.tmod (n : Int) 10))) % 256] : List Int) : List Int)).bind fun y => (if y.length + (numsOf acc).length < 140737488355328 then some (IntKind.u64.wrap (Int.tdiv (n : Int) 10), y ++ numsOf acc) else none)) = some (((n / 10 : Nat) : Int), numsOf (UInt8.ofNat (48 + n % 10) :: acc)) := by
  have h1 : Int.tmod (n : Int) 10 = ((n % 10 : Nat) : Int) := by rw [Int.tmod_eq_emod_of_nonneg (by omega)]; omega
  have h2 : Int.tdiv (n : Int) 10 = ((n / 10 : Nat) : Int) := by rw [Int.tdiv_eq_ediv_of_nonneg (by omega)]; omega
  rw [h1, h2, u64w _ (by omega) (by omega), u64w _ (by omega) (by omega), Option.bind_some, if_pos (by simp [numsOf]; omega)]
  have e : (UInt8.ofNat (48 + n % 10)).toNat = 48 + n % 10 := (Lx.digit_of (show n % 10 < 10 by omega)).2
  simp only [numsOf, List.map_cons, e, List.cons_append, List.nil_append]
  congr 4; omega
theorem decLoop_ev (x0 : Int) (h0 : 0 ≤ x0) (n : Nat) : ∀ acc : List UInt8, n < 1000000000000000 → 0 < n → (∃ k, n < 10 ^ k ∧ acc.length + k < 900) → Ev (fun k => tattleref0_Decimal.l0 k x0 (n : Int) (numsOf acc)) (ba (Lx.decL n ++ acc)) := by
  induction n using Nat.strongRecOn with
  | _ n ih =>
    intro acc hn hp hk
    obtain ⟨k, hk1, hk2⟩ := hk
    have hs := dec_step x0 n hn acc (by omega)
    have hstep : ∀ k, tattleref0_Decimal.l0 (k + 1) x0 (n : Int) (numsOf acc) = tattleref0_Decimal.l0 k x0 ((n / 10 : Nat) : Int) (numsOf (UInt8.ofNat (48 + n % 10) :: acc)) := by
      intro k
      simp only [tattleref0_Decimal.l0]
      rw [if_pos (by omega)]
      rw [Option.bind_some] at hs ⊢
      split at hs
      · rename_i hlen
        simp only [Option.some.injEq, Prod.mk.injEq] at hs
        rw [if_pos hlen, hs.1, hs.2]
      · cases hs
    refine Ev.step hstep ?_
    by_cases hb : n < 10
    · have h10 : n / 10 = 0 := by omega
      rw [h10]
      refine Ev.step (f := fun _ => some (strOfNums (numsOf (UInt8.ofNat (48 + n % 10) :: acc)))) (fun k => ?_) ?_
      · simp only [tattleref0_Decimal.l0]
        rw [if_neg (by decide), if_neg (by simp [numsOf]; omega), if_neg (by omega)]
      · rw [strOf_nums, Lx.decL_small hb, show n % 10 = n from by omega]; exact Ev.now _
    · rw [Lx.decL_big hb, List.append_assoc]
      cases k with
      | zero => simp at hk1; omega
      | succ k =>
        exact ih (n / 10) (by omega) (UInt8.ofNat (48 + n % 10) :: acc) (by omega) (by omega) ⟨k, by rw [Nat.pow_succ] at hk1; omega, by simp; omega⟩
theorem dec_ev (n : Nat) (hn : n < 1000000000000000) : Ev (fun k => tattleref0_Decimal.f k (n : Int)) (ba (Lx.decL n)) := by
  unfold tattleref0_Decimal.f
  refine Ev.congr (f := fun k => tattleref0_Decimal.j0 k (n : Int) (n : Int)) (fun k => by rw [if_neg (by omega), u64w _ (by omega) (by omega)]) ?_
  refine Ev.step (f := fun k => tattleref0_Decimal.l0 k (n : Int) (n : Int) (numsOf [])) (fun k => by simp only [tattleref0_Decimal.j0]; rfl) ?_
  rcases Nat.eq_zero_or_pos n with rfl | hp
  · refine Ev.step (f := fun k => tattleref0_Decimal.l0 k 0 0 (numsOf [48])) (fun k => ?_) ?_
    · simp only [tattleref0_Decimal.l0]; rfl
    · refine Ev.step (f := fun _ => some (strOfNums (numsOf [48]))) (fun k => ?_) ?_
      · simp only [tattleref0_Decimal.l0]; rfl
      · rw [strOf_nums, Lx.decL_small (by decide)]; exact Ev.now _
  · have := decLoop_ev n (by omega) n [] hn hp ⟨15, by omega, by decide⟩
    rw [List.append_nil] at this; exact this
theorem written_ev (t : Lx.Tok) (a : Int) (hv : Lx.Valid t) : Ev (fun k => tattlelaw13_written.f k t.kind (ba t.text) t.int a) (ba (Lx.wr t)) := by
  rcases hv with ⟨hk, hn, hi⟩ | ⟨hk, ht, h1, h2⟩ | ⟨hk, hl, hi⟩ | ⟨hk, hi, hm⟩
  · have hw : Lx.wr t = t.text := by unfold Lx.wr; rw [hk]; rfl
    rw [hw, hk]
    refine Ev.congr (f := fun _ => some (ba t.text)) (fun k => ?_) (Ev.now _)
    simp only [tattlelaw13_written.f]; rw [if_neg (by decide), if_neg (by decide)]
  · by_cases hneg : t.int < 0
    · have hw : Lx.wr t = 45 :: Lx.decL (-t.int).toNat := by unfold Lx.wr; rw [hk, if_pos rfl, if_pos hneg]
      obtain ⟨n, hn⟩ : ∃ n : Nat, -t.int = n := ⟨(-t.int).toNat, by omega⟩
      have hd := dec_ev n (by omega)
      have hlen := Lx.decL_len n 14 (by omega)
      rw [hw, hk, hn, Int.toNat_natCast]
      refine Ev.congr (f := fun k => (tattleref0_Decimal.f k (n : Int)).bind fun x => (if 1 + x.size ≤ 9223372036854775807 then (some ((⟨#[45]⟩ : ByteArray) ++ x)) else none)) (fun k => ?_) ?_
      · simp only [tattlelaw13_written.f]; rw [if_pos trivial, if_pos hneg, w64 (by omega) (by omega), hn]
      · refine Ev.bind (f := fun _ x => (if 1 + x.size ≤ 9223372036854775807 then (some ((⟨#[45]⟩ : ByteArray) ++ x)) else none)) hd ?_
        rw [if_pos (by rw [ba_size]; omega), show (⟨#[45]⟩ : ByteArray) = ba [45] from rfl, ba_append]; exact Ev.now _
    · have hw : Lx.wr t = Lx.decL t.int.toNat := by unfold Lx.wr; rw [hk, if_pos rfl, if_neg hneg]
      obtain ⟨n, hn⟩ : ∃ n : Nat, t.int = n := ⟨t.int.toNat, by omega⟩
      have hd := dec_ev n (by omega)
      rw [hw, hk, hn, Int.toNat_natCast]
      refine Ev.congr (f := fun k => (tattleref0_Decimal.f k (n : Int)).bind fun x => some x) (fun k => ?_) ?_
      · simp only [tattlelaw13_written.f]; rw [if_pos trivial, if_neg (by omega)]
      · exact Ev.bind (f := fun _ x => some x) hd (Ev.now _)
  · have hw : Lx.wr t = wrT t.text := by unfold Lx.wr; rw [hk]; rfl
    rw [hw, hk]
    have := written_text_ev (ba t.text) t.int a (by rw [ba_size]; omega)
    rw [bs_ba] at this; exact this
  · have hw : Lx.wr t = t.text := by unfold Lx.wr; rw [hk]; rfl
    rw [hw, hk]
    refine Ev.congr (f := fun _ => some (ba t.text)) (fun k => ?_) (Ev.now _)
    simp only [tattlelaw13_written.f]; rw [if_neg (by decide), if_neg (by decide)]
theorem written_any (t : Lx.Tok) (a : Int) (w : World) (hv : Lx.Valid t) : Calls Tryd.prog 13 #[.agg #[.int .i64 t.kind, .string (ba t.text), .int .i64 t.int, .int .i64 a]] w fun e w' => e = .returned (.string (ba (Lx.wr t))) ∧ Below w.heap.size w w' := by
  obtain ⟨k, hk⟩ := (written_ev t a hv).rounds
  exact tattlelaw13_written.calls k _ _ _ _ _ w hk
end Go.Proofs.YtapbpmpeikobcaaDoor.Q
