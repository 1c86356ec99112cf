/- LexForms answers true: the plain law under its printed walk (turned by mend.forms.py). No condition. -/
import Derived.Laws.BitsLemmas
import Derived.Laws.Bits64
import Derived.Test.YtapbpmpeikobcaaDoorQ8
import Derived.Test.YtapbpmpeikobcaaDoorHLaw6
import Derived.Test.YtapbpmpeikobcaaDoorHLaw7
import Derived.Test.YtapbpmpeikobcaaDoorHLaw4
set_option linter.unusedVariables false
set_option linter.unusedSimpArgs false
namespace Go.Proofs.YtapbpmpeikobcaaDoor.Lx
open Go.Proofs.YtapbpmpeikobcaaDoor.Q (wrT token_wrT escs unesc_escs)
def rep (n : Nat) (c : UInt8) : List UInt8 := List.replicate n c
theorem rep_len (n : Nat) (c : UInt8) : (rep n c).length = n := by simp [rep]
theorem rep_snoc (n : Nat) (c : UInt8) : rep n c ++ [c] = rep (n + 1) c := by unfold rep; rw [List.replicate_succ']
theorem rep_all (n : Nat) (c : UInt8) (p : UInt8 → Bool) (h : p c = true) : (rep n c).all p = true := by
  unfold rep; rw [List.all_eq_true]; intro x hx; rw [(List.mem_replicate.1 hx).2]; exact h
theorem token_long (n : Nat) (q : List UInt8) (h1 : 1 ≤ n) (hq : run isWord q = 0) : token (rep n 98 ++ q) = if n ≤ 32 then .ok (0, rep n 98, 0, n) else .error 1300 := by
  obtain ⟨m, rfl⟩ : ∃ m, n = m + 1 := ⟨n - 1, by omega⟩
  have hr : run isWord (rep (m + 1) 98 ++ q) = m + 1 := by rw [run_all_app _ _ (rep_all _ _ _ (by decide)), hq, rep_len]
  have ht : (rep (m + 1) 98 ++ q).take (m + 1) = rep (m + 1) 98 := by
    have := List.take_left (l₁ := rep (m + 1) 98) (l₂ := q)
    rwa [rep_len] at this
  have e : rep (m + 1) 98 ++ q = 98 :: (rep m 98 ++ q) := rfl
  rw [e] at hr ht ⊢
  simp only [token]
  rw [if_pos (by decide), hr, ht]
theorem tokens_long (n : Nat) (h1 : 1 ≤ n) (h2 : n ≤ 100) : (n ≤ 32 ∧ ∃ ts, tokens (rep n 98 ++ 32 :: rep n 98) = .ok ts ∧ ts.length = 2) ∨ (32 < n ∧ tokens (rep n 98 ++ 32 :: rep n 98) = .error 1300) := by
  obtain ⟨m, rfl⟩ : ∃ m, n = m + 1 := ⟨n - 1, by omega⟩
  have t1 := token_long (m + 1) (32 :: rep (m + 1) 98) h1 (run_no (by decide))
  have t2 := token_long (m + 1) [] h1 rfl
  have e : rep (m + 1) 98 ++ 32 :: rep (m + 1) 98 = 98 :: (rep m 98 ++ 32 :: rep (m + 1) 98) := rfl
  have hsz : ¬ 65536 < (rep (m + 1) 98 ++ 32 :: rep (m + 1) 98).length := by rw [List.length_append, List.length_cons, rep_len]; omega
  have hd : (rep (m + 1) 98 ++ 32 :: rep (m + 1) 98).drop (m + 1) = 32 :: rep (m + 1) 98 := by
    have := List.drop_left (l₁ := rep (m + 1) 98) (l₂ := 32 :: rep (m + 1) 98)
    rwa [rep_len] at this
  by_cases h : m + 1 ≤ 32
  · rw [if_pos h] at t1 t2
    refine .inl ⟨h, [⟨0, rep (m + 1) 98, 0, 0⟩, ⟨0, rep (m + 1) 98, 0, m + 2⟩], ?_, ?_⟩
    · unfold tokens
      rw [if_neg hsz]
      have hL : L 0 (rep (m + 1) 98 ++ 32 :: rep (m + 1) 98) = .ok [⟨0, rep (m + 1) 98, 0, 0⟩, ⟨0, rep (m + 1) 98, 0, m + 2⟩] := by
        rw [e] at t1 hd ⊢
        rw [L_tok (by decide) (by decide) t1, hd, L_blank (by decide)]
        rw [List.append_nil] at t2
        have e2 : rep (m + 1) 98 = 98 :: rep m 98 := rfl
        rw [e2] at t2 ⊢
        rw [L_tok (by decide) (by decide) t2]
        have hd2 : (98 :: rep m 98).drop (m + 1) = [] := by apply List.drop_eq_nil_of_le; simp [rep]
        rw [hd2, L_nil]
        simp [pre]
      rw [hL]; rfl
    · rfl
  · rw [if_neg h] at t1
    refine .inr ⟨by omega, ?_⟩
    unfold tokens
    rw [if_neg hsz]
    rw [e] at t1 ⊢
    rw [L_err (by decide) (by decide) t1]
theorem escs_zeros (n : Nat) : escs (rep n 0) = rep n 0 := by
  unfold escs rep
  induction n with
  | zero => rfl
  | succ n ih => rw [List.replicate_succ, List.flatMap_cons, ih]; rfl
theorem tokens_text (n : Nat) (h2 : n ≤ 1000) : (n ≤ 256 ∧ ∃ ts, tokens (34 :: (rep n 0 ++ [34])) = .ok ts ∧ ts.length = 1) ∨ (256 < n ∧ tokens (34 :: (rep n 0 ++ [34])) = .error 1301) := by
  have hu := unesc_escs [] (rep n 0)
  rw [escs_zeros] at hu
  have hsz : ¬ 65536 < (34 :: (rep n 0 ++ [34])).length := by simp [rep]; omega
  by_cases h : n ≤ 256
  · refine .inl ⟨h, [⟨2, rep n 0, 0, 0⟩], ?_, rfl⟩
    have hL := Go.Proofs.YtapbpmpeikobcaaDoor.Q.L_wrT 0 (rep n 0) [] (by rw [rep_len]; exact h)
    unfold wrT at hL
    rw [escs_zeros, List.append_nil, L_nil] at hL
    unfold tokens; rw [if_neg hsz, hL]; rfl
  · refine .inr ⟨by omega, ?_⟩
    have ht : token (34 :: (rep n 0 ++ [34])) = .error 1301 := by
      simp only [token]
      rw [if_neg (by decide), if_neg (by decide), if_neg (by decide), if_pos (by decide), hu]
      simp only []
      rw [if_neg (by rw [rep_len]; exact h)]
    unfold tokens; rw [if_neg hsz, L_err (by decide) (by decide) ht]
theorem L_many : ∀ (m p : Nat), ∃ ts, L p (rep m 123) = .ok ts ∧ ts.length = m
  | 0, p => ⟨[], rfl, rfl⟩
  | m + 1, p => by
    obtain ⟨ts, h, hl⟩ := L_many m (p + 1)
    have ht : token (123 :: rep m 123) = .ok (3, [123], 0, 1) := by
      simp only [token]
      rw [if_neg (by decide), if_neg (by decide), if_neg (by decide), if_neg (by decide), if_pos (by decide)]
    refine ⟨⟨3, [123], 0, p⟩ :: ts, ?_, by simp [hl]⟩
    have e : rep (m + 1) 123 = 123 :: rep m 123 := rfl
    rw [e, L_tok (by decide) (by decide) ht]
    show pre _ (L (p + 1) (rep m 123)) = _
    rw [h]; rfl
theorem tokens_many (m : Nat) (h : m ≤ 60000) : (m ≤ 2048 ∧ ∃ ts, tokens (rep m 123) = .ok ts ∧ ts.length = m) ∨ (2048 < m ∧ tokens (rep m 123) = .error 1302) := by
  obtain ⟨ts, hL, hl⟩ := L_many m 0
  by_cases hm : m ≤ 2048
  · exact .inl ⟨hm, ts, by unfold tokens; rw [if_neg (by rw [rep_len]; omega), hL]; simp only []; rw [if_neg (by omega)], hl⟩
  · exact .inr ⟨by omega, by unfold tokens; rw [if_neg (by rw [rep_len]; omega), hL]; simp only []; rw [if_pos (by omega)]⟩
end Go.Proofs.YtapbpmpeikobcaaDoor.Lx
namespace Go.Proofs.YtapbpmpeikobcaaDoor.Q
open Go.RowKit Go.Proofs.YtapbpmpeikobcaaDoorW.PrintWords Go.Proofs.YtapbpmpeikobcaaDoorW.PrintLast Go.Proofs.YtapbpmpeikobcaaDoorW.PrintMore
open Lx (rep)
theorem mask_rangeF (a : Int) (m : Nat) (hm : m < 4611686018427387904) : 0 ≤ Go.bits .and .i64 a (m : Int) ∧ Go.bits .and .i64 a (m : Int) ≤ m := by
  have hb : BitVec.ofInt IntKind.i64.bits (m : Int) = BitVec.ofNat IntKind.i64.bits m := BitVec.ofInt_natCast _ _
  have hm' : m % 2 ^ IntKind.i64.bits = m := Nat.mod_eq_of_lt (Nat.lt_of_lt_of_le hm (by decide +kernel))
  have e : Go.bits .and .i64 a (m : Int) = IntKind.i64.wrap (((BitVec.ofInt IntKind.i64.bits a).toNat &&& m : Nat) : Int) := by
    show IntKind.i64.wrap (((BitVec.ofInt IntKind.i64.bits a &&& BitVec.ofInt IntKind.i64.bits (m : Int)).toNat : Nat) : Int) = _
    rw [hb, BitVec.toNat_and, BitVec.toNat_ofNat, hm']
  have hle : (BitVec.ofInt IntKind.i64.bits a).toNat &&& m ≤ m := Nat.and_le_right
  rw [e]
  generalize (BitVec.ofInt IntKind.i64.bits a).toNat &&& m = y at hle ⊢
  rw [IntKind.wrap_i64]
  omega
theorem mask7 (a : Int) : 0 ≤ Go.bits .and .i64 a 7 ∧ Go.bits .and .i64 a 7 ≤ 7 := mask_rangeF a 7 (by omega)
theorem mask15 (a : Int) : 0 ≤ Go.bits .and .i64 a 15 ∧ Go.bits .and .i64 a 15 ≤ 15 := mask_rangeF a 15 (by omega)
theorem rest17 (a : Int) : 0 ≤ wrap64 (Int.tmod (IntKind.u64.wrap a) 17) ∧ wrap64 (Int.tmod (IntKind.u64.wrap a) 17) < 17 := by
  have e : Int.tmod (IntKind.u64.wrap a) 17 = (IntKind.u64.wrap a) % 17 := by rw [IntKind.wrap_u64]; exact tmod_of_emod _ _
  rw [e]
  have h1 := Int.emod_nonneg (IntKind.u64.wrap a) (show (17 : Int) ≠ 0 by omega)
  have h2 := Int.emod_lt_of_pos (IntKind.u64.wrap a) (show (0 : Int) < 17 by omega)
  rw [w64 (by omega) (by omega)]
  exact ⟨h1, h2⟩
def badL : List ByteArray := [(⟨#[37]⟩ : ByteArray), (⟨#[97, 46, 98]⟩ : ByteArray), (⟨#[46, 46]⟩ : ByteArray), (⟨#[45]⟩ : ByteArray), (⟨#[45, 45, 49]⟩ : ByteArray), (⟨#[49, 97]⟩ : ByteArray), (⟨#[49, 95]⟩ : ByteArray), (⟨#[49, 50, 51, 52, 53, 54, 55, 56, 57, 48, 49, 50, 51, 52, 53, 54]⟩ : ByteArray), (⟨#[45, 49, 50, 51, 52, 53, 54, 55, 56, 57, 48, 49, 50, 51, 52, 53, 54]⟩ : ByteArray), (⟨#[59]⟩ : ByteArray), (⟨#[0]⟩ : ByteArray), (⟨#[195, 169]⟩ : ByteArray), (⟨#[34]⟩ : ByteArray), (⟨#[34, 97, 10, 34]⟩ : ByteArray), (⟨#[34, 92, 120, 34]⟩ : ByteArray), (⟨#[34, 92]⟩ : ByteArray), (⟨#[97, 32, 34, 98]⟩ : ByteArray)]
theorem bad_f (x : Int) (h0 : 0 ≤ x) (h1 : x < 17) : 4 + (rdOf ByteArray.empty badL x).size ≤ 100 ∧ lex_Tokens.f ((⟨#[97, 32, 123, 32]⟩ : ByteArray) ++ rdOf ByteArray.empty badL x) = some ([], if x ≥ 12 then 1301 else 1300) := by
  have : x = 0 ∨ x = 1 ∨ x = 2 ∨ x = 3 ∨ x = 4 ∨ x = 5 ∨ x = 6 ∨ x = 7 ∨ x = 8 ∨ x = 9 ∨ x = 10 ∨ x = 11 ∨ x = 12 ∨ x = 13 ∨ x = 14 ∨ x = 15 ∨ x = 16 := by omega
  rcases this with rfl | rfl | rfl | rfl | rfl | rfl | rfl | rfl | rfl | rfl | rfl | rfl | rfl | rfl | rfl | rfl | rfl <;> exact ⟨by decide, rfl⟩
theorem long_f (n : Nat) (h1 : 1 ≤ n) (h2 : n ≤ 100) : ∃ ts e, lex_Tokens.f ((ba (rep n 98) ++ (⟨#[32]⟩ : ByteArray)) ++ ba (rep n 98)) = some (ts, e) ∧ ((n ≤ 32 ∧ ts.length = 2 ∧ e = 0) ∨ (32 < n ∧ e = 1300)) := by
  have e : (ba (rep n 98) ++ (⟨#[32]⟩ : ByteArray)) ++ ba (rep n 98) = ba (rep n 98 ++ 32 :: rep n 98) := by
    rw [show (⟨#[32]⟩ : ByteArray) = ba [32] from rfl, ba_append, ba_append, List.append_assoc]; rfl
  rw [e]
  rcases Lx.tokens_long n h1 h2 with ⟨h, ts, ht, hl⟩ | ⟨h, ht⟩
  · exact ⟨ts.map tk, 0, f_ok (by rw [bs_ba]; exact ht), .inl ⟨h, by rw [List.length_map]; exact hl, rfl⟩⟩
  · exact ⟨[], 1300, f_err (by rw [bs_ba]; exact ht), .inr ⟨h, rfl⟩⟩
theorem text_f (n : Nat) (h2 : n ≤ 1000) : ∃ ts e, lex_Tokens.f (((⟨#[34]⟩ : ByteArray) ++ ba (rep n 0)) ++ (⟨#[34]⟩ : ByteArray)) = some (ts, e) ∧ ((n ≤ 256 ∧ ts.length = 1 ∧ e = 0) ∨ (256 < n ∧ e = 1301)) := by
  have e : ((⟨#[34]⟩ : ByteArray) ++ ba (rep n 0)) ++ (⟨#[34]⟩ : ByteArray) = ba (34 :: (rep n 0 ++ [34])) := by
    rw [show (⟨#[34]⟩ : ByteArray) = ba [34] from rfl, ba_append, ba_append]; rfl
  rw [e]
  rcases Lx.tokens_text n h2 with ⟨h, ts, ht, hl⟩ | ⟨h, ht⟩
  · exact ⟨ts.map tk, 0, f_ok (by rw [bs_ba]; exact ht), .inl ⟨h, by rw [List.length_map]; exact hl, rfl⟩⟩
  · exact ⟨[], 1301, f_err (by rw [bs_ba]; exact ht), .inr ⟨h, rfl⟩⟩
theorem many_f (m : Nat) (h2 : m ≤ 60000) : ∃ ts e, lex_Tokens.f (ba (rep m 123)) = some (ts, e) ∧ ((m ≤ 2048 ∧ ts.length = m ∧ e = 0) ∨ (2048 < m ∧ ts.length = 0 ∧ e = 1302)) := by
  rcases Lx.tokens_many m h2 with ⟨h, ts, ht, hl⟩ | ⟨h, ht⟩
  · exact ⟨ts.map tk, 0, f_ok (by rw [bs_ba]; exact ht), .inl ⟨h, by rw [List.length_map]; exact hl, rfl⟩⟩
  · exact ⟨[], 1302, f_err (by rw [bs_ba]; exact ht), .inr ⟨h, rfl, rfl⟩⟩
theorem exit_ev (x7 : Int) (x10 : ByteArray) (x12 : List S37) (x13 : Int) (x14 : ByteArray) (x15 : List S37) (x16 : Int) (m : Nat) (hm : m ≤ 60000)
    (hA : (x10.size ≤ 32 ∧ x12.length = 2 ∧ x13 = 0) ∨ (32 < x10.size ∧ x13 = 1300)) (hB : (x14.size ≤ 256 ∧ x15.length = 1 ∧ x16 = 0) ∨ (256 < x14.size ∧ x16 = 1301)) :
    Ev (fun k => tattlelaw13_LexForms.l1 k x7 [] x7 x10 x12 x13 x14 x15 x16 (ba (rep m 123)) (m : Int) (m : Int)) true := by
  obtain ⟨ts, e, hf, hC⟩ := many_f m hm
  refine Ev.step (f := fun _ => some true) (fun k => ?_) (Ev.now _)
  simp only [tattlelaw13_LexForms.l1]
  rw [if_neg (by omega), hf]
  simp only [Option.bind_some, num_f]
  rcases hA with ⟨a1, a2, rfl⟩ | ⟨a1, rfl⟩ <;> rcases hB with ⟨b1, b2, rfl⟩ | ⟨b1, rfl⟩ <;> rcases hC with ⟨c1, c2, rfl⟩ | ⟨c1, c2, rfl⟩
  all_goals
    (first | have a3 : ((x10.size : Int) ≤ 32) = True := eq_true (by omega) | have a3 : ((x10.size : Int) ≤ 32) = False := eq_false (by omega))
    (first | have b3 : ((x14.size : Int) ≤ 256) = True := eq_true (by omega) | have b3 : ((x14.size : Int) ≤ 256) = False := eq_false (by omega))
    (first | have c3 : ((m : Int) ≤ 2048) = True := eq_true (by omega) | have c3 : ((m : Int) ≤ 2048) = False := eq_false (by omega))
    simp [*]
theorem l1_ev (x7 : Int) (x10 : ByteArray) (x12 : List S37) (x13 : Int) (x14 : ByteArray) (x15 : List S37) (x16 : Int) (m : Nat) (hm : m ≤ 60000)
    (hA : (x10.size ≤ 32 ∧ x12.length = 2 ∧ x13 = 0) ∨ (32 < x10.size ∧ x13 = 1300)) (hB : (x14.size ≤ 256 ∧ x15.length = 1 ∧ x16 = 0) ∨ (256 < x14.size ∧ x16 = 1301)) (d : Nat) :
    ∀ i : Nat, i + d = m → Ev (fun k => tattlelaw13_LexForms.l1 k x7 [] x7 x10 x12 x13 x14 x15 x16 (ba (rep i 123)) (m : Int) (i : Int)) true := by
  induction d with
  | zero => intro i hi; rw [show i = m from by omega]; exact exit_ev x7 x10 x12 x13 x14 x15 x16 m hm hA hB
  | succ d ih =>
    intro i hi
    refine Ev.step (f := fun k => tattlelaw13_LexForms.l1 k x7 [] x7 x10 x12 x13 x14 x15 x16 (ba (rep (i + 1) 123)) (m : Int) ((i + 1 : Nat) : Int)) (fun k => ?_) (ih (i + 1) (by omega))
    simp only [tattlelaw13_LexForms.l1]
    rw [if_pos (by omega), if_pos (by rw [ba_size, Lx.rep_len]; omega), show (⟨#[123]⟩ : ByteArray) = ba [123] from rfl, ba_append, Lx.rep_snoc, w64 (by omega) (by omega)]; rfl
theorem zeros_str (n : Nat) : strOfNums (List.replicate n 0) = ba (rep n 0) := by
  rw [← strOf_nums]; congr 1; unfold numsOf rep; rw [List.map_replicate]; rfl
theorem l0_ev (x1 x7 : Int) (d : Nat) : ∀ i : Nat, (i : Int) + d = 29 + Go.bits .and .i64 x1 7 → Ev (fun k => tattlelaw13_LexForms.l0 k x1 x7 [] x7 (ba (rep i 98)) (i : Int)) true := by
  have h7 := mask7 x1
  have h15 := mask15 x1
  have w1 : wrap64 (29 + Go.bits .and .i64 x1 7) = 29 + Go.bits .and .i64 x1 7 := w64 (by omega) (by omega)
  have w2 : wrap64 (253 + Go.bits .and .i64 x1 7) = 253 + Go.bits .and .i64 x1 7 := w64 (by omega) (by omega)
  have w3 : wrap64 (2040 + Go.bits .and .i64 x1 15) = 2040 + Go.bits .and .i64 x1 15 := w64 (by omega) (by omega)
  induction d with
  | zero =>
    intro i hi
    obtain ⟨ts, e, hf, hA⟩ := long_f i (by omega) (by omega)
    obtain ⟨n, hn⟩ : ∃ n : Nat, 253 + Go.bits .and .i64 x1 7 = n := ⟨(253 + Go.bits .and .i64 x1 7).toNat, by omega⟩
    obtain ⟨m, hm⟩ : ∃ m : Nat, 2040 + Go.bits .and .i64 x1 15 = m := ⟨(2040 + Go.bits .and .i64 x1 15).toNat, by omega⟩
    obtain ⟨ts2, e2, hf2, hB⟩ := text_f n (by omega)
    refine Ev.step (f := fun k => tattlelaw13_LexForms.l1 k x7 [] x7 (ba (rep i 98)) ts e (ba (rep n 0)) ts2 e2 (ba (rep 0 123)) (m : Int) ((0 : Nat) : Int)) (fun k => ?_) ?_
    · simp only [tattlelaw13_LexForms.l0]
      rw [w1, if_neg (by omega), if_pos (by rw [ba_size, Lx.rep_len]; omega), if_pos (by rw [ByteArray.size_append, ba_size, Lx.rep_len]; show i + 1 + i ≤ _; omega), hf, Option.bind_some, w2, w3, hn, hm]
      rw [if_pos (by omega), if_pos (by omega), Option.bind_some, Int.toNat_natCast, zeros_str, if_pos (by rw [ba_size, Lx.rep_len]; omega), if_pos (by rw [ByteArray.size_append, ba_size, Lx.rep_len]; show 1 + n + 1 ≤ _; omega), hf2]; rfl
    · refine l1_ev x7 _ _ _ _ _ _ m (by omega) ?_ ?_ m 0 (by omega)
      · rw [ba_size, Lx.rep_len]; exact hA
      · rw [ba_size, Lx.rep_len]; exact hB
  | succ d ih =>
    intro i hi
    refine Ev.step (f := fun k => tattlelaw13_LexForms.l0 k x1 x7 [] x7 (ba (rep (i + 1) 98)) ((i + 1 : Nat) : Int)) (fun k => ?_) (ih (i + 1) (by omega))
    simp only [tattlelaw13_LexForms.l0]
    rw [w1, if_pos (by omega), if_pos (by rw [ba_size, Lx.rep_len]; omega), show (⟨#[98]⟩ : ByteArray) = ba [98] from rfl, ba_append, Lx.rep_snoc, w64 (by omega) (by omega)]; rfl
theorem j0_ev (x1 x6 : Int) (h0 : 0 ≤ x6) (h1 : x6 < 17) : Ev (fun k => tattlelaw13_LexForms.j0 k x1 badL x6 (if x6 ≥ 12 then 1301 else 1300)) true := by
  obtain ⟨hb, hf⟩ := bad_f x6 h0 h1
  have h7 := mask7 x1
  refine Ev.step (f := fun k => tattlelaw13_LexForms.l0 k x1 (if x6 ≥ 12 then 1301 else 1300) [] (if x6 ≥ 12 then 1301 else 1300) (ba (rep 0 98)) ((0 : Nat) : Int)) (fun k => ?_) ?_
  · simp only [tattlelaw13_LexForms.j0]
    rw [if_pos h0, if_pos (by show x6 < 17; exact h1), if_pos (by omega), hf]; rfl
  · exact l0_ev x1 _ (29 + Go.bits .and .i64 x1 7).toNat 0 (by omega)
theorem forms_pure : tattlelaw13_LexForms.Pure := by
  intro a0 a1 _ _
  obtain ⟨h0, h1⟩ := rest17 a0
  have key : Ev (fun k => tattlelaw13_LexForms.f k a0 a1) true := by
    unfold tattlelaw13_LexForms.f
    refine Ev.bind (f := fun k t137 => (if t137 = true then ((some badL).bind fun y138 => (if (wrap64 (Int.tmod (IntKind.u64.wrap (a0)) 17)) ≥ 12 then (tattlelaw13_LexForms.j0 k a1 y138 (wrap64 (Int.tmod (IntKind.u64.wrap (a0)) 17)) 1301) else (tattlelaw13_LexForms.j0 k a1 y138 (wrap64 (Int.tmod (IntKind.u64.wrap (a0)) 17)) 1300))) else (some false))) awake_ev ?_
    refine Ev.congr (fun k => if_pos rfl) ?_
    have hj := j0_ev a1 _ h0 h1
    refine Ev.congr (fun k => ?_) hj
    rw [Option.bind_some]
    split <;> rfl
  exact key.rounds
theorem forms_walk (a0 : Int) (a1 : Int) (w : World) (w0 : (Lit.int .i64 a0).wf = true) (w1 : (Lit.int .i64 a1).wf = true) :
    Calls Tryd.prog 5 #[.int .i64 a0, .int .i64 a1] w fun e w' => e = .returned (.bool true) ∧ Below w.heap.size w w' := tattlelaw13_LexForms.walk forms_pure a0 a1 w w0 w1
end Go.Proofs.YtapbpmpeikobcaaDoor.Q
