/- What the lexer's token leaves: one token more, or an error. Condition: a text of at most 70000 bytes. -/
import Derived.Test.YtapbpmpeikobcaaDoorHLex6
import Derived.StillTailTactics
set_option linter.unusedVariables false
set_option linter.unusedSimpArgs false
namespace Go.Proofs.YtapbpmpeikobcaaDoor.Q
open Go.RowKit Go.Proofs.YtapbpmpeikobcaaDoorW.PrintWords Go.Proofs.YtapbpmpeikobcaaDoorW.PrintLast Go.Proofs.YtapbpmpeikobcaaDoorW.PrintMore

def TokPost (B : Nat) (w : World) (g : Nat) (s : ByteArray) (p : Nat) (ts : List Lx.Tok) (r : Except Int (Int × List UInt8 × Int × Nat)) : Ending → World → Prop := fun e w' =>
  match r with
  | .error x => LxErr B w x e w'
  | .ok (kd, tx, i, n) => LxPost B w g s (p + n) (ts ++ [⟨kd, tx, i, p⟩]) e w'
theorem LxPost.from {B : Nat} {w w1 w' : World} {g : Nat} {s : ByteArray} {q : Nat} {ts : List Lx.Tok} {e : Ending} (hb : Below B w w1) (h : LxPost B w1 g s q ts e w') : LxPost B w g s q ts e w' := ⟨h.1, h.2.1, hb.trans h.2.2⟩
theorem LxErr.from {B : Nat} {w w1 w' : World} {x : Int} {e : Ending} (hb : Below B w w1) (h : LxErr B w1 x e w') : LxErr B w x e w' := ⟨h.1, hb.trans h.2⟩
theorem tok_err {B : Nat} {w w1 w' : World} {g : Nat} {s : ByteArray} {p : Nat} {ts : List Lx.Tok} {r : Except Int (Int × List UInt8 × Int × Nat)} {x : Int} {e : Ending} (hr : r = .error x) (hb : Below B w w1) (h : LxErr B w1 x e w') : TokPost B w g s p ts r e w' := by subst hr; exact h.from hb
theorem tok_ok {B : Nat} {w w1 w' : World} {g : Nat} {s : ByteArray} {p q : Nat} {ts : List Lx.Tok} {r : Except Int (Int × List UInt8 × Int × Nat)} {kd i : Int} {tx : List UInt8} {n : Nat} {e : Ending} (hr : r = .ok (kd, tx, i, n)) (hq : p + n = q) (hb : Below B w w1) (h : LxPost B w1 g s q (ts ++ [⟨kd, tx, i, p⟩]) e w') : TokPost B w g s p ts r e w' := by subst hr; subst hq; exact h.from hb
set_option maxRecDepth 100000 in
theorem marks_all : ∀ a : Fin 256, decide (0 ≤ Lib.indexByte [123, 125, 40, 41, 58, 36, 64] (UInt8.ofNat a.val)) = Lx.isMark (UInt8.ofNat a.val) := by decide
set_option maxRecDepth 100000 in
theorem blanks_all : ∀ a : Fin 256, decide (0 ≤ Lib.indexByte [9, 10, 13, 32, 44] (UInt8.ofNat a.val)) = Lx.isBlank (UInt8.ofNat a.val) := by decide
theorem mark_index (c : UInt8) (w : World) : ∃ x : Int, decide (0 ≤ x) = Lx.isMark c ∧ Calls Tryd.prog 23 #[.string ⟨#[123, 125, 40, 41, 58, 36, 64]⟩, .int .u8 c.toNat] w fun e w' => e = .returned (.int .i64 x) ∧ w = w' := by
  refine ⟨_, ?_, (Tryd.strings_IndexByte ⟨#[123, 125, 40, 41, 58, 36, 64]⟩ (c.toNat : Int) w).mono fun e w' h => ⟨h.1, h.2.symm⟩⟩
  have := marks_all ⟨c.toNat, c.toNat_lt⟩
  simpa using this
theorem blank_index (c : UInt8) (w : World) : ∃ x : Int, decide (0 ≤ x) = Lx.isBlank c ∧ Calls Tryd.prog 23 #[.string ⟨#[9, 10, 13, 32, 44]⟩, .int .u8 c.toNat] w fun e w' => e = .returned (.int .i64 x) ∧ w = w' := by
  refine ⟨_, ?_, (Tryd.strings_IndexByte ⟨#[9, 10, 13, 32, 44]⟩ (c.toNat : Int) w).mono fun e w' h => ⟨h.1, h.2.symm⟩⟩
  have := blanks_all ⟨c.toNat, c.toNat_lt⟩
  simpa using this
theorem drop_extract (s : ByteArray) (p m : Nat) : bs (s.extract p m) = ((bs s).drop p).take (m - p) := by simp [bs]
theorem run_all (f : UInt8 → Bool) : ∀ l : List UInt8, (l.take (Lx.run f l)).all f = true
  | [] => rfl
  | c :: r => by
    unfold Lx.run
    split
    · rename_i h; simp only [List.take_succ_cons, List.all_cons, h, Bool.true_and]; exact run_all f r
    · rfl
theorem name_run {c : UInt8} {r : List UInt8} (hf : Lx.isFirst c = true) : Lx.nameB ((c :: r).take (Lx.run Lx.isWord (c :: r))) = decide (Lx.run Lx.isWord (c :: r) ≤ 32) := by
  have h2 : Lx.run Lx.isWord (c :: r) = Lx.run Lx.isWord r + 1 := Lx.run_yes (by unfold Lx.isWord; rw [hf]; rfl)
  have h3 := run_all Lx.isWord (c :: r)
  have h4 := Lx.run_le Lx.isWord r
  rw [h2] at h3 ⊢
  rw [List.take_succ_cons] at h3 ⊢
  simp only [Lx.nameB, hf, h3, Bool.and_true]
  rw [List.length_take, Nat.min_eq_left h4]
theorem digits_atoi : ∀ (l : List UInt8) (a : Nat), l.all Lx.isDigit = true → ∃ n : Nat, Lib.decFrom a l = some n ∧ (n : Int) = l.foldl (fun n c => n * 10 + ((c.toNat : Int) - 48)) (a : Int)
  | [], a, _ => ⟨a, by simp [Lib.decFrom], rfl⟩
  | c :: r, a, h => by
    simp only [List.all_cons, Bool.and_eq_true] at h
    obtain ⟨hc, hr⟩ := h
    simp [Lx.isDigit] at hc
    obtain ⟨n, h1, h2⟩ := digits_atoi r (a * 10 + (c.toNat - 48)) hr
    have hd : Lib.digitVal c = some (c.toNat - 48) := by unfold Lib.digitVal; rw [if_pos hc]
    refine ⟨n, ?_, ?_⟩
    · simp only [Lib.decFrom, hd]; exact h1
    · rw [h2, List.foldl_cons]; congr 1; omega
theorem digits_val {l : List UInt8} (h : l.all Lx.isDigit = true) (h0 : l ≠ []) : ∃ n : Nat, Lib.decNat l = some n ∧ (n : Int) = Lx.numVal l := by
  obtain ⟨n, h1, h2⟩ := digits_atoi l 0 h
  refine ⟨n, ?_, h2⟩
  unfold Lib.decNat; rw [if_neg (by simpa using h0)]; exact h1
theorem atoi_pos {c : UInt8} {r : List UInt8} (h : (c :: r).all Lx.isDigit = true) : Lib.atoi (c :: r) = some (Lx.numVal (c :: r)) := by
  obtain ⟨n, h1, h2⟩ := digits_val h (by simp)
  have hd : Lx.isDigit c = true := by simp at h; exact h.1
  simp [Lx.isDigit] at hd
  have e1 : (c == 45) = false := beq_eq_false_iff_ne.2 (by rintro rfl; simp at hd)
  have e2 : (c == 43) = false := beq_eq_false_iff_ne.2 (by rintro rfl; simp at hd)
  simp only [Lib.atoi, e1, e2, h1, Option.map_some, h2, Bool.false_eq_true, if_false]
theorem atoi_neg {r : List UInt8} (h : r.all Lx.isDigit = true) (h0 : r ≠ []) : Lib.atoi ((45 : UInt8) :: r) = some (-Lx.numVal r) := by
  obtain ⟨n, h1, h2⟩ := digits_val h h0
  simp [Lib.atoi, h1, h2]
set_option maxRecDepth 100000 in
theorem token_name (B g : Nat) (s : ByteArray) (p : Nat) (ts : List Lx.Tok) (w : World) (hs : s.size ≤ 70000) (h : LxSt B w g s p ts) (hl : ts.length ≤ 70000) (hp : p < s.size) (hf : Lx.isFirst s[p] = true) (hn : Lx.run Lx.isWord ((bs s).drop p) ≤ 32) :
    Calls Tryd.prog 24 #[.pointer (some ⟨g, 0, none⟩)] w (TokPost B w g s p ts (Lx.token ((bs s).drop p))) := by
  have HSt := Aside0.mk h
  obtain ⟨v, hI, hBg, hO⟩ := h
  obtain ⟨hc0, hc1, hc2, hf1, hf2⟩ := hI.cells
  have hd := bs_drop s p hp
  obtain ⟨T, hT⟩ : ∃ T, Lx.token ((bs s).drop p) = T := ⟨_, rfl⟩
  rw [hT]
  have HT := Aside0.mk hT; have HD := Aside0.mk hd; have HI := Aside0.mk hI; clear hT hd hI hO
  have hfc : ∀ w, Calls Tryd.prog 27 #[.int .u8 (s[p]).toNat] w fun e w' => e = .returned (.bool true) ∧ w' = w := fun w => by rw [← hf]; exact first_any _ w
  have HFC := Aside0.mk hfc; clear hfc
  obtain ⟨m, hm⟩ : ∃ m, p + Lx.run Lx.isWord ((bs s).drop p) = m := ⟨_, rfl⟩
  have hx : bs (s.extract p m) = ((bs s).drop p).take (Lx.run Lx.isWord ((bs s).drop p)) := by rw [drop_extract]; congr 1; omega
  have hnb : Lx.nameB (bs (s.extract p m)) = decide (Lx.run Lx.isWord ((bs s).drop p) ≤ 32) := by rw [hx, HD.out]; exact name_run hf
  have ht : T = .ok (0, bs (s.extract p m), 0, Lx.run Lx.isWord ((bs s).drop p)) := by
    rw [← HT.out]; conv => lhs; rw [HD.out]; unfold Lx.token
    simp only [hf, if_true]; rw [← HD.out, if_pos hn]; rw [hx]
  rw [decide_eq_true hn] at hnb
  have Ht := Aside0.mk ht; have Hm := Aside0.mk hm; have Hnb := Aside0.mk hnb; have Hx := Aside0.mk hx; clear ht hm hnb hx hf hn
  go_enter Tryd.func24, Tryd.ntmps24
  go_wp2_with fail
  go_quiet (fail)
  rename_i nq
  have hb1 : Below B w (w.drewN nq) := pw_below_drewN (Below.refl _ _) nq
  have hS1 : LxSt B (w.drewN nq) g s p ts := HSt.out.below (pw_below_drewN (Below.refl _ _) nq)
  have HB1 := Aside0.mk hb1; have HS1 := Aside0.mk hS1; clear hb1 hS1
  go_wp2_with (go_at_call 27; refine (HFC.out _).mono ?_; rintro e w' ⟨rfl, rfl⟩)
  refine (name_ok B g s p m ts _ hs HS1.out hl (by omega) Hm.out Hnb.out).mono ?_
  rintro e w2 ⟨rfl, h2, b2⟩
  have H2 := Aside0.mk h2; have B2 := Aside0.mk b2; clear b2 h2
  go_wp2_with fail
  try (simp only [Exit.inBlock, Exit.then])
  go_ret
  exact tok_ok Ht.out Hm.out HB1.out ⟨rfl, H2.out, B2.out⟩
set_option maxRecDepth 100000 in
theorem token_nameX (B g : Nat) (s : ByteArray) (p : Nat) (ts : List Lx.Tok) (w : World) (hs : s.size ≤ 70000) (h : LxSt B w g s p ts) (hl : ts.length ≤ 70000) (hp : p < s.size) (hf : Lx.isFirst s[p] = true) (hn : ¬ Lx.run Lx.isWord ((bs s).drop p) ≤ 32) :
    Calls Tryd.prog 24 #[.pointer (some ⟨g, 0, none⟩)] w (TokPost B w g s p ts (Lx.token ((bs s).drop p))) := by
  have HSt := Aside0.mk h
  obtain ⟨v, hI, hBg, hO⟩ := h
  obtain ⟨hc0, hc1, hc2, hf1, hf2⟩ := hI.cells
  have hd := bs_drop s p hp
  obtain ⟨T, hT⟩ : ∃ T, Lx.token ((bs s).drop p) = T := ⟨_, rfl⟩
  rw [hT]
  have HT := Aside0.mk hT; have HD := Aside0.mk hd; have HI := Aside0.mk hI; clear hT hd hI hO
  have hfc : ∀ w, Calls Tryd.prog 27 #[.int .u8 (s[p]).toNat] w fun e w' => e = .returned (.bool true) ∧ w' = w := fun w => by rw [← hf]; exact first_any _ w
  have HFC := Aside0.mk hfc; clear hfc
  obtain ⟨m, hm⟩ : ∃ m, p + Lx.run Lx.isWord ((bs s).drop p) = m := ⟨_, rfl⟩
  have hx : bs (s.extract p m) = ((bs s).drop p).take (Lx.run Lx.isWord ((bs s).drop p)) := by rw [drop_extract]; congr 1; omega
  have hnb : Lx.nameB (bs (s.extract p m)) = decide (Lx.run Lx.isWord ((bs s).drop p) ≤ 32) := by rw [hx, HD.out]; exact name_run hf
  have ht : T = .error 1300 := by
    rw [← HT.out]; conv => lhs; rw [HD.out]; unfold Lx.token
    simp only [hf, if_true]; rw [← HD.out, if_neg hn]
  rw [decide_eq_false hn] at hnb
  have Ht := Aside0.mk ht; have Hm := Aside0.mk hm; have Hnb := Aside0.mk hnb; have Hx := Aside0.mk hx; clear ht hm hnb hx hf hn
  go_enter Tryd.func24, Tryd.ntmps24
  go_wp2_with fail
  go_quiet (fail)
  rename_i nq
  have hb1 : Below B w (w.drewN nq) := pw_below_drewN (Below.refl _ _) nq
  have hS1 : LxSt B (w.drewN nq) g s p ts := HSt.out.below (pw_below_drewN (Below.refl _ _) nq)
  have HB1 := Aside0.mk hb1; have HS1 := Aside0.mk hS1; clear hb1 hS1
  go_wp2_with (go_at_call 27; refine (HFC.out _).mono ?_; rintro e w' ⟨rfl, rfl⟩)
  refine (name_bad B g s p m ts _ hs HS1.out (by omega) Hm.out Hnb.out).mono ?_
  rintro e w2 ⟨rfl, b2⟩
  have H2 := Aside0.mk trivial; have B2 := Aside0.mk b2; clear b2
  go_wp2_with fail
  try (simp only [Exit.inBlock, Exit.then])
  go_ret
  exact tok_err Ht.out HB1.out ⟨rfl, B2.out⟩
set_option maxRecDepth 100000 in
theorem token_num_neg_none (B g : Nat) (s : ByteArray) (p : Nat) (ts : List Lx.Tok) (w : World) (hs : s.size ≤ 70000) (h : LxSt B w g s p ts) (hl : ts.length ≤ 70000) (hp : p < s.size) (hf : Lx.isFirst s[p] = false) (h45 : (s[p]).toNat = 45) (hz : Lx.run Lx.isDigit ((bs s).drop (p + 1)) = 0) :
    Calls Tryd.prog 24 #[.pointer (some ⟨g, 0, none⟩)] w (TokPost B w g s p ts (Lx.token ((bs s).drop p))) := by
  have HSt := Aside0.mk h
  obtain ⟨v, hI, hBg, hO⟩ := h
  obtain ⟨hc0, hc1, hc2, hf1, hf2⟩ := hI.cells
  have hd := bs_drop s p hp
  obtain ⟨T, hT⟩ : ∃ T, Lx.token ((bs s).drop p) = T := ⟨_, rfl⟩
  rw [hT]
  have HT := Aside0.mk hT; have HD := Aside0.mk hd; have HI := Aside0.mk hI; clear hT hd hI hO
  have hfc : ∀ w, Calls Tryd.prog 27 #[.int .u8 (s[p]).toNat] w fun e w' => e = .returned (.bool false) ∧ w' = w := fun w => by rw [← hf]; exact first_any _ w
  have HFC := Aside0.mk hfc; clear hfc
  have e45 : (((s[p]).toNat : Int) == 45) = true := by simp; omega
  obtain ⟨m, hm⟩ : ∃ m, (p + 1) + Lx.run Lx.isDigit ((bs s).drop (p + 1)) = m := ⟨_, rfl⟩
  obtain ⟨r, hr⟩ : ∃ r, m + Lx.run Lx.isWord ((bs s).drop m) = r := ⟨_, rfl⟩
  have ht : T = .error 1300 := by
    rw [← HT.out]; conv => lhs; rw [HD.out]; unfold Lx.token
    simp only [hf, Bool.false_eq_true, if_false]
    rw [if_pos h45, if_pos]
    exact .inl hz
  have hle := Lx.run_le Lx.isDigit ((bs s).drop (p + 1))
  rw [List.length_drop, bs_length] at hle
  have hnum := fun w (h : LxSt B w g s p ts) => number_neg_none B g s p m r ts w hs h hl hp h45 hm hr (h0 := by omega)
  have Ht := Aside0.mk ht; have HN := Aside0.mk hnum; clear ht hnum hm hr hz hf h45 hle
  go_enter Tryd.func24, Tryd.ntmps24
  go_wp2_with fail
  go_quiet (fail)
  rename_i nq
  have hb1 : Below B w (w.drewN nq) := pw_below_drewN (Below.refl _ _) nq
  have hS1 : LxSt B (w.drewN nq) g s p ts := HSt.out.below (pw_below_drewN (Below.refl _ _) nq)
  have HB1 := Aside0.mk hb1; have HS1 := Aside0.mk hS1; clear hb1 hS1
  go_wp2_with (first | (go_at_call 27; refine (HFC.out _).mono ?_; rintro e w' ⟨rfl, rfl⟩))
  refine (HN.out _ HS1.out).mono ?_
  rintro e w2 ⟨rfl, b2⟩
  have B2 := Aside0.mk b2; clear b2
  go_wp2_with fail
  try (simp only [Exit.inBlock, Exit.then])
  go_ret
  exact tok_err Ht.out HB1.out ⟨rfl, B2.out⟩
set_option maxRecDepth 100000 in
theorem token_num_neg_long (B g : Nat) (s : ByteArray) (p : Nat) (ts : List Lx.Tok) (w : World) (hs : s.size ≤ 70000) (h : LxSt B w g s p ts) (hl : ts.length ≤ 70000) (hp : p < s.size) (hf : Lx.isFirst s[p] = false) (h45 : (s[p]).toNat = 45) (hz : ¬ Lx.run Lx.isDigit ((bs s).drop (p + 1)) = 0) (h15 : 15 < Lx.run Lx.isDigit ((bs s).drop (p + 1))) :
    Calls Tryd.prog 24 #[.pointer (some ⟨g, 0, none⟩)] w (TokPost B w g s p ts (Lx.token ((bs s).drop p))) := by
  have HSt := Aside0.mk h
  obtain ⟨v, hI, hBg, hO⟩ := h
  obtain ⟨hc0, hc1, hc2, hf1, hf2⟩ := hI.cells
  have hd := bs_drop s p hp
  obtain ⟨T, hT⟩ : ∃ T, Lx.token ((bs s).drop p) = T := ⟨_, rfl⟩
  rw [hT]
  have HT := Aside0.mk hT; have HD := Aside0.mk hd; have HI := Aside0.mk hI; clear hT hd hI hO
  have hfc : ∀ w, Calls Tryd.prog 27 #[.int .u8 (s[p]).toNat] w fun e w' => e = .returned (.bool false) ∧ w' = w := fun w => by rw [← hf]; exact first_any _ w
  have HFC := Aside0.mk hfc; clear hfc
  have e45 : (((s[p]).toNat : Int) == 45) = true := by simp; omega
  obtain ⟨m, hm⟩ : ∃ m, (p + 1) + Lx.run Lx.isDigit ((bs s).drop (p + 1)) = m := ⟨_, rfl⟩
  obtain ⟨r, hr⟩ : ∃ r, m + Lx.run Lx.isWord ((bs s).drop m) = r := ⟨_, rfl⟩
  have ht : T = .error 1300 := by
    rw [← HT.out]; conv => lhs; rw [HD.out]; unfold Lx.token
    simp only [hf, Bool.false_eq_true, if_false]
    rw [if_pos h45, if_pos]
    exact .inr (.inl h15)
  have hle := Lx.run_le Lx.isDigit ((bs s).drop (p + 1))
  rw [List.length_drop, bs_length] at hle
  have hnum := fun w (h : LxSt B w g s p ts) => number_neg_long B g s p m r ts w hs h hl hp h45 hm hr (h0 := by omega) (h15 := by omega)
  have Ht := Aside0.mk ht; have HN := Aside0.mk hnum; clear ht hnum hm hr hz hf h45 h15 hle
  go_enter Tryd.func24, Tryd.ntmps24
  go_wp2_with fail
  go_quiet (fail)
  rename_i nq
  have hb1 : Below B w (w.drewN nq) := pw_below_drewN (Below.refl _ _) nq
  have hS1 : LxSt B (w.drewN nq) g s p ts := HSt.out.below (pw_below_drewN (Below.refl _ _) nq)
  have HB1 := Aside0.mk hb1; have HS1 := Aside0.mk hS1; clear hb1 hS1
  go_wp2_with (first | (go_at_call 27; refine (HFC.out _).mono ?_; rintro e w' ⟨rfl, rfl⟩))
  refine (HN.out _ HS1.out).mono ?_
  rintro e w2 ⟨rfl, b2⟩
  have B2 := Aside0.mk b2; clear b2
  go_wp2_with fail
  try (simp only [Exit.inBlock, Exit.then])
  go_ret
  exact tok_err Ht.out HB1.out ⟨rfl, B2.out⟩
set_option maxRecDepth 100000 in
theorem token_num_neg_word (B g : Nat) (s : ByteArray) (p : Nat) (ts : List Lx.Tok) (w : World) (hs : s.size ≤ 70000) (h : LxSt B w g s p ts) (hl : ts.length ≤ 70000) (hp : p < s.size) (hf : Lx.isFirst s[p] = false) (h45 : (s[p]).toNat = 45) (hz : ¬ Lx.run Lx.isDigit ((bs s).drop (p + 1)) = 0) (h15 : ¬ 15 < Lx.run Lx.isDigit ((bs s).drop (p + 1))) (hw : 0 < Lx.run Lx.isWord ((bs s).drop ((p + 1) + Lx.run Lx.isDigit ((bs s).drop (p + 1))))) :
    Calls Tryd.prog 24 #[.pointer (some ⟨g, 0, none⟩)] w (TokPost B w g s p ts (Lx.token ((bs s).drop p))) := by
  have HSt := Aside0.mk h
  obtain ⟨v, hI, hBg, hO⟩ := h
  obtain ⟨hc0, hc1, hc2, hf1, hf2⟩ := hI.cells
  have hd := bs_drop s p hp
  obtain ⟨T, hT⟩ : ∃ T, Lx.token ((bs s).drop p) = T := ⟨_, rfl⟩
  rw [hT]
  have HT := Aside0.mk hT; have HD := Aside0.mk hd; have HI := Aside0.mk hI; clear hT hd hI hO
  have hfc : ∀ w, Calls Tryd.prog 27 #[.int .u8 (s[p]).toNat] w fun e w' => e = .returned (.bool false) ∧ w' = w := fun w => by rw [← hf]; exact first_any _ w
  have HFC := Aside0.mk hfc; clear hfc
  have e45 : (((s[p]).toNat : Int) == 45) = true := by simp; omega
  obtain ⟨m, hm⟩ : ∃ m, (p + 1) + Lx.run Lx.isDigit ((bs s).drop (p + 1)) = m := ⟨_, rfl⟩
  obtain ⟨r, hr⟩ : ∃ r, m + Lx.run Lx.isWord ((bs s).drop m) = r := ⟨_, rfl⟩
  have ht : T = .error 1300 := by
    rw [← HT.out]; conv => lhs; rw [HD.out]; unfold Lx.token
    simp only [hf, Bool.false_eq_true, if_false]
    rw [if_pos h45, if_pos]
    exact .inr (.inr (by rw [List.drop_drop]; exact hw))
  have hle := Lx.run_le Lx.isDigit ((bs s).drop (p + 1))
  rw [List.length_drop, bs_length] at hle
  have hnum := fun w (h : LxSt B w g s p ts) => number_neg_word B g s p m r ts w hs h hl hp h45 hm hr (h0 := by omega) (h15 := by omega) (hw := by rw [hm] at hw; omega)
  have Ht := Aside0.mk ht; have HN := Aside0.mk hnum; clear ht hnum hm hr hz hf h45 h15 hw hle
  go_enter Tryd.func24, Tryd.ntmps24
  go_wp2_with fail
  go_quiet (fail)
  rename_i nq
  have hb1 : Below B w (w.drewN nq) := pw_below_drewN (Below.refl _ _) nq
  have hS1 : LxSt B (w.drewN nq) g s p ts := HSt.out.below (pw_below_drewN (Below.refl _ _) nq)
  have HB1 := Aside0.mk hb1; have HS1 := Aside0.mk hS1; clear hb1 hS1
  go_wp2_with (first | (go_at_call 27; refine (HFC.out _).mono ?_; rintro e w' ⟨rfl, rfl⟩))
  refine (HN.out _ HS1.out).mono ?_
  rintro e w2 ⟨rfl, b2⟩
  have B2 := Aside0.mk b2; clear b2
  go_wp2_with fail
  try (simp only [Exit.inBlock, Exit.then])
  go_ret
  exact tok_err Ht.out HB1.out ⟨rfl, B2.out⟩
set_option maxRecDepth 100000 in
theorem token_num_neg_ok (B g : Nat) (s : ByteArray) (p : Nat) (ts : List Lx.Tok) (w : World) (hs : s.size ≤ 70000) (h : LxSt B w g s p ts) (hl : ts.length ≤ 70000) (hp : p < s.size) (hf : Lx.isFirst s[p] = false) (h45 : (s[p]).toNat = 45) (hz : ¬ Lx.run Lx.isDigit ((bs s).drop (p + 1)) = 0) (h15 : ¬ 15 < Lx.run Lx.isDigit ((bs s).drop (p + 1))) (hw : ¬ 0 < Lx.run Lx.isWord ((bs s).drop ((p + 1) + Lx.run Lx.isDigit ((bs s).drop (p + 1))))) :
    Calls Tryd.prog 24 #[.pointer (some ⟨g, 0, none⟩)] w (TokPost B w g s p ts (Lx.token ((bs s).drop p))) := by
  have HSt := Aside0.mk h
  obtain ⟨v, hI, hBg, hO⟩ := h
  obtain ⟨hc0, hc1, hc2, hf1, hf2⟩ := hI.cells
  have hd := bs_drop s p hp
  obtain ⟨T, hT⟩ : ∃ T, Lx.token ((bs s).drop p) = T := ⟨_, rfl⟩
  rw [hT]
  have HT := Aside0.mk hT; have HD := Aside0.mk hd; have HI := Aside0.mk hI; clear hT hd hI hO
  have hfc : ∀ w, Calls Tryd.prog 27 #[.int .u8 (s[p]).toNat] w fun e w' => e = .returned (.bool false) ∧ w' = w := fun w => by rw [← hf]; exact first_any _ w
  have HFC := Aside0.mk hfc; clear hfc
  have e45 : (((s[p]).toNat : Int) == 45) = true := by simp; omega
  obtain ⟨m, hm⟩ : ∃ m, (p + 1) + Lx.run Lx.isDigit ((bs s).drop (p + 1)) = m := ⟨_, rfl⟩
  obtain ⟨r, hr⟩ : ∃ r, m + Lx.run Lx.isWord ((bs s).drop m) = r := ⟨_, rfl⟩
  have hx : Lib.atoi (bs (s.extract p m)) = some (-Lx.numVal (((bs s).drop (p + 1)).take (Lx.run Lx.isDigit ((bs s).drop (p + 1))))) := by
    rw [drop_extract, HD.out, show m - p = Lx.run Lx.isDigit ((bs s).drop (p + 1)) + 1 from by omega, List.take_succ_cons]
    have e : s[p] = 45 := UInt8.toNat_inj.1 h45
    rw [e]
    refine atoi_neg (run_all _ _) ?_
    intro e0
    have := congrArg List.length e0
    have hle := Lx.run_le Lx.isDigit ((bs s).drop (p + 1))
    rw [List.length_take, Nat.min_eq_left hle] at this
    exact hz this
  have ht : T = .ok (1, [], (-Lx.numVal (((bs s).drop (p + 1)).take (Lx.run Lx.isDigit ((bs s).drop (p + 1))))), Lx.run Lx.isDigit ((bs s).drop (p + 1)) + 1) := by
    rw [← HT.out]; conv => lhs; rw [HD.out]; unfold Lx.token
    simp only [hf, Bool.false_eq_true, if_false]
    rw [if_pos h45, if_neg]
    rintro (h | h | h)
    · exact hz h
    · exact h15 h
    · rw [List.drop_drop] at h; exact hw h
  have hq : p + (Lx.run Lx.isDigit ((bs s).drop (p + 1)) + 1) = m := by omega
  have hle := Lx.run_le Lx.isDigit ((bs s).drop (p + 1))
  rw [List.length_drop, bs_length] at hle
  have hnum := fun w (h : LxSt B w g s p ts) => number_neg_ok B g s p m r ts w hs h hl hp h45 hm hr (h0 := by omega) (h15 := by omega) (hw := by rw [hm] at hw; omega) (-Lx.numVal (((bs s).drop (p + 1)).take (Lx.run Lx.isDigit ((bs s).drop (p + 1))))) hx
  have Ht := Aside0.mk ht; have HN := Aside0.mk hnum; have Hq := Aside0.mk hq; clear ht hnum hm hr hz hf h45 h15 hw hx hq hle
  go_enter Tryd.func24, Tryd.ntmps24
  go_wp2_with fail
  go_quiet (fail)
  rename_i nq
  have hb1 : Below B w (w.drewN nq) := pw_below_drewN (Below.refl _ _) nq
  have hS1 : LxSt B (w.drewN nq) g s p ts := HSt.out.below (pw_below_drewN (Below.refl _ _) nq)
  have HB1 := Aside0.mk hb1; have HS1 := Aside0.mk hS1; clear hb1 hS1
  go_wp2_with (first | (go_at_call 27; refine (HFC.out _).mono ?_; rintro e w' ⟨rfl, rfl⟩))
  refine (HN.out _ HS1.out).mono ?_
  rintro e w2 ⟨rfl, h2, b2⟩
  have H2 := Aside0.mk h2; have B2 := Aside0.mk b2; clear b2 h2
  go_wp2_with fail
  try (simp only [Exit.inBlock, Exit.then])
  go_ret
  exact tok_ok Ht.out Hq.out HB1.out ⟨rfl, H2.out, B2.out⟩
set_option maxRecDepth 100000 in
theorem token_num_pos_long (B g : Nat) (s : ByteArray) (p : Nat) (ts : List Lx.Tok) (w : World) (hs : s.size ≤ 70000) (h : LxSt B w g s p ts) (hl : ts.length ≤ 70000) (hp : p < s.size) (hf : Lx.isFirst s[p] = false) (h45 : ¬ (s[p]).toNat = 45) (hdg : Lx.isDigit s[p] = true) (hz : ¬ Lx.run Lx.isDigit ((bs s).drop p) = 0) (h15 : 15 < Lx.run Lx.isDigit ((bs s).drop p)) :
    Calls Tryd.prog 24 #[.pointer (some ⟨g, 0, none⟩)] w (TokPost B w g s p ts (Lx.token ((bs s).drop p))) := by
  have HSt := Aside0.mk h
  obtain ⟨v, hI, hBg, hO⟩ := h
  obtain ⟨hc0, hc1, hc2, hf1, hf2⟩ := hI.cells
  have hd := bs_drop s p hp
  obtain ⟨T, hT⟩ : ∃ T, Lx.token ((bs s).drop p) = T := ⟨_, rfl⟩
  rw [hT]
  have HT := Aside0.mk hT; have HD := Aside0.mk hd; have HI := Aside0.mk hI; clear hT hd hI hO
  have hfc : ∀ w, Calls Tryd.prog 27 #[.int .u8 (s[p]).toNat] w fun e w' => e = .returned (.bool false) ∧ w' = w := fun w => by rw [← hf]; exact first_any _ w
  have HFC := Aside0.mk hfc; clear hfc
  have hdc : ∀ w, Calls Tryd.prog 29 #[.int .u8 (s[p]).toNat] w fun e w' => e = .returned (.bool true) ∧ w' = w := fun w => by rw [← hdg]; exact digit_any _ w
  have HDC := Aside0.mk hdc; clear hdc
  have e45 : (((s[p]).toNat : Int) == 45) = false := by simp; omega
  obtain ⟨m, hm⟩ : ∃ m, p + Lx.run Lx.isDigit ((bs s).drop p) = m := ⟨_, rfl⟩
  obtain ⟨r, hr⟩ : ∃ r, m + Lx.run Lx.isWord ((bs s).drop m) = r := ⟨_, rfl⟩
  have ht : T = .error 1300 := by
    rw [← HT.out]; conv => lhs; rw [HD.out]; unfold Lx.token
    simp only [hf, Bool.false_eq_true, if_false]
    rw [if_neg h45, hdg, if_pos rfl, ← HD.out, if_pos]
    exact .inl h15
  have hle := Lx.run_le Lx.isDigit ((bs s).drop p)
  rw [List.length_drop, bs_length] at hle
  have hnum := fun w (h : LxSt B w g s p ts) => number_pos_long B g s p m r ts w hs h hl hp h45 hm hr (h0 := by omega) (h15 := by omega)
  have Ht := Aside0.mk ht; have HN := Aside0.mk hnum; clear ht hnum hm hr hz hf h45 h15 hdg hle
  go_enter Tryd.func24, Tryd.ntmps24
  go_wp2_with fail
  go_quiet (fail)
  rename_i nq
  have hb1 : Below B w (w.drewN nq) := pw_below_drewN (Below.refl _ _) nq
  have hS1 : LxSt B (w.drewN nq) g s p ts := HSt.out.below (pw_below_drewN (Below.refl _ _) nq)
  have HB1 := Aside0.mk hb1; have HS1 := Aside0.mk hS1; clear hb1 hS1
  go_wp2_with (first | (go_at_call 27; refine (HFC.out _).mono ?_; rintro e w' ⟨rfl, rfl⟩) | (go_at_call 29; refine (HDC.out _).mono ?_; rintro e w' ⟨rfl, rfl⟩))
  refine (HN.out _ HS1.out).mono ?_
  rintro e w2 ⟨rfl, b2⟩
  have B2 := Aside0.mk b2; clear b2
  go_wp2_with fail
  try (simp only [Exit.inBlock, Exit.then])
  go_ret
  exact tok_err Ht.out HB1.out ⟨rfl, B2.out⟩
set_option maxRecDepth 100000 in
theorem token_num_pos_word (B g : Nat) (s : ByteArray) (p : Nat) (ts : List Lx.Tok) (w : World) (hs : s.size ≤ 70000) (h : LxSt B w g s p ts) (hl : ts.length ≤ 70000) (hp : p < s.size) (hf : Lx.isFirst s[p] = false) (h45 : ¬ (s[p]).toNat = 45) (hdg : Lx.isDigit s[p] = true) (hz : ¬ Lx.run Lx.isDigit ((bs s).drop p) = 0) (h15 : ¬ 15 < Lx.run Lx.isDigit ((bs s).drop p)) (hw : 0 < Lx.run Lx.isWord ((bs s).drop (p + Lx.run Lx.isDigit ((bs s).drop p)))) :
    Calls Tryd.prog 24 #[.pointer (some ⟨g, 0, none⟩)] w (TokPost B w g s p ts (Lx.token ((bs s).drop p))) := by
  have HSt := Aside0.mk h
  obtain ⟨v, hI, hBg, hO⟩ := h
  obtain ⟨hc0, hc1, hc2, hf1, hf2⟩ := hI.cells
  have hd := bs_drop s p hp
  obtain ⟨T, hT⟩ : ∃ T, Lx.token ((bs s).drop p) = T := ⟨_, rfl⟩
  rw [hT]
  have HT := Aside0.mk hT; have HD := Aside0.mk hd; have HI := Aside0.mk hI; clear hT hd hI hO
  have hfc : ∀ w, Calls Tryd.prog 27 #[.int .u8 (s[p]).toNat] w fun e w' => e = .returned (.bool false) ∧ w' = w := fun w => by rw [← hf]; exact first_any _ w
  have HFC := Aside0.mk hfc; clear hfc
  have hdc : ∀ w, Calls Tryd.prog 29 #[.int .u8 (s[p]).toNat] w fun e w' => e = .returned (.bool true) ∧ w' = w := fun w => by rw [← hdg]; exact digit_any _ w
  have HDC := Aside0.mk hdc; clear hdc
  have e45 : (((s[p]).toNat : Int) == 45) = false := by simp; omega
  obtain ⟨m, hm⟩ : ∃ m, p + Lx.run Lx.isDigit ((bs s).drop p) = m := ⟨_, rfl⟩
  obtain ⟨r, hr⟩ : ∃ r, m + Lx.run Lx.isWord ((bs s).drop m) = r := ⟨_, rfl⟩
  have ht : T = .error 1300 := by
    rw [← HT.out]; conv => lhs; rw [HD.out]; unfold Lx.token
    simp only [hf, Bool.false_eq_true, if_false]
    rw [if_neg h45, hdg, if_pos rfl, ← HD.out, if_pos]
    exact .inr (by rw [List.drop_drop]; exact hw)
  have hle := Lx.run_le Lx.isDigit ((bs s).drop p)
  rw [List.length_drop, bs_length] at hle
  have hnum := fun w (h : LxSt B w g s p ts) => number_pos_word B g s p m r ts w hs h hl hp h45 hm hr (h0 := by omega) (h15 := by omega) (hw := by rw [hm] at hw; omega)
  have Ht := Aside0.mk ht; have HN := Aside0.mk hnum; clear ht hnum hm hr hz hf h45 h15 hw hdg hle
  go_enter Tryd.func24, Tryd.ntmps24
  go_wp2_with fail
  go_quiet (fail)
  rename_i nq
  have hb1 : Below B w (w.drewN nq) := pw_below_drewN (Below.refl _ _) nq
  have hS1 : LxSt B (w.drewN nq) g s p ts := HSt.out.below (pw_below_drewN (Below.refl _ _) nq)
  have HB1 := Aside0.mk hb1; have HS1 := Aside0.mk hS1; clear hb1 hS1
  go_wp2_with (first | (go_at_call 27; refine (HFC.out _).mono ?_; rintro e w' ⟨rfl, rfl⟩) | (go_at_call 29; refine (HDC.out _).mono ?_; rintro e w' ⟨rfl, rfl⟩))
  refine (HN.out _ HS1.out).mono ?_
  rintro e w2 ⟨rfl, b2⟩
  have B2 := Aside0.mk b2; clear b2
  go_wp2_with fail
  try (simp only [Exit.inBlock, Exit.then])
  go_ret
  exact tok_err Ht.out HB1.out ⟨rfl, B2.out⟩
set_option maxRecDepth 100000 in
theorem token_num_pos_ok (B g : Nat) (s : ByteArray) (p : Nat) (ts : List Lx.Tok) (w : World) (hs : s.size ≤ 70000) (h : LxSt B w g s p ts) (hl : ts.length ≤ 70000) (hp : p < s.size) (hf : Lx.isFirst s[p] = false) (h45 : ¬ (s[p]).toNat = 45) (hdg : Lx.isDigit s[p] = true) (hz : ¬ Lx.run Lx.isDigit ((bs s).drop p) = 0) (h15 : ¬ 15 < Lx.run Lx.isDigit ((bs s).drop p)) (hw : ¬ 0 < Lx.run Lx.isWord ((bs s).drop (p + Lx.run Lx.isDigit ((bs s).drop p)))) :
    Calls Tryd.prog 24 #[.pointer (some ⟨g, 0, none⟩)] w (TokPost B w g s p ts (Lx.token ((bs s).drop p))) := by
  have HSt := Aside0.mk h
  obtain ⟨v, hI, hBg, hO⟩ := h
  obtain ⟨hc0, hc1, hc2, hf1, hf2⟩ := hI.cells
  have hd := bs_drop s p hp
  obtain ⟨T, hT⟩ : ∃ T, Lx.token ((bs s).drop p) = T := ⟨_, rfl⟩
  rw [hT]
  have HT := Aside0.mk hT; have HD := Aside0.mk hd; have HI := Aside0.mk hI; clear hT hd hI hO
  have hfc : ∀ w, Calls Tryd.prog 27 #[.int .u8 (s[p]).toNat] w fun e w' => e = .returned (.bool false) ∧ w' = w := fun w => by rw [← hf]; exact first_any _ w
  have HFC := Aside0.mk hfc; clear hfc
  have hdc : ∀ w, Calls Tryd.prog 29 #[.int .u8 (s[p]).toNat] w fun e w' => e = .returned (.bool true) ∧ w' = w := fun w => by rw [← hdg]; exact digit_any _ w
  have HDC := Aside0.mk hdc; clear hdc
  have e45 : (((s[p]).toNat : Int) == 45) = false := by simp; omega
  obtain ⟨m, hm⟩ : ∃ m, p + Lx.run Lx.isDigit ((bs s).drop p) = m := ⟨_, rfl⟩
  obtain ⟨r, hr⟩ : ∃ r, m + Lx.run Lx.isWord ((bs s).drop m) = r := ⟨_, rfl⟩
  have hx : Lib.atoi (bs (s.extract p m)) = some (Lx.numVal (((bs s).drop p).take (Lx.run Lx.isDigit ((bs s).drop p)))) := by
    rw [drop_extract, show m - p = Lx.run Lx.isDigit ((bs s).drop p) from by omega]
    have hall := run_all Lx.isDigit ((bs s).drop p)
    rw [HD.out, Lx.run_yes hdg, List.take_succ_cons] at hall ⊢
    exact atoi_pos hall
  have ht : T = .ok (1, [], (Lx.numVal (((bs s).drop p).take (Lx.run Lx.isDigit ((bs s).drop p)))), Lx.run Lx.isDigit ((bs s).drop p)) := by
    rw [← HT.out]; conv => lhs; rw [HD.out]; unfold Lx.token
    simp only [hf, Bool.false_eq_true, if_false]
    rw [if_neg h45, hdg, if_pos rfl, ← HD.out, if_neg]
    rintro (h | h)
    · exact h15 h
    · rw [List.drop_drop] at h; exact hw h
  have hq : p + Lx.run Lx.isDigit ((bs s).drop p) = m := by omega
  have hle := Lx.run_le Lx.isDigit ((bs s).drop p)
  rw [List.length_drop, bs_length] at hle
  have hnum := fun w (h : LxSt B w g s p ts) => number_pos_ok B g s p m r ts w hs h hl hp h45 hm hr (h0 := by omega) (h15 := by omega) (hw := by rw [hm] at hw; omega) (Lx.numVal (((bs s).drop p).take (Lx.run Lx.isDigit ((bs s).drop p)))) hx
  have Ht := Aside0.mk ht; have HN := Aside0.mk hnum; have Hq := Aside0.mk hq; clear ht hnum hm hr hz hf h45 h15 hw hx hq hdg hle
  go_enter Tryd.func24, Tryd.ntmps24
  go_wp2_with fail
  go_quiet (fail)
  rename_i nq
  have hb1 : Below B w (w.drewN nq) := pw_below_drewN (Below.refl _ _) nq
  have hS1 : LxSt B (w.drewN nq) g s p ts := HSt.out.below (pw_below_drewN (Below.refl _ _) nq)
  have HB1 := Aside0.mk hb1; have HS1 := Aside0.mk hS1; clear hb1 hS1
  go_wp2_with (first | (go_at_call 27; refine (HFC.out _).mono ?_; rintro e w' ⟨rfl, rfl⟩) | (go_at_call 29; refine (HDC.out _).mono ?_; rintro e w' ⟨rfl, rfl⟩))
  refine (HN.out _ HS1.out).mono ?_
  rintro e w2 ⟨rfl, h2, b2⟩
  have H2 := Aside0.mk h2; have B2 := Aside0.mk b2; clear b2 h2
  go_wp2_with fail
  try (simp only [Exit.inBlock, Exit.then])
  go_ret
  exact tok_ok Ht.out Hq.out HB1.out ⟨rfl, H2.out, B2.out⟩
end Go.Proofs.YtapbpmpeikobcaaDoor.Q
