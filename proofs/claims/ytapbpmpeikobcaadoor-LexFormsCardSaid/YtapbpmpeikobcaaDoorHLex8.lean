/- What the lexer's token leaves, whole. Condition: a text of at most 70000 bytes. -/
import Derived.Test.YtapbpmpeikobcaaDoorHLex7
set_option linter.unusedVariables false
set_option linter.unusedSimpArgs false
namespace Go.Proofs.YtapbpmpeikobcaaDoor.Q
open Go.RowKit Go.Proofs.YtapbpmpeikobcaaDoorW.PrintWords Go.Proofs.YtapbpmpeikobcaaDoorW.PrintLast Go.Proofs.YtapbpmpeikobcaaDoorW.PrintMore
theorem prefix3 (l : List UInt8) : Lib.hasPrefix l [46, 46, 46] = decide (l.take 3 = [46, 46, 46]) := by
  unfold Lib.hasPrefix
  match l with
  | [] => rfl
  | [a] => simp [List.isPrefixOf]
  | [a, b] => simp [List.isPrefixOf]
  | a :: b :: c :: r =>
    simp only [List.isPrefixOf, List.take_succ_cons, List.take_zero, List.cons.injEq, and_true, Bool.and_true]
    rw [Bool.eq_iff_iff]; simp; constructor <;> (rintro ⟨h1, h2, h3⟩; exact ⟨h1.symm, h2.symm, h3.symm⟩)
theorem tp_none {B : Nat} {w : World} {g : Nat} {s : ByteArray} {p : Nat} {ts : List Lx.Tok} {u : Option (List UInt8 × Nat)} (hu : u = none) {e : Ending} {w' : World} (h : TextPost B w g s p ts u e w') : LxErr B w 1301 e w' := by subst hu; exact h
theorem tp_long {B : Nat} {w : World} {g : Nat} {s : ByteArray} {p : Nat} {ts : List Lx.Tok} {u : Option (List UInt8 × Nat)} {o : List UInt8} {k : Nat} (hu : u = some (o, k)) (ho : ¬ o.length ≤ 256) {e : Ending} {w' : World} (h : TextPost B w g s p ts u e w') : LxErr B w 1301 e w' := by subst hu; simp only [TextPost] at h; rw [if_neg ho] at h; exact h
theorem tp_ok {B : Nat} {w : World} {g : Nat} {s : ByteArray} {p : Nat} {ts : List Lx.Tok} {u : Option (List UInt8 × Nat)} {o : List UInt8} {k : Nat} (hu : u = some (o, k)) (ho : o.length ≤ 256) {e : Ending} {w' : World} (h : TextPost B w g s p ts u e w') : LxPost B w g s (p + 1 + k) (ts ++ [⟨2, o, 0, p⟩]) e w' := by subst hu; simp only [TextPost] at h; rw [if_pos ho] at h; exact h
set_option maxRecDepth 100000 in
theorem token_text_none (B g : Nat) (s : ByteArray) (p : Nat) (ts : List Lx.Tok) (w : World) (hs : s.size ≤ 70000) (h : LxSt B w g s p ts) (hl : ts.length ≤ 70000) (hp : p < s.size) (hf : Lx.isFirst s[p] = false) (h45 : ¬ (s[p]).toNat = 45) (hdg : Lx.isDigit s[p] = false) (h34 : (s[p]).toNat = 34) (hu : Lx.unesc ((bs s).drop (p + 1)) = none) :
    Calls Tryd.prog 24 #[.pointer (some ⟨g, 0, none⟩)] w (TokPost B w g s p ts (Lx.token ((bs s).drop p))) := by
  have HSt := Aside0.mk h
  obtain ⟨v, hI, hBg, hO⟩ := h
  obtain ⟨hc0, hc1, hc2, hf1, hf2⟩ := hI.cells
  have hd := bs_drop s p hp
  obtain ⟨T, hT⟩ : ∃ T, Lx.token ((bs s).drop p) = T := ⟨_, rfl⟩
  rw [hT]
  have HT := Aside0.mk hT; have HD := Aside0.mk hd; have HI := Aside0.mk hI; clear hT hd hI hO
  have hfc : ∀ w, Calls Tryd.prog 27 #[.int .u8 (s[p]).toNat] w fun e w' => e = .returned (.bool false) ∧ w' = w := fun w => by rw [← hf]; exact first_any _ w
  have HFC := Aside0.mk hfc; clear hfc
  have hdc : ∀ w, Calls Tryd.prog 29 #[.int .u8 (s[p]).toNat] w fun e w' => e = .returned (.bool false) ∧ w' = w := fun w => by rw [← hdg]; exact digit_any _ w
  have HDC := Aside0.mk hdc; clear hdc
  have e45 : (((s[p]).toNat : Int) == 45) = false := by simp; omega
  have e34 : (((s[p]).toNat : Int) == 34) = true := by simp; omega
  have ht : T = .error 1301 := by
    rw [← HT.out]; conv => lhs; rw [HD.out]; unfold Lx.token
    simp only [hf, hdg, Bool.false_eq_true, if_false]
    rw [if_neg h45]
    rw [if_pos h34]; simp only [hu]
  have htx := fun w (h : LxSt B w g s p ts) => (text_any B g s p ts w hs h hl hp).mono fun e w' hh => tp_none hu hh
  have Ht := Aside0.mk ht; have HN := Aside0.mk htx; clear ht htx hf h45 hdg h34 hu
  go_enter Tryd.func24, Tryd.ntmps24
  go_wp2_with fail
  go_quiet (fail)
  rename_i nq
  have hb1 : Below B w (w.drewN nq) := pw_below_drewN (Below.refl _ _) nq
  have hS1 : LxSt B (w.drewN nq) g s p ts := HSt.out.below (pw_below_drewN (Below.refl _ _) nq)
  have HB1 := Aside0.mk hb1; have HS1 := Aside0.mk hS1; clear hb1 hS1
  go_wp2_with (first | (go_at_call 27; refine (HFC.out _).mono ?_; rintro e w' ⟨rfl, rfl⟩) | (go_at_call 29; refine (HDC.out _).mono ?_; rintro e w' ⟨rfl, rfl⟩))
  refine (HN.out _ HS1.out).mono ?_
  rintro e w2 ⟨rfl, b2⟩
  have B2 := Aside0.mk b2; clear b2
  go_wp2_with fail
  try (simp only [Exit.inBlock, Exit.then])
  go_ret
  exact tok_err Ht.out HB1.out ⟨rfl, B2.out⟩
set_option maxRecDepth 100000 in
theorem token_text_long (B g : Nat) (s : ByteArray) (p : Nat) (ts : List Lx.Tok) (w : World) (hs : s.size ≤ 70000) (h : LxSt B w g s p ts) (hl : ts.length ≤ 70000) (hp : p < s.size) (hf : Lx.isFirst s[p] = false) (h45 : ¬ (s[p]).toNat = 45) (hdg : Lx.isDigit s[p] = false) (h34 : (s[p]).toNat = 34) (o : List UInt8) (k : Nat) (hu : Lx.unesc ((bs s).drop (p + 1)) = some (o, k)) (ho : ¬ o.length ≤ 256) :
    Calls Tryd.prog 24 #[.pointer (some ⟨g, 0, none⟩)] w (TokPost B w g s p ts (Lx.token ((bs s).drop p))) := by
  have HSt := Aside0.mk h
  obtain ⟨v, hI, hBg, hO⟩ := h
  obtain ⟨hc0, hc1, hc2, hf1, hf2⟩ := hI.cells
  have hd := bs_drop s p hp
  obtain ⟨T, hT⟩ : ∃ T, Lx.token ((bs s).drop p) = T := ⟨_, rfl⟩
  rw [hT]
  have HT := Aside0.mk hT; have HD := Aside0.mk hd; have HI := Aside0.mk hI; clear hT hd hI hO
  have hfc : ∀ w, Calls Tryd.prog 27 #[.int .u8 (s[p]).toNat] w fun e w' => e = .returned (.bool false) ∧ w' = w := fun w => by rw [← hf]; exact first_any _ w
  have HFC := Aside0.mk hfc; clear hfc
  have hdc : ∀ w, Calls Tryd.prog 29 #[.int .u8 (s[p]).toNat] w fun e w' => e = .returned (.bool false) ∧ w' = w := fun w => by rw [← hdg]; exact digit_any _ w
  have HDC := Aside0.mk hdc; clear hdc
  have e45 : (((s[p]).toNat : Int) == 45) = false := by simp; omega
  have e34 : (((s[p]).toNat : Int) == 34) = true := by simp; omega
  have ht : T = .error 1301 := by
    rw [← HT.out]; conv => lhs; rw [HD.out]; unfold Lx.token
    simp only [hf, hdg, Bool.false_eq_true, if_false]
    rw [if_neg h45]
    rw [if_pos h34]; simp only [hu]; rw [if_neg ho]
  have htx := fun w (h : LxSt B w g s p ts) => (text_any B g s p ts w hs h hl hp).mono fun e w' hh => tp_long hu ho hh
  have Ht := Aside0.mk ht; have HN := Aside0.mk htx; clear ht htx hf h45 hdg h34 hu ho
  go_enter Tryd.func24, Tryd.ntmps24
  go_wp2_with fail
  go_quiet (fail)
  rename_i nq
  have hb1 : Below B w (w.drewN nq) := pw_below_drewN (Below.refl _ _) nq
  have hS1 : LxSt B (w.drewN nq) g s p ts := HSt.out.below (pw_below_drewN (Below.refl _ _) nq)
  have HB1 := Aside0.mk hb1; have HS1 := Aside0.mk hS1; clear hb1 hS1
  go_wp2_with (first | (go_at_call 27; refine (HFC.out _).mono ?_; rintro e w' ⟨rfl, rfl⟩) | (go_at_call 29; refine (HDC.out _).mono ?_; rintro e w' ⟨rfl, rfl⟩))
  refine (HN.out _ HS1.out).mono ?_
  rintro e w2 ⟨rfl, b2⟩
  have B2 := Aside0.mk b2; clear b2
  go_wp2_with fail
  try (simp only [Exit.inBlock, Exit.then])
  go_ret
  exact tok_err Ht.out HB1.out ⟨rfl, B2.out⟩
set_option maxRecDepth 100000 in
theorem token_text_ok (B g : Nat) (s : ByteArray) (p : Nat) (ts : List Lx.Tok) (w : World) (hs : s.size ≤ 70000) (h : LxSt B w g s p ts) (hl : ts.length ≤ 70000) (hp : p < s.size) (hf : Lx.isFirst s[p] = false) (h45 : ¬ (s[p]).toNat = 45) (hdg : Lx.isDigit s[p] = false) (h34 : (s[p]).toNat = 34) (o : List UInt8) (k : Nat) (hu : Lx.unesc ((bs s).drop (p + 1)) = some (o, k)) (ho : o.length ≤ 256) :
    Calls Tryd.prog 24 #[.pointer (some ⟨g, 0, none⟩)] w (TokPost B w g s p ts (Lx.token ((bs s).drop p))) := by
  have HSt := Aside0.mk h
  obtain ⟨v, hI, hBg, hO⟩ := h
  obtain ⟨hc0, hc1, hc2, hf1, hf2⟩ := hI.cells
  have hd := bs_drop s p hp
  obtain ⟨T, hT⟩ : ∃ T, Lx.token ((bs s).drop p) = T := ⟨_, rfl⟩
  rw [hT]
  have HT := Aside0.mk hT; have HD := Aside0.mk hd; have HI := Aside0.mk hI; clear hT hd hI hO
  have hfc : ∀ w, Calls Tryd.prog 27 #[.int .u8 (s[p]).toNat] w fun e w' => e = .returned (.bool false) ∧ w' = w := fun w => by rw [← hf]; exact first_any _ w
  have HFC := Aside0.mk hfc; clear hfc
  have hdc : ∀ w, Calls Tryd.prog 29 #[.int .u8 (s[p]).toNat] w fun e w' => e = .returned (.bool false) ∧ w' = w := fun w => by rw [← hdg]; exact digit_any _ w
  have HDC := Aside0.mk hdc; clear hdc
  have e45 : (((s[p]).toNat : Int) == 45) = false := by simp; omega
  have e34 : (((s[p]).toNat : Int) == 34) = true := by simp; omega
  have ht : T = .ok (2, o, 0, k + 1) := by
    rw [← HT.out]; conv => lhs; rw [HD.out]; unfold Lx.token
    simp only [hf, hdg, Bool.false_eq_true, if_false]
    rw [if_neg h45]
    rw [if_pos h34]; simp only [hu]; rw [if_pos ho]
  have htx := fun w (h : LxSt B w g s p ts) => (text_any B g s p ts w hs h hl hp).mono fun e w' hh => tp_ok hu ho hh
  have Ht := Aside0.mk ht; have HN := Aside0.mk htx; clear ht htx hf h45 hdg h34 hu ho
  go_enter Tryd.func24, Tryd.ntmps24
  go_wp2_with fail
  go_quiet (fail)
  rename_i nq
  have hb1 : Below B w (w.drewN nq) := pw_below_drewN (Below.refl _ _) nq
  have hS1 : LxSt B (w.drewN nq) g s p ts := HSt.out.below (pw_below_drewN (Below.refl _ _) nq)
  have HB1 := Aside0.mk hb1; have HS1 := Aside0.mk hS1; clear hb1 hS1
  go_wp2_with (first | (go_at_call 27; refine (HFC.out _).mono ?_; rintro e w' ⟨rfl, rfl⟩) | (go_at_call 29; refine (HDC.out _).mono ?_; rintro e w' ⟨rfl, rfl⟩))
  refine (HN.out _ HS1.out).mono ?_
  rintro e w2 ⟨rfl, h2, b2⟩
  have H2 := Aside0.mk h2; have B2 := Aside0.mk b2; clear b2 h2
  go_wp2_with fail
  try (simp only [Exit.inBlock, Exit.then])
  go_ret
  exact tok_ok Ht.out (by omega) HB1.out ⟨rfl, H2.out, B2.out⟩
set_option maxRecDepth 100000 in
theorem token_mark (B g : Nat) (s : ByteArray) (p : Nat) (ts : List Lx.Tok) (w : World) (hs : s.size ≤ 70000) (h : LxSt B w g s p ts) (hl : ts.length ≤ 70000) (hp : p < s.size) (hf : Lx.isFirst s[p] = false) (h45 : ¬ (s[p]).toNat = 45) (hdg : Lx.isDigit s[p] = false) (h34 : ¬ (s[p]).toNat = 34) (hmk : Lx.isMark s[p] = true) :
    Calls Tryd.prog 24 #[.pointer (some ⟨g, 0, none⟩)] w (TokPost B w g s p ts (Lx.token ((bs s).drop p))) := by
  have HSt := Aside0.mk h
  obtain ⟨v, hI, hBg, hO⟩ := h
  obtain ⟨hc0, hc1, hc2, hf1, hf2⟩ := hI.cells
  have hd := bs_drop s p hp
  obtain ⟨T, hT⟩ : ∃ T, Lx.token ((bs s).drop p) = T := ⟨_, rfl⟩
  rw [hT]
  have HT := Aside0.mk hT; have HD := Aside0.mk hd; have HI := Aside0.mk hI; clear hT hd hI hO
  have hfc : ∀ w, Calls Tryd.prog 27 #[.int .u8 (s[p]).toNat] w fun e w' => e = .returned (.bool false) ∧ w' = w := fun w => by rw [← hf]; exact first_any _ w
  have HFC := Aside0.mk hfc; clear hfc
  have hdc : ∀ w, Calls Tryd.prog 29 #[.int .u8 (s[p]).toNat] w fun e w' => e = .returned (.bool false) ∧ w' = w := fun w => by rw [← hdg]; exact digit_any _ w
  have HDC := Aside0.mk hdc; clear hdc
  have e45 : (((s[p]).toNat : Int) == 45) = false := by simp; omega
  have e34 : (((s[p]).toNat : Int) == 34) = false := by simp; omega
  have hix : ∀ w, Calls Tryd.prog 23 #[.string ⟨#[123, 125, 40, 41, 58, 36, 64]⟩, .int .u8 (s[p]).toNat] w fun e w' => e = .returned (.int .i64 (Lib.indexByte [123, 125, 40, 41, 58, 36, 64] s[p])) ∧ w = w' := fun w => (Tryd.strings_IndexByte ⟨#[123, 125, 40, 41, 58, 36, 64]⟩ ((s[p]).toNat : Int) w).mono fun e w' h => ⟨by rw [h.1]; simp, h.2.symm⟩
  obtain ⟨x, hx⟩ : ∃ x, Lib.indexByte [123, 125, 40, 41, 58, 36, 64] s[p] = x := ⟨_, rfl⟩
  have hxm : decide (0 ≤ x) = Lx.isMark s[p] := by have := marks_all ⟨(s[p]).toNat, (s[p]).toNat_lt⟩; rw [← hx]; simpa using this
  rw [hx] at hix
  have hx0 : 0 ≤ x := by rw [hmk] at hxm; simpa using hxm
  have HIX := Aside0.mk hix; clear hix hx hxm
  have hx1 : bs (s.extract p (p + 1)) = [s[p]] := by rw [drop_extract, HD.out, show p + 1 - p = 1 from by omega]; rfl
  have ht : T = .ok (3, bs (s.extract p (p + 1)), 0, 1) := by
    rw [hx1]
    rw [← HT.out]; conv => lhs; rw [HD.out]; unfold Lx.token
    simp only [hf, hdg, Bool.false_eq_true, if_false]
    rw [if_neg h45]
    rw [if_neg h34, hmk, if_pos rfl]
  have hadd := fun w (h : LxSt B w g s p ts) => add_any B g s p ts 3 (bs (s.extract p (p + 1))) 0 0 (p + 1) w h hl
  rw [ba_bs] at hadd
  simp only [Int.natCast_add, Int.natCast_one] at hadd
  have Ht := Aside0.mk ht; have HA := Aside0.mk hadd; clear ht hadd hx1 hf h45 hdg h34 hmk
  go_enter Tryd.func24, Tryd.ntmps24
  go_wp2_with fail
  go_quiet (fail)
  rename_i nq
  have hb1 : Below B w (w.drewN nq) := pw_below_drewN (Below.refl _ _) nq
  have hS1 : LxSt B (w.drewN nq) g s p ts := HSt.out.below (pw_below_drewN (Below.refl _ _) nq)
  have HB1 := Aside0.mk hb1; have HS1 := Aside0.mk hS1; clear hb1 hS1
  go_wp2_with (first | (go_at_call 27; refine (HFC.out _).mono ?_; rintro e w' ⟨rfl, rfl⟩) | (go_at_call 29; refine (HDC.out _).mono ?_; rintro e w' ⟨rfl, rfl⟩) | (go_at_call 23; refine (HIX.out _).mono ?_; rintro e w' ⟨rfl, rfl⟩))
  have hI1 : IsLx (w.drewN nq).drew g s p v := HI.out
  have hS2 : LxSt B (w.drewN nq).drew g s p ts := HS1.out.below (Below.refl _ _).drew
  have hB2 : Below B w (w.drewN nq).drew := HB1.out.drew
  clear hc0 hc1 hc2 hf1 hf2
  refine wp_region_still_tail 21 (by kernel_rfl) (by kernel_rfl) ?_
  simp only [List.take_succ_cons, List.take_zero, List.drop_succ_cons, List.drop_zero]
  change wpStill _ _ ((w.drewN nq).drew) _ _ _
  generalize hw1 : (w.drewN nq).drew = w1 at *
  have HW1 := Aside0.mk hw1; clear hw1
  obtain ⟨hc0, hc1, hc2, hf1, hf2⟩ := hI1.cells
  have HS2 := Aside0.mk hS2; have HB2 := Aside0.mk hB2; clear hI1 hS2 hB2
  have hq0 : p + 1 ≤ s.size := hp
  have hq1 : IntKind.i64.wrap ((p : Int) + 1) = (p : Int) + 1 := by rw [IntKind.wrap_i64]; omega
  have hq2 : 0 ≤ (p : Int) + 1 := by omega
  have hq3 : ((p : Int) + 1).toNat = p + 1 := by omega
  have hq4 := run_slice_string (P := Tryd.prog) w1 9 s .i64 .i64 (p : Int) ((p : Int) + 1) Tryd.underlying9 (by omega) (by omega) (by omega)
  rw [hq3, show ((p : Int)).toNat = p from rfl] at hq4
  iterate 21 still_step
  refine wpStill_nil ?_
  change wpList _ _ _ _ _ ((w.drewN nq).drew)
  rw [HW1.out]
  clear hq0 hq1 hq2 hq3 hq4
  go_wp2_with fail
  refine (HA.out _ HS2.out).mono ?_
  rintro e w2 ⟨rfl, h2, b2⟩
  have H2 := Aside0.mk h2; have B2 := Aside0.mk b2; clear b2 h2
  go_wp2_with fail
  try (simp only [Exit.inBlock, Exit.then])
  go_ret
  exact tok_ok Ht.out rfl HB2.out ⟨rfl, H2.out, B2.out⟩
set_option maxRecDepth 100000 in
theorem token_dots (B g : Nat) (s : ByteArray) (p : Nat) (ts : List Lx.Tok) (w : World) (hs : s.size ≤ 70000) (h : LxSt B w g s p ts) (hl : ts.length ≤ 70000) (hp : p < s.size) (hf : Lx.isFirst s[p] = false) (h45 : ¬ (s[p]).toNat = 45) (hdg : Lx.isDigit s[p] = false) (h34 : ¬ (s[p]).toNat = 34) (hmk : Lx.isMark s[p] = false) (hdt : ((bs s).drop p).take 3 = [46, 46, 46]) :
    Calls Tryd.prog 24 #[.pointer (some ⟨g, 0, none⟩)] w (TokPost B w g s p ts (Lx.token ((bs s).drop p))) := by
  have HSt := Aside0.mk h
  obtain ⟨v, hI, hBg, hO⟩ := h
  obtain ⟨hc0, hc1, hc2, hf1, hf2⟩ := hI.cells
  have hd := bs_drop s p hp
  obtain ⟨T, hT⟩ : ∃ T, Lx.token ((bs s).drop p) = T := ⟨_, rfl⟩
  rw [hT]
  have HT := Aside0.mk hT; have HD := Aside0.mk hd; have HI := Aside0.mk hI; clear hT hd hI hO
  have hfc : ∀ w, Calls Tryd.prog 27 #[.int .u8 (s[p]).toNat] w fun e w' => e = .returned (.bool false) ∧ w' = w := fun w => by rw [← hf]; exact first_any _ w
  have HFC := Aside0.mk hfc; clear hfc
  have hdc : ∀ w, Calls Tryd.prog 29 #[.int .u8 (s[p]).toNat] w fun e w' => e = .returned (.bool false) ∧ w' = w := fun w => by rw [← hdg]; exact digit_any _ w
  have HDC := Aside0.mk hdc; clear hdc
  have e45 : (((s[p]).toNat : Int) == 45) = false := by simp; omega
  have e34 : (((s[p]).toNat : Int) == 34) = false := by simp; omega
  have hix : ∀ w, Calls Tryd.prog 23 #[.string ⟨#[123, 125, 40, 41, 58, 36, 64]⟩, .int .u8 (s[p]).toNat] w fun e w' => e = .returned (.int .i64 (Lib.indexByte [123, 125, 40, 41, 58, 36, 64] s[p])) ∧ w = w' := fun w => (Tryd.strings_IndexByte ⟨#[123, 125, 40, 41, 58, 36, 64]⟩ ((s[p]).toNat : Int) w).mono fun e w' h => ⟨by rw [h.1]; simp, h.2.symm⟩
  obtain ⟨x, hx⟩ : ∃ x, Lib.indexByte [123, 125, 40, 41, 58, 36, 64] s[p] = x := ⟨_, rfl⟩
  have hxm : decide (0 ≤ x) = Lx.isMark s[p] := by have := marks_all ⟨(s[p]).toNat, (s[p]).toNat_lt⟩; rw [← hx]; simpa using this
  rw [hx] at hix
  have hx0 : x < 0 := by rw [hmk] at hxm; simpa using hxm
  have HIX := Aside0.mk hix; clear hix hx hxm
  have hpx : bs (s.extract p s.size) = (bs s).drop p := by rw [drop_extract]; exact List.take_of_length_le (by rw [List.length_drop, bs_length]; omega)
  have hhp : ∀ w, Calls Tryd.prog 33 #[.string (s.extract p s.size), .string ⟨#[46, 46, 46]⟩] w fun e w' => e = .returned (.bool true) ∧ w' = w := fun w => by
    have h1 := lib_HasPrefix (s.extract p s.size) ⟨#[46, 46, 46]⟩ w
    have h2 : Lib.hasPrefix (s.extract p s.size).data.toList (⟨#[46, 46, 46]⟩ : ByteArray).data.toList = true := by
      show Lib.hasPrefix (bs (s.extract p s.size)) [46, 46, 46] = true
      rw [hpx]; exact (prefix3 _).trans (by simpa using hdt)
    rw [h2] at h1; exact h1
  have ht : T = .ok (3, [46, 46, 46], 0, 3) := by
    rw [← HT.out]; conv => lhs; rw [HD.out]; unfold Lx.token
    simp only [hf, hdg, Bool.false_eq_true, if_false]
    rw [if_neg h45]
    rw [if_neg h34, hmk]; simp only [Bool.false_eq_true, if_false]; rw [← HD.out, if_pos hdt]
  have hadd := fun w (h : LxSt B w g s p ts) => add_any B g s p ts 3 [46, 46, 46] 0 0 (p + 3) w h hl
  simp only [Int.natCast_add, Int.natCast_one] at hadd
  have hp3 : p + 3 ≤ s.size := by have := congrArg List.length hdt; rw [List.length_take, List.length_drop, bs_length] at this; simp at this; omega
  have HA := Aside0.mk hadd; clear hadd
  have Ht := Aside0.mk ht; have HP := Aside0.mk hhp; clear ht hhp hpx hf h45 hdg h34 hmk hdt
  go_enter Tryd.func24, Tryd.ntmps24
  go_wp2_with fail
  go_quiet (fail)
  rename_i nq
  have hb1 : Below B w (w.drewN nq) := pw_below_drewN (Below.refl _ _) nq
  have hS1 : LxSt B (w.drewN nq) g s p ts := HSt.out.below (pw_below_drewN (Below.refl _ _) nq)
  have HB1 := Aside0.mk hb1; have HS1 := Aside0.mk hS1; clear hb1 hS1
  go_wp2_with (first | (go_at_call 27; refine (HFC.out _).mono ?_; rintro e w' ⟨rfl, rfl⟩) | (go_at_call 29; refine (HDC.out _).mono ?_; rintro e w' ⟨rfl, rfl⟩) | (go_at_call 23; refine (HIX.out _).mono ?_; rintro e w' ⟨rfl, rfl⟩))
  have hI1 : IsLx (w.drewN nq) g s p v := HI.out
  clear hc0 hc1 hc2 hf1 hf2
  generalize w.drewN nq = w1 at *
  obtain ⟨hc0, hc1, hc2, hf1, hf2⟩ := hI1.cells
  have HI1 := Aside0.mk hI1; clear hI1
  go_quiet ((go_at_call 33; exact Calls.quiet_of_same (HP.out _)))
  have hI3 : IsLx (w1.drewN nq) g s p v := HI1.out
  have hB3 : Below B w (w1.drewN nq) := pw_below_drewN HB1.out nq
  have hS3 : LxSt B (w1.drewN nq) g s p ts := HS1.out.below (pw_below_drewN (Below.refl _ _) nq)
  clear hc0 hc1 hc2 hf1 hf2
  generalize w1.drewN nq = w2 at *
  obtain ⟨hc0, hc1, hc2, hf1, hf2⟩ := hI3.cells
  have HB2 := Aside0.mk hB3; have HS2 := Aside0.mk hS3; clear hI3 hB3 hS3
  go_wp2_with fail
  refine (HA.out _ HS2.out).mono ?_
  rintro e w3 ⟨rfl, h2, b2⟩
  have H2 := Aside0.mk h2; have B2 := Aside0.mk b2; clear b2 h2
  go_wp2_with fail
  try (simp only [Exit.inBlock, Exit.then])
  go_ret
  exact tok_ok Ht.out rfl HB2.out ⟨rfl, H2.out, B2.out⟩
set_option maxRecDepth 100000 in
theorem token_none (B g : Nat) (s : ByteArray) (p : Nat) (ts : List Lx.Tok) (w : World) (hs : s.size ≤ 70000) (h : LxSt B w g s p ts) (hl : ts.length ≤ 70000) (hp : p < s.size) (hf : Lx.isFirst s[p] = false) (h45 : ¬ (s[p]).toNat = 45) (hdg : Lx.isDigit s[p] = false) (h34 : ¬ (s[p]).toNat = 34) (hmk : Lx.isMark s[p] = false) (hdt : ¬ ((bs s).drop p).take 3 = [46, 46, 46]) :
    Calls Tryd.prog 24 #[.pointer (some ⟨g, 0, none⟩)] w (TokPost B w g s p ts (Lx.token ((bs s).drop p))) := by
  have HSt := Aside0.mk h
  obtain ⟨v, hI, hBg, hO⟩ := h
  obtain ⟨hc0, hc1, hc2, hf1, hf2⟩ := hI.cells
  have hd := bs_drop s p hp
  obtain ⟨T, hT⟩ : ∃ T, Lx.token ((bs s).drop p) = T := ⟨_, rfl⟩
  rw [hT]
  have HT := Aside0.mk hT; have HD := Aside0.mk hd; have HI := Aside0.mk hI; clear hT hd hI hO
  have hfc : ∀ w, Calls Tryd.prog 27 #[.int .u8 (s[p]).toNat] w fun e w' => e = .returned (.bool false) ∧ w' = w := fun w => by rw [← hf]; exact first_any _ w
  have HFC := Aside0.mk hfc; clear hfc
  have hdc : ∀ w, Calls Tryd.prog 29 #[.int .u8 (s[p]).toNat] w fun e w' => e = .returned (.bool false) ∧ w' = w := fun w => by rw [← hdg]; exact digit_any _ w
  have HDC := Aside0.mk hdc; clear hdc
  have e45 : (((s[p]).toNat : Int) == 45) = false := by simp; omega
  have e34 : (((s[p]).toNat : Int) == 34) = false := by simp; omega
  have hix : ∀ w, Calls Tryd.prog 23 #[.string ⟨#[123, 125, 40, 41, 58, 36, 64]⟩, .int .u8 (s[p]).toNat] w fun e w' => e = .returned (.int .i64 (Lib.indexByte [123, 125, 40, 41, 58, 36, 64] s[p])) ∧ w = w' := fun w => (Tryd.strings_IndexByte ⟨#[123, 125, 40, 41, 58, 36, 64]⟩ ((s[p]).toNat : Int) w).mono fun e w' h => ⟨by rw [h.1]; simp, h.2.symm⟩
  obtain ⟨x, hx⟩ : ∃ x, Lib.indexByte [123, 125, 40, 41, 58, 36, 64] s[p] = x := ⟨_, rfl⟩
  have hxm : decide (0 ≤ x) = Lx.isMark s[p] := by have := marks_all ⟨(s[p]).toNat, (s[p]).toNat_lt⟩; rw [← hx]; simpa using this
  rw [hx] at hix
  have hx0 : x < 0 := by rw [hmk] at hxm; simpa using hxm
  have HIX := Aside0.mk hix; clear hix hx hxm
  have hpx : bs (s.extract p s.size) = (bs s).drop p := by rw [drop_extract]; exact List.take_of_length_le (by rw [List.length_drop, bs_length]; omega)
  have hhp : ∀ w, Calls Tryd.prog 33 #[.string (s.extract p s.size), .string ⟨#[46, 46, 46]⟩] w fun e w' => e = .returned (.bool false) ∧ w' = w := fun w => by
    have h1 := lib_HasPrefix (s.extract p s.size) ⟨#[46, 46, 46]⟩ w
    have h2 : Lib.hasPrefix (s.extract p s.size).data.toList (⟨#[46, 46, 46]⟩ : ByteArray).data.toList = false := by
      show Lib.hasPrefix (bs (s.extract p s.size)) [46, 46, 46] = false
      rw [hpx]; exact (prefix3 _).trans (by simpa using hdt)
    rw [h2] at h1; exact h1
  have ht : T = .error 1300 := by
    rw [← HT.out]; conv => lhs; rw [HD.out]; unfold Lx.token
    simp only [hf, hdg, Bool.false_eq_true, if_false]
    rw [if_neg h45]
    rw [if_neg h34, hmk]; simp only [Bool.false_eq_true, if_false]; rw [← HD.out, if_neg hdt]
  have Ht := Aside0.mk ht; have HP := Aside0.mk hhp; clear ht hhp hpx hf h45 hdg h34 hmk hdt
  go_enter Tryd.func24, Tryd.ntmps24
  go_wp2_with fail
  go_quiet (fail)
  rename_i nq
  have hb1 : Below B w (w.drewN nq) := pw_below_drewN (Below.refl _ _) nq
  have hS1 : LxSt B (w.drewN nq) g s p ts := HSt.out.below (pw_below_drewN (Below.refl _ _) nq)
  have HB1 := Aside0.mk hb1; have HS1 := Aside0.mk hS1; clear hb1 hS1
  go_wp2_with (first | (go_at_call 27; refine (HFC.out _).mono ?_; rintro e w' ⟨rfl, rfl⟩) | (go_at_call 29; refine (HDC.out _).mono ?_; rintro e w' ⟨rfl, rfl⟩) | (go_at_call 23; refine (HIX.out _).mono ?_; rintro e w' ⟨rfl, rfl⟩))
  have hI1 : IsLx (w.drewN nq) g s p v := HI.out
  clear hc0 hc1 hc2 hf1 hf2
  generalize w.drewN nq = w1 at *
  obtain ⟨hc0, hc1, hc2, hf1, hf2⟩ := hI1.cells
  have HI1 := Aside0.mk hI1; clear hI1
  go_quiet ((go_at_call 33; exact Calls.quiet_of_same (HP.out _)))
  have hI3 : IsLx (w1.drewN nq) g s p v := HI1.out
  have hB3 : Below B w (w1.drewN nq) := pw_below_drewN HB1.out nq
  have hS3 : LxSt B (w1.drewN nq) g s p ts := HS1.out.below (pw_below_drewN (Below.refl _ _) nq)
  clear hc0 hc1 hc2 hf1 hf2
  generalize w1.drewN nq = w2 at *
  obtain ⟨hc0, hc1, hc2, hf1, hf2⟩ := hI3.cells
  have HB2 := Aside0.mk hB3; have HS2 := Aside0.mk hS3; clear hI3 hB3 hS3
  go_wp2_with fail
  try (simp only [Exit.inBlock, Exit.then])
  go_ret
  exact tok_err Ht.out HB2.out ⟨rfl, Below.refl _ _⟩
end Go.Proofs.YtapbpmpeikobcaaDoor.Q
