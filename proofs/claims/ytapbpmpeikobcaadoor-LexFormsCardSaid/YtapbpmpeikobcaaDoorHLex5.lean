/- What the lexer's number leaves: one token more, or an error. Condition: a text of at most 70000 bytes. -/
import Derived.Test.YtapbpmpeikobcaaDoorHLex4
import Derived.Deep.RegionHeld3
set_option linter.unusedVariables false
set_option linter.unusedSimpArgs false
namespace Go.Proofs.YtapbpmpeikobcaaDoor.Q
open Go.RowKit Go.Proofs.YtapbpmpeikobcaaDoorW.PrintWords Go.Proofs.YtapbpmpeikobcaaDoorW.PrintLast Go.Proofs.YtapbpmpeikobcaaDoorW.PrintMore

set_option maxRecDepth 20000 in
theorem number_neg_none (B g : Nat) (s : ByteArray) (p m r : Nat) (ts : List Lx.Tok) (w : World) (hs : s.size ≤ 70000) (h : LxSt B w g s p ts) (hl : ts.length ≤ 70000) (hp : p < s.size) (hb : (s[p]).toNat = 45)
    (hm : (p + 1) + Lx.run Lx.isDigit ((bs s).drop (p + 1)) = m) (hr : m + Lx.run Lx.isWord ((bs s).drop m) = r)
    (h0 : m = (p + 1)) :
    Calls Tryd.prog 30 #[.pointer (some ⟨g, 0, none⟩)] w (LxErr B w 1300) := by
  obtain ⟨v, hI, hB, hO⟩ := h
  obtain ⟨hc0, hc1, hc2, hf1, hf2⟩ := hI.cells
  have hle : (p + 1) ≤ m ∧ m ≤ s.size := by have := Lx.run_le Lx.isDigit ((bs s).drop (p + 1)); rw [List.length_drop, bs_length] at this; omega
  obtain ⟨hle1, hle2⟩ := hle
  have hrun := run_digit g s p v (p + 1) w (by omega) (by omega) hI
  rw [hm] at hrun
  try simp only [Int.natCast_add, Int.natCast_one] at hrun
  have hlt : B ≤ w.heap.size := by have := blk_lt hI; omega
  have hrw := run_word g s p v m w (by omega) hle2 hI
  rw [hr] at hrw
  have hle3 : m ≤ r ∧ r ≤ s.size := by have := Lx.run_le Lx.isWord ((bs s).drop m); rw [List.length_drop, bs_length] at this; omega
  obtain ⟨hle3, hle4⟩ := hle3
  have hbb : (((s[p]).toNat : Int) == 45) = true := by simp; omega
  have e1 : ((m : Int) == ((p : Int) + 1)) = true := by simp; omega
  clear h0 hI hO
  have HR := Aside0.mk hrun; have HW := Aside0.mk hrw; clear hrun hrw hm hr hb
  go_enter Tryd.func30, Tryd.ntmps30
  go_wp2_with fail
  refine (HR.out).mono ?_
  rintro e w' ⟨rfl, rfl⟩
  go_wp2_with fail
  go_ret
  exact ⟨rfl, Below.refl _ _⟩
set_option maxRecDepth 20000 in
theorem number_neg_long (B g : Nat) (s : ByteArray) (p m r : Nat) (ts : List Lx.Tok) (w : World) (hs : s.size ≤ 70000) (h : LxSt B w g s p ts) (hl : ts.length ≤ 70000) (hp : p < s.size) (hb : (s[p]).toNat = 45)
    (hm : (p + 1) + Lx.run Lx.isDigit ((bs s).drop (p + 1)) = m) (hr : m + Lx.run Lx.isWord ((bs s).drop m) = r)
    (h0 : ¬ m = (p + 1)) (h15 : 15 < m - (p + 1)) :
    Calls Tryd.prog 30 #[.pointer (some ⟨g, 0, none⟩)] w (LxErr B w 1300) := by
  obtain ⟨v, hI, hB, hO⟩ := h
  obtain ⟨hc0, hc1, hc2, hf1, hf2⟩ := hI.cells
  have hle : (p + 1) ≤ m ∧ m ≤ s.size := by have := Lx.run_le Lx.isDigit ((bs s).drop (p + 1)); rw [List.length_drop, bs_length] at this; omega
  obtain ⟨hle1, hle2⟩ := hle
  have hrun := run_digit g s p v (p + 1) w (by omega) (by omega) hI
  rw [hm] at hrun
  try simp only [Int.natCast_add, Int.natCast_one] at hrun
  have hlt : B ≤ w.heap.size := by have := blk_lt hI; omega
  have hrw := run_word g s p v m w (by omega) hle2 hI
  rw [hr] at hrw
  have hle3 : m ≤ r ∧ r ≤ s.size := by have := Lx.run_le Lx.isWord ((bs s).drop m); rw [List.length_drop, bs_length] at this; omega
  obtain ⟨hle3, hle4⟩ := hle3
  have hbb : (((s[p]).toNat : Int) == 45) = true := by simp; omega
  have e1 : ((m : Int) == ((p : Int) + 1)) = false := by simp; omega
  have e2 : 15 < (m : Int) - ((p : Int) + 1) := by omega
  clear h0 h15 hI hO
  have HR := Aside0.mk hrun; have HW := Aside0.mk hrw; clear hrun hrw hm hr hb
  go_enter Tryd.func30, Tryd.ntmps30
  go_wp2_with fail
  refine (HR.out).mono ?_
  rintro e w' ⟨rfl, rfl⟩
  go_wp2_with fail
  go_ret
  exact ⟨rfl, Below.refl _ _⟩
set_option maxRecDepth 20000 in
theorem number_neg_word (B g : Nat) (s : ByteArray) (p m r : Nat) (ts : List Lx.Tok) (w : World) (hs : s.size ≤ 70000) (h : LxSt B w g s p ts) (hl : ts.length ≤ 70000) (hp : p < s.size) (hb : (s[p]).toNat = 45)
    (hm : (p + 1) + Lx.run Lx.isDigit ((bs s).drop (p + 1)) = m) (hr : m + Lx.run Lx.isWord ((bs s).drop m) = r)
    (h0 : ¬ m = (p + 1)) (h15 : ¬ 15 < m - (p + 1)) (hw : m < r) :
    Calls Tryd.prog 30 #[.pointer (some ⟨g, 0, none⟩)] w (LxErr B w 1300) := by
  obtain ⟨v, hI, hB, hO⟩ := h
  obtain ⟨hc0, hc1, hc2, hf1, hf2⟩ := hI.cells
  have hle : (p + 1) ≤ m ∧ m ≤ s.size := by have := Lx.run_le Lx.isDigit ((bs s).drop (p + 1)); rw [List.length_drop, bs_length] at this; omega
  obtain ⟨hle1, hle2⟩ := hle
  have hrun := run_digit g s p v (p + 1) w (by omega) (by omega) hI
  rw [hm] at hrun
  try simp only [Int.natCast_add, Int.natCast_one] at hrun
  have hlt : B ≤ w.heap.size := by have := blk_lt hI; omega
  have hrw := run_word g s p v m w (by omega) hle2 hI
  rw [hr] at hrw
  have hle3 : m ≤ r ∧ r ≤ s.size := by have := Lx.run_le Lx.isWord ((bs s).drop m); rw [List.length_drop, bs_length] at this; omega
  obtain ⟨hle3, hle4⟩ := hle3
  have hbb : (((s[p]).toNat : Int) == 45) = true := by simp; omega
  have e1 : ((m : Int) == ((p : Int) + 1)) = false := by simp; omega
  have e2 : (m : Int) - ((p : Int) + 1) ≤ 15 := by omega
  have e3 : (m : Int) < r := by omega
  clear h0 h15 hI hO
  have HR := Aside0.mk hrun; have HW := Aside0.mk hrw; clear hrun hrw hm hr hb
  go_enter Tryd.func30, Tryd.ntmps30
  go_wp2_with fail
  refine (HR.out).mono ?_
  rintro e w' ⟨rfl, rfl⟩
  go_wp2_with fail
  refine (HW.out).mono ?_
  rintro e w2 ⟨rfl, rfl⟩
  go_wp2_with fail
  go_ret
  exact ⟨rfl, Below.refl _ _⟩
set_option maxRecDepth 20000 in
theorem number_neg_ok (B g : Nat) (s : ByteArray) (p m r : Nat) (ts : List Lx.Tok) (w : World) (hs : s.size ≤ 70000) (h : LxSt B w g s p ts) (hl : ts.length ≤ 70000) (hp : p < s.size) (hb : (s[p]).toNat = 45)
    (hm : (p + 1) + Lx.run Lx.isDigit ((bs s).drop (p + 1)) = m) (hr : m + Lx.run Lx.isWord ((bs s).drop m) = r)
    (h0 : ¬ m = (p + 1)) (h15 : ¬ 15 < m - (p + 1)) (hw : m = r) (x : Int) (hx : Lib.atoi (bs (s.extract p m)) = some x) :
    Calls Tryd.prog 30 #[.pointer (some ⟨g, 0, none⟩)] w (LxPost B w g s m (ts ++ [⟨1, [], x, p⟩])) := by
  obtain ⟨v, hI, hB, hO⟩ := h
  obtain ⟨hc0, hc1, hc2, hf1, hf2⟩ := hI.cells
  have hle : (p + 1) ≤ m ∧ m ≤ s.size := by have := Lx.run_le Lx.isDigit ((bs s).drop (p + 1)); rw [List.length_drop, bs_length] at this; omega
  obtain ⟨hle1, hle2⟩ := hle
  have hrun := run_digit g s p v (p + 1) w (by omega) (by omega) hI
  rw [hm] at hrun
  try simp only [Int.natCast_add, Int.natCast_one] at hrun
  have hlt : B ≤ w.heap.size := by have := blk_lt hI; omega
  have hrw := run_word g s p v m w (by omega) hle2 hI
  rw [hr] at hrw
  have hle3 : m ≤ r ∧ r ≤ s.size := by have := Lx.run_le Lx.isWord ((bs s).drop m); rw [List.length_drop, bs_length] at this; omega
  obtain ⟨hle3, hle4⟩ := hle3
  have hbb : (((s[p]).toNat : Int) == 45) = true := by simp; omega
  have hSt : LxSt B w g s p ts := ⟨v, hI, hB, hO⟩
  have hat : ∀ w, Calls Tryd.prog 38 #[.string (s.extract p m)] w fun e w' => e = .returned (.tuple #[.int .i64 x, .nilIface]) ∧ Below w.heap.size w w' := fun w => (Tryd.strconv_Atoi _ x (by simp; omega) hx w).mono fun e w' ⟨h1, t, h2⟩ => ⟨h1, by rw [h2]; exact bytes_below (Below.refl _ w) (Nat.le_refl _) 5 t⟩
  have e1 : ((m : Int) == ((p : Int) + 1)) = false := by simp; omega
  have e2 : (m : Int) - ((p : Int) + 1) ≤ 15 := by omega
  have e3 : (r : Int) ≤ m := by omega
  have hle5 : p ≤ m := by omega
  have HAt := Aside0.mk hat; have HSt := Aside0.mk hSt; have HI := Aside0.mk hI; clear h0 h15 hO hat hx hSt hw hI
  have HR := Aside0.mk hrun; have HW := Aside0.mk hrw; clear hrun hrw hm hr hb
  go_enter Tryd.func30, Tryd.ntmps30
  go_wp2_with fail
  refine (HR.out).mono ?_
  rintro e w' ⟨rfl, rfl⟩
  go_wp2_with fail
  refine (HW.out).mono ?_
  rintro e w2 ⟨rfl, rfl⟩
  go_wp2_with fail
  go_region_held3 (fun w' => w'.cell? ⟨g, 0, none⟩ = some (.string s) ∧ w'.cell? ⟨g, 1, none⟩ = some (.int .i64 p) ∧ w'.cell? ⟨g, 2, none⟩ = some v ∧ w'.frozen? ⟨g, 1, none⟩ = false ∧ w'.frozen? ⟨g, 2, none⟩ = false)
    (first | exact IsLx.cells (blk_drew HI.out) | exact IsLx.cells (blk_below (blk_drew HI.out) hb))
    (first | (go_at_call 38; refine (HAt.out _).mono ?_; rintro e w3 ⟨rfl, hb⟩))
  have hB3 : Below B w2 w3 := (Below.refl B w2).drew.trans (hb.mono (by simpa using HSt.out.lt))
  have hS3 : LxSt B w3 g s p ts := (HSt.out.below (Below.refl _ w2).drew).below hb
  have HB3 := Aside0.mk hB3; have HAdd := Aside0.mk (add_any B g s p ts 1 [] x 0 m w3 hS3 hl); clear hb hB3 hS3
  go_wp2_with fail
  refine (HAdd.out).mono ?_
  rintro e w4 ⟨rfl, h4, b4⟩
  have H4 := Aside0.mk h4; have B4 := Aside0.mk b4; clear h4 b4
  go_wp2_with fail
  go_ret
  exact ⟨rfl, H4.out, HB3.out.trans B4.out⟩
set_option maxRecDepth 20000 in
theorem number_pos_none (B g : Nat) (s : ByteArray) (p m r : Nat) (ts : List Lx.Tok) (w : World) (hs : s.size ≤ 70000) (h : LxSt B w g s p ts) (hl : ts.length ≤ 70000) (hp : p < s.size) (hb : ¬ (s[p]).toNat = 45)
    (hm : p + Lx.run Lx.isDigit ((bs s).drop p) = m) (hr : m + Lx.run Lx.isWord ((bs s).drop m) = r)
    (h0 : m = p) :
    Calls Tryd.prog 30 #[.pointer (some ⟨g, 0, none⟩)] w (LxErr B w 1300) := by
  obtain ⟨v, hI, hB, hO⟩ := h
  obtain ⟨hc0, hc1, hc2, hf1, hf2⟩ := hI.cells
  have hle : p ≤ m ∧ m ≤ s.size := by have := Lx.run_le Lx.isDigit ((bs s).drop p); rw [List.length_drop, bs_length] at this; omega
  obtain ⟨hle1, hle2⟩ := hle
  have hrun := run_digit g s p v p w (by omega) (by omega) hI
  rw [hm] at hrun
  try simp only [Int.natCast_add, Int.natCast_one] at hrun
  have hlt : B ≤ w.heap.size := by have := blk_lt hI; omega
  have hrw := run_word g s p v m w (by omega) hle2 hI
  rw [hr] at hrw
  have hle3 : m ≤ r ∧ r ≤ s.size := by have := Lx.run_le Lx.isWord ((bs s).drop m); rw [List.length_drop, bs_length] at this; omega
  obtain ⟨hle3, hle4⟩ := hle3
  have hbb : (((s[p]).toNat : Int) == 45) = false := by simp; omega
  have e1 : ((m : Int) == (p : Int)) = true := by simp; omega
  clear h0 hI hO
  have HR := Aside0.mk hrun; have HW := Aside0.mk hrw; clear hrun hrw hm hr hb
  go_enter Tryd.func30, Tryd.ntmps30
  go_wp2_with fail
  refine (HR.out).mono ?_
  rintro e w' ⟨rfl, rfl⟩
  go_wp2_with fail
  go_ret
  exact ⟨rfl, Below.refl _ _⟩
set_option maxRecDepth 20000 in
theorem number_pos_long (B g : Nat) (s : ByteArray) (p m r : Nat) (ts : List Lx.Tok) (w : World) (hs : s.size ≤ 70000) (h : LxSt B w g s p ts) (hl : ts.length ≤ 70000) (hp : p < s.size) (hb : ¬ (s[p]).toNat = 45)
    (hm : p + Lx.run Lx.isDigit ((bs s).drop p) = m) (hr : m + Lx.run Lx.isWord ((bs s).drop m) = r)
    (h0 : ¬ m = p) (h15 : 15 < m - p) :
    Calls Tryd.prog 30 #[.pointer (some ⟨g, 0, none⟩)] w (LxErr B w 1300) := by
  obtain ⟨v, hI, hB, hO⟩ := h
  obtain ⟨hc0, hc1, hc2, hf1, hf2⟩ := hI.cells
  have hle : p ≤ m ∧ m ≤ s.size := by have := Lx.run_le Lx.isDigit ((bs s).drop p); rw [List.length_drop, bs_length] at this; omega
  obtain ⟨hle1, hle2⟩ := hle
  have hrun := run_digit g s p v p w (by omega) (by omega) hI
  rw [hm] at hrun
  try simp only [Int.natCast_add, Int.natCast_one] at hrun
  have hlt : B ≤ w.heap.size := by have := blk_lt hI; omega
  have hrw := run_word g s p v m w (by omega) hle2 hI
  rw [hr] at hrw
  have hle3 : m ≤ r ∧ r ≤ s.size := by have := Lx.run_le Lx.isWord ((bs s).drop m); rw [List.length_drop, bs_length] at this; omega
  obtain ⟨hle3, hle4⟩ := hle3
  have hbb : (((s[p]).toNat : Int) == 45) = false := by simp; omega
  have e1 : ((m : Int) == (p : Int)) = false := by simp; omega
  have e2 : 15 < (m : Int) - (p : Int) := by omega
  clear h0 h15 hI hO
  have HR := Aside0.mk hrun; have HW := Aside0.mk hrw; clear hrun hrw hm hr hb
  go_enter Tryd.func30, Tryd.ntmps30
  go_wp2_with fail
  refine (HR.out).mono ?_
  rintro e w' ⟨rfl, rfl⟩
  go_wp2_with fail
  go_ret
  exact ⟨rfl, Below.refl _ _⟩
set_option maxRecDepth 20000 in
theorem number_pos_word (B g : Nat) (s : ByteArray) (p m r : Nat) (ts : List Lx.Tok) (w : World) (hs : s.size ≤ 70000) (h : LxSt B w g s p ts) (hl : ts.length ≤ 70000) (hp : p < s.size) (hb : ¬ (s[p]).toNat = 45)
    (hm : p + Lx.run Lx.isDigit ((bs s).drop p) = m) (hr : m + Lx.run Lx.isWord ((bs s).drop m) = r)
    (h0 : ¬ m = p) (h15 : ¬ 15 < m - p) (hw : m < r) :
    Calls Tryd.prog 30 #[.pointer (some ⟨g, 0, none⟩)] w (LxErr B w 1300) := by
  obtain ⟨v, hI, hB, hO⟩ := h
  obtain ⟨hc0, hc1, hc2, hf1, hf2⟩ := hI.cells
  have hle : p ≤ m ∧ m ≤ s.size := by have := Lx.run_le Lx.isDigit ((bs s).drop p); rw [List.length_drop, bs_length] at this; omega
  obtain ⟨hle1, hle2⟩ := hle
  have hrun := run_digit g s p v p w (by omega) (by omega) hI
  rw [hm] at hrun
  try simp only [Int.natCast_add, Int.natCast_one] at hrun
  have hlt : B ≤ w.heap.size := by have := blk_lt hI; omega
  have hrw := run_word g s p v m w (by omega) hle2 hI
  rw [hr] at hrw
  have hle3 : m ≤ r ∧ r ≤ s.size := by have := Lx.run_le Lx.isWord ((bs s).drop m); rw [List.length_drop, bs_length] at this; omega
  obtain ⟨hle3, hle4⟩ := hle3
  have hbb : (((s[p]).toNat : Int) == 45) = false := by simp; omega
  have e1 : ((m : Int) == (p : Int)) = false := by simp; omega
  have e2 : (m : Int) - (p : Int) ≤ 15 := by omega
  have e3 : (m : Int) < r := by omega
  clear h0 h15 hI hO
  have HR := Aside0.mk hrun; have HW := Aside0.mk hrw; clear hrun hrw hm hr hb
  go_enter Tryd.func30, Tryd.ntmps30
  go_wp2_with fail
  refine (HR.out).mono ?_
  rintro e w' ⟨rfl, rfl⟩
  go_wp2_with fail
  refine (HW.out).mono ?_
  rintro e w2 ⟨rfl, rfl⟩
  go_wp2_with fail
  go_ret
  exact ⟨rfl, Below.refl _ _⟩
set_option maxRecDepth 20000 in
theorem number_pos_ok (B g : Nat) (s : ByteArray) (p m r : Nat) (ts : List Lx.Tok) (w : World) (hs : s.size ≤ 70000) (h : LxSt B w g s p ts) (hl : ts.length ≤ 70000) (hp : p < s.size) (hb : ¬ (s[p]).toNat = 45)
    (hm : p + Lx.run Lx.isDigit ((bs s).drop p) = m) (hr : m + Lx.run Lx.isWord ((bs s).drop m) = r)
    (h0 : ¬ m = p) (h15 : ¬ 15 < m - p) (hw : m = r) (x : Int) (hx : Lib.atoi (bs (s.extract p m)) = some x) :
    Calls Tryd.prog 30 #[.pointer (some ⟨g, 0, none⟩)] w (LxPost B w g s m (ts ++ [⟨1, [], x, p⟩])) := by
  obtain ⟨v, hI, hB, hO⟩ := h
  obtain ⟨hc0, hc1, hc2, hf1, hf2⟩ := hI.cells
  have hle : p ≤ m ∧ m ≤ s.size := by have := Lx.run_le Lx.isDigit ((bs s).drop p); rw [List.length_drop, bs_length] at this; omega
  obtain ⟨hle1, hle2⟩ := hle
  have hrun := run_digit g s p v p w (by omega) (by omega) hI
  rw [hm] at hrun
  try simp only [Int.natCast_add, Int.natCast_one] at hrun
  have hlt : B ≤ w.heap.size := by have := blk_lt hI; omega
  have hrw := run_word g s p v m w (by omega) hle2 hI
  rw [hr] at hrw
  have hle3 : m ≤ r ∧ r ≤ s.size := by have := Lx.run_le Lx.isWord ((bs s).drop m); rw [List.length_drop, bs_length] at this; omega
  obtain ⟨hle3, hle4⟩ := hle3
  have hbb : (((s[p]).toNat : Int) == 45) = false := by simp; omega
  have hSt : LxSt B w g s p ts := ⟨v, hI, hB, hO⟩
  have hat : ∀ w, Calls Tryd.prog 38 #[.string (s.extract p m)] w fun e w' => e = .returned (.tuple #[.int .i64 x, .nilIface]) ∧ Below w.heap.size w w' := fun w => (Tryd.strconv_Atoi _ x (by simp; omega) hx w).mono fun e w' ⟨h1, t, h2⟩ => ⟨h1, by rw [h2]; exact bytes_below (Below.refl _ w) (Nat.le_refl _) 5 t⟩
  have e1 : ((m : Int) == (p : Int)) = false := by simp; omega
  have e2 : (m : Int) - (p : Int) ≤ 15 := by omega
  have e3 : (r : Int) ≤ m := by omega
  have hle5 : p ≤ m := by omega
  have HAt := Aside0.mk hat; have HSt := Aside0.mk hSt; have HI := Aside0.mk hI; clear h0 h15 hO hat hx hSt hw hI
  have HR := Aside0.mk hrun; have HW := Aside0.mk hrw; clear hrun hrw hm hr hb
  go_enter Tryd.func30, Tryd.ntmps30
  go_wp2_with fail
  refine (HR.out).mono ?_
  rintro e w' ⟨rfl, rfl⟩
  go_wp2_with fail
  refine (HW.out).mono ?_
  rintro e w2 ⟨rfl, rfl⟩
  go_wp2_with fail
  go_region_held3 (fun w' => w'.cell? ⟨g, 0, none⟩ = some (.string s) ∧ w'.cell? ⟨g, 1, none⟩ = some (.int .i64 p) ∧ w'.cell? ⟨g, 2, none⟩ = some v ∧ w'.frozen? ⟨g, 1, none⟩ = false ∧ w'.frozen? ⟨g, 2, none⟩ = false)
    (first | exact IsLx.cells (blk_drew HI.out) | exact IsLx.cells (blk_below (blk_drew HI.out) hb))
    (first | (go_at_call 38; refine (HAt.out _).mono ?_; rintro e w3 ⟨rfl, hb⟩))
  have hB3 : Below B w2 w3 := (Below.refl B w2).drew.trans (hb.mono (by simpa using HSt.out.lt))
  have hS3 : LxSt B w3 g s p ts := (HSt.out.below (Below.refl _ w2).drew).below hb
  have HB3 := Aside0.mk hB3; have HAdd := Aside0.mk (add_any B g s p ts 1 [] x 0 m w3 hS3 hl); clear hb hB3 hS3
  go_wp2_with fail
  refine (HAdd.out).mono ?_
  rintro e w4 ⟨rfl, h4, b4⟩
  have H4 := Aside0.mk h4; have B4 := Aside0.mk b4; clear h4 b4
  go_wp2_with fail
  go_ret
  exact ⟨rfl, H4.out, HB3.out.trans B4.out⟩
end Go.Proofs.YtapbpmpeikobcaaDoor.Q
