/- What op's reader reads, as plain steps over the bytes that are left (none: it is bad). Condition: a text of at most 140737488351232 bytes. -/
import Derived.Test.YtaaaeonalomcgaaUHVar
import Derived.Test.YtaaaeonalomcgaaUHBase
import Derived.Outline
import Derived.Deep.RegionLaw
set_option linter.unusedVariables false
set_option linter.unusedSimpArgs false
namespace Go.Proofs.Ytaaaeonalomcgaa.Q
open Go.RowKit Go.Proofs.YtaaaeonalomcgaaW.PrintWords Go.Proofs.YtaaaeonalomcgaaW.PrintLast Go.Proofs.YtaaaeonalomcgaaW.PrintMore Sp
def IsRd (W : World) (g : Nat) (s : ByteArray) (a : Nat) (bad : Bool) : Prop := W.heap[g]? = some (.cells #[.string s, .int .i64 a, .bool bad] 59 (0, 0))
theorem IsRd.cells {W : World} {g : Nat} {s : ByteArray} {a : Nat} {bad : Bool} (h : IsRd W g s a bad) :
    W.cell? ⟨g, 0, none⟩ = some (.string s) ∧ W.cell? ⟨g, 1, none⟩ = some (.int .i64 a) ∧ W.cell? ⟨g, 2, none⟩ = some (.bool bad) ∧ W.frozen? ⟨g, 1, none⟩ = false ∧ W.frozen? ⟨g, 2, none⟩ = false :=
  ⟨(blk_cell h 0).trans rfl, (blk_cell h 1).trans rfl, (blk_cell h 2).trans rfl, blk_frozen h 1, blk_frozen h 2⟩
theorem IsRd.bad {W : World} {g : Nat} {s : ByteArray} {a : Nat} {bad : Bool} (h : IsRd W g s a bad) (b : Bool) : IsRd (W.setCell ⟨g, 2, none⟩ (.bool b)) g s a b := by unfold IsRd at *; simpa using blk_set h 2 (.bool b)
theorem IsRd.at_ {W : World} {g : Nat} {s : ByteArray} {a : Nat} {bad : Bool} (h : IsRd W g s a bad) (c : Nat) : IsRd (W.setCell ⟨g, 1, none⟩ (.int .i64 c)) g s c bad := by unfold IsRd at *; simpa using blk_set h 1 (.int .i64 c)
def Rd (w : World) (g : Nat) (s : ByteArray) (st : Option (List UInt8)) : Prop := ∃ (a : Nat) (bad : Bool), IsRd w g s a bad ∧ a ≤ s.size ∧ bad = st.isNone ∧ ∀ b, st = some b → b = (bs s).drop a
theorem Rd.of (w w1 : World) {S : Nat → Prop} {g : Nat} {s : ByteArray} {st : Option (List UInt8)} (h : Rd w g s st) (hc : Chg S w w1) (hg : ¬ S g) : Rd w1 g s st := by
  obtain ⟨a, bad, h1, h2⟩ := h
  exact ⟨a, bad, hc.blk h1 hg, h2⟩
theorem Rd.blk {w : World} {g : Nat} {s : ByteArray} {st : Option (List UInt8)} (h : Rd w g s st) : ∃ cs, w.heap[g]? = some (.cells cs 59 (0, 0)) := by
  obtain ⟨a, bad, h1, _⟩ := h
  exact ⟨_, h1⟩
def numS : Option (List UInt8) → Int × Option (List UInt8)
  | none => (0, none)
  | some b => match gn b with | none => (0, none) | some (x, r) => ((x : Int), some r)
def textS : Option (List UInt8) → List UInt8 × Option (List UInt8)
  | none => ([], none)
  | some b => match gt b with | none => ([], none) | some (x, r) => (x, some r)
def RdPost (w : World) (g : Nat) (s : ByteArray) (st : Option (List UInt8)) (v : Value) : Ending → World → Prop := fun e w' => e = .returned v ∧ Rd w' g s st ∧ Chg (· = g) w w'
theorem get_some {s : ByteArray} (hs : s.size ≤ 140737488351232) {a : Nat} (ha : a ≤ s.size) (w : World) : ∃ r1 r2 r3 : Int, getS s a = (r1, r2, r3) ∧
    Calls Try.prog 41 #[.string s, .int .i64 a] w fun e w' => e = .returned (.tuple #[.int .i64 r1, .int .i64 r2, .int .i64 r3]) ∧ Below w.heap.size w w' := by
  obtain ⟨k, hk⟩ := (get_ev s hs a ha).rounds
  exact ⟨_, _, _, rfl, varint_Get.calls k s a _ _ _ w hk⟩
theorem getText_some {s : ByteArray} (hs : s.size ≤ 140737488351232) {a : Nat} (ha : a ≤ s.size) (w : World) : ∃ (r1 : ByteArray) (r2 r3 : Int), getTextS s a = (r1, r2, r3) ∧
    Calls Try.prog 42 #[.string s, .int .i64 a] w fun e w' => e = .returned (.tuple #[.string r1, .int .i64 r2, .int .i64 r3]) ∧ Below w.heap.size w w' := by
  obtain ⟨k, hk⟩ := (getText_ev s hs a ha).rounds
  exact ⟨_, _, _, rfl, varint_GetText.calls k s a _ _ _ w hk⟩
theorem rd_num (g : Nat) (s : ByteArray) (st : Option (List UInt8)) (w : World) (hs : s.size ≤ 140737488351232) (h : Rd w g s st) :
    Calls Try.prog 28 #[.pointer (some ⟨g, 0, none⟩)] w (RdPost w g s (numS st).2 (.int .i64 (numS st).1)) := by
  obtain ⟨a, bad, hI, ha, hbad, hrest⟩ := h
  obtain ⟨r1, r2, r3, hr, hcall⟩ := get_some hs ha w.drew
  have Hcall := Aside0.mk hcall; clear hcall
  obtain ⟨hc0, hc1, hc2, hf1, hf2⟩ := hI.cells
  have hold : bad = true → (numS st).1 = 0 ∧ (numS st).2 = none := by rintro rfl; cases st with | none => exact ⟨rfl, rfl⟩ | some b => simp at hbad
  have herr : bad = false → r3 ≠ 0 → (numS st).1 = 0 ∧ (numS st).2 = none := by
    rintro rfl h3
    cases st with
    | none => simp at hbad
    | some b =>
      have hb := hrest b rfl
      subst hb
      simp only [numS]
      unfold getS at hr
      cases hg : gn ((bs s).drop a) with
      | none => exact ⟨rfl, rfl⟩
      | some q => rw [hg] at hr; simp at hr; exact absurd hr.2.2.symm h3
  have hok : bad = false → r3 = 0 → ∃ c : Nat, r2 = c ∧ c ≤ s.size ∧ (numS st).1 = r1 ∧ (numS st).2 = some ((bs s).drop c) := by
    rintro rfl h3
    cases st with
    | none => simp at hbad
    | some b =>
      have hb := hrest b rfl
      subst hb
      simp only [numS]
      unfold getS at hr
      cases hg : gn ((bs s).drop a) with
      | none => rw [hg] at hr; simp at hr; rw [← hr.2.2] at h3; split at h3 <;> cases h3
      | some q =>
        obtain ⟨x, r⟩ := q
        rw [hg] at hr; simp only [Prod.mk.injEq] at hr
        obtain ⟨rfl, rfl, _⟩ := hr
        have h1 := gn_le hg
        have h2 := gn_drop hg
        have hlen : ((bs s).drop a).length = s.size - a := by rw [List.length_drop, bs_length]
        rw [hlen] at h1 h2
        refine ⟨s.size - r.length, by omega, by omega, rfl, ?_⟩
        rw [List.drop_drop] at h2
        rw [show s.size - r.length = a + (s.size - a - r.length) from by omega, ← h2]
  have Hold := Aside0.mk hold; have Herr := Aside0.mk herr; have Hok := Aside0.mk hok; have Hr := Aside0.mk hr; have Hrest := Aside0.mk hrest; have Hbad := Aside0.mk hbad
  clear hold herr hok hr hrest hbad
  cases bad with
  | true =>
    obtain ⟨e1, e2⟩ := Hold.out rfl
    unfold RdPost; rw [e1, e2]
    clear Hold Herr Hok Hbad Hrest e1 e2
    go_enter Try.func28, Try.ntmps28
    go_wp2_with fail
    go_region_held3 (fun w' => w'.cell? ⟨g, 0, none⟩ = some (.string s) ∧ w'.cell? ⟨g, 1, none⟩ = some (.int .i64 a) ∧ w'.cell? ⟨g, 2, none⟩ = some (.bool true) ∧ w'.frozen? ⟨g, 1, none⟩ = false ∧ w'.frozen? ⟨g, 2, none⟩ = false)
      (first | exact IsRd.cells (blk_drew hI) | exact IsRd.cells (blk_below (blk_drew hI) hb))
      (first | (go_at_call 41; refine (Hcall.out).mono ?_; rintro e w1 ⟨rfl, hb⟩))
    have HI1 : IsRd w1 g s a true := blk_below (blk_drew hI) hb
    obtain ⟨hd0, hd1, hd2, hg1, hg2⟩ := HI1.cells
    go_wp2
    go_ret
    exact ⟨rfl, ⟨a, true, HI1.bad true, ha, rfl, fun b h => by cases h⟩, (Chg.of_drew hb).seti _ _⟩
  | false =>
    by_cases h3 : r3 = 0
    · obtain ⟨c, e2, hc, e3, e4⟩ := Hok.out rfl h3
      subst e2
      unfold RdPost; rw [e3, e4]
      have h3b : (r3 != 0) = false := bne_eq_false_iff_eq.mpr h3
      clear Hold Herr Hok Hbad Hrest e3 e4 h3
      go_enter Try.func28, Try.ntmps28
      go_wp2_with fail
      go_region_held3 (fun w' => w'.cell? ⟨g, 0, none⟩ = some (.string s) ∧ w'.cell? ⟨g, 1, none⟩ = some (.int .i64 a) ∧ w'.cell? ⟨g, 2, none⟩ = some (.bool false) ∧ w'.frozen? ⟨g, 1, none⟩ = false ∧ w'.frozen? ⟨g, 2, none⟩ = false)
        (first | exact IsRd.cells (blk_drew hI) | exact IsRd.cells (blk_below (blk_drew hI) hb))
        (first | (go_at_call 41; refine (Hcall.out).mono ?_; rintro e w1 ⟨rfl, hb⟩))
      have HI1 : IsRd w1 g s a false := blk_below (blk_drew hI) hb
      obtain ⟨hd0, hd1, hd2, hg1, hg2⟩ := HI1.cells
      go_wp2
      go_ret
      exact ⟨rfl, ⟨c, false, (HI1.bad false).at_ c, hc, rfl, fun b h => by cases h; rfl⟩, ((Chg.of_drew hb).seti _ _).seti _ _⟩
    · obtain ⟨e1, e2⟩ := Herr.out rfl h3
      unfold RdPost; rw [e1, e2]
      have h3b : (r3 != 0) = true := bne_iff_ne.mpr h3
      clear Hold Herr Hok Hbad Hrest e1 e2 h3
      go_enter Try.func28, Try.ntmps28
      go_wp2_with fail
      go_region_held3 (fun w' => w'.cell? ⟨g, 0, none⟩ = some (.string s) ∧ w'.cell? ⟨g, 1, none⟩ = some (.int .i64 a) ∧ w'.cell? ⟨g, 2, none⟩ = some (.bool false) ∧ w'.frozen? ⟨g, 1, none⟩ = false ∧ w'.frozen? ⟨g, 2, none⟩ = false)
        (first | exact IsRd.cells (blk_drew hI) | exact IsRd.cells (blk_below (blk_drew hI) hb))
        (first | (go_at_call 41; refine (Hcall.out).mono ?_; rintro e w1 ⟨rfl, hb⟩))
      have HI1 : IsRd w1 g s a false := blk_below (blk_drew hI) hb
      obtain ⟨hd0, hd1, hd2, hg1, hg2⟩ := HI1.cells
      go_wp2
      go_ret
      exact ⟨rfl, ⟨a, true, HI1.bad true, ha, rfl, fun b h => by cases h⟩, (Chg.of_drew hb).seti _ _⟩
theorem rd_text (g : Nat) (s : ByteArray) (st : Option (List UInt8)) (w : World) (hs : s.size ≤ 140737488351232) (h : Rd w g s st) :
    Calls Try.prog 29 #[.pointer (some ⟨g, 0, none⟩)] w (RdPost w g s (textS st).2 (.string ⟨(textS st).1.toArray⟩)) := by
  obtain ⟨a, bad, hI, ha, hbad, hrest⟩ := h
  obtain ⟨r1, r2, r3, hr, hcall⟩ := getText_some hs ha w.drew
  have Hcall := Aside0.mk hcall; clear hcall
  obtain ⟨hc0, hc1, hc2, hf1, hf2⟩ := hI.cells
  have hold : bad = true → (textS st).1 = [] ∧ (textS st).2 = none := by rintro rfl; cases st with | none => exact ⟨rfl, rfl⟩ | some b => simp at hbad
  have herr : bad = false → r3 ≠ 0 → (textS st).1 = [] ∧ (textS st).2 = none := by
    rintro rfl h3
    cases st with
    | none => simp at hbad
    | some b =>
      have hb := hrest b rfl
      subst hb
      simp only [textS, Sp.gt]
      unfold getTextS at hr
      cases hg : gn ((bs s).drop a) with
      | none => exact ⟨rfl, rfl⟩
      | some q =>
        obtain ⟨n, r⟩ := q
        simp only [hg] at hr
        simp only
        split at hr
        · rw [if_neg (by omega)]; exact ⟨rfl, rfl⟩
        · split at hr
          · rw [if_neg (by omega)]; exact ⟨rfl, rfl⟩
          · simp at hr; exact absurd hr.2.2.symm h3
  have hok : bad = false → r3 = 0 → ∃ c : Nat, r2 = c ∧ c ≤ s.size ∧ ByteArray.mk (textS st).1.toArray = r1 ∧ (textS st).2 = some ((bs s).drop c) := by
    rintro rfl h3
    cases st with
    | none => simp at hbad
    | some b =>
      have hb := hrest b rfl
      subst hb
      simp only [textS, Sp.gt]
      unfold getTextS at hr
      cases hg : gn ((bs s).drop a) with
      | none =>
        rw [hg] at hr; simp at hr
        have : (getS s a).2.2 ≠ 0 := by unfold getS; rw [hg]; simp only; split <;> decide
        exact absurd (hr.2.2.trans h3) this
      | some q =>
        obtain ⟨n, r⟩ := q
        simp only [hg] at hr
        simp only
        split at hr
        · simp at hr; omega
        · split at hr
          · simp at hr; omega
          · rename_i c1 c2
            simp only [Prod.mk.injEq] at hr
            obtain ⟨rfl, rfl, _⟩ := hr
            rw [if_pos (by omega)]
            have h1 := gn_le hg
            have h2 := gn_drop hg
            have hlen : ((bs s).drop a).length = s.size - a := by rw [List.length_drop, bs_length]
            rw [hlen] at h1 h2
            rw [List.drop_drop] at h2
            refine ⟨s.size - (r.drop n).length, by simp only [List.length_drop]; omega, by omega, rfl, ?_⟩
            have e : r = (bs s).drop (s.size - r.length) := by rw [show s.size - r.length = a + (s.size - a - r.length) from by omega]; exact h2
            simp only [Option.some.injEq, List.length_drop]
            rw [show s.size - (r.length - n) = (s.size - r.length) + n from by omega, ← List.drop_drop, ← e]
  have Hold := Aside0.mk hold; have Herr := Aside0.mk herr; have Hok := Aside0.mk hok; have Hr := Aside0.mk hr; have Hrest := Aside0.mk hrest; have Hbad := Aside0.mk hbad
  clear hold herr hok hr hrest hbad
  cases bad with
  | true =>
    obtain ⟨e1, e2⟩ := Hold.out rfl
    unfold RdPost; rw [e1, e2]
    clear Hold Herr Hok Hbad Hrest e1 e2
    go_enter Try.func29, Try.ntmps29
    go_wp2_with fail
    go_region_held3 (fun w' => w'.cell? ⟨g, 0, none⟩ = some (.string s) ∧ w'.cell? ⟨g, 1, none⟩ = some (.int .i64 a) ∧ w'.cell? ⟨g, 2, none⟩ = some (.bool true) ∧ w'.frozen? ⟨g, 1, none⟩ = false ∧ w'.frozen? ⟨g, 2, none⟩ = false)
      (first | exact IsRd.cells (blk_drew hI) | exact IsRd.cells (blk_below (blk_drew hI) hb))
      (first | (go_at_call 42; refine (Hcall.out).mono ?_; rintro e w1 ⟨rfl, hb⟩))
    have HI1 : IsRd w1 g s a true := blk_below (blk_drew hI) hb
    obtain ⟨hd0, hd1, hd2, hg1, hg2⟩ := HI1.cells
    go_wp2
    go_ret
    exact ⟨rfl, ⟨a, true, HI1.bad true, ha, rfl, fun b h => by cases h⟩, (Chg.of_drew hb).seti _ _⟩
  | false =>
    by_cases h3 : r3 = 0
    · obtain ⟨c, e2, hc, e3, e4⟩ := Hok.out rfl h3
      subst e2
      unfold RdPost; rw [e3, e4]
      have h3b : (r3 != 0) = false := bne_eq_false_iff_eq.mpr h3
      clear Hold Herr Hok Hbad Hrest e3 e4 h3
      go_enter Try.func29, Try.ntmps29
      go_wp2_with fail
      go_region_held3 (fun w' => w'.cell? ⟨g, 0, none⟩ = some (.string s) ∧ w'.cell? ⟨g, 1, none⟩ = some (.int .i64 a) ∧ w'.cell? ⟨g, 2, none⟩ = some (.bool false) ∧ w'.frozen? ⟨g, 1, none⟩ = false ∧ w'.frozen? ⟨g, 2, none⟩ = false)
        (first | exact IsRd.cells (blk_drew hI) | exact IsRd.cells (blk_below (blk_drew hI) hb))
        (first | (go_at_call 42; refine (Hcall.out).mono ?_; rintro e w1 ⟨rfl, hb⟩))
      have HI1 : IsRd w1 g s a false := blk_below (blk_drew hI) hb
      obtain ⟨hd0, hd1, hd2, hg1, hg2⟩ := HI1.cells
      go_wp2
      go_ret
      exact ⟨rfl, ⟨c, false, (HI1.bad false).at_ c, hc, rfl, fun b h => by cases h; rfl⟩, ((Chg.of_drew hb).seti _ _).seti _ _⟩
    · obtain ⟨e1, e2⟩ := Herr.out rfl h3
      unfold RdPost; rw [e1, e2]
      have h3b : (r3 != 0) = true := bne_iff_ne.mpr h3
      clear Hold Herr Hok Hbad Hrest e1 e2 h3
      go_enter Try.func29, Try.ntmps29
      go_wp2_with fail
      go_region_held3 (fun w' => w'.cell? ⟨g, 0, none⟩ = some (.string s) ∧ w'.cell? ⟨g, 1, none⟩ = some (.int .i64 a) ∧ w'.cell? ⟨g, 2, none⟩ = some (.bool false) ∧ w'.frozen? ⟨g, 1, none⟩ = false ∧ w'.frozen? ⟨g, 2, none⟩ = false)
        (first | exact IsRd.cells (blk_drew hI) | exact IsRd.cells (blk_below (blk_drew hI) hb))
        (first | (go_at_call 42; refine (Hcall.out).mono ?_; rintro e w1 ⟨rfl, hb⟩))
      have HI1 : IsRd w1 g s a false := blk_below (blk_drew hI) hb
      obtain ⟨hd0, hd1, hd2, hg1, hg2⟩ := HI1.cells
      go_wp2
      go_ret
      exact ⟨rfl, ⟨a, true, HI1.bad true, ha, rfl, fun b h => by cases h⟩, (Chg.of_drew hb).seti _ _⟩
def dotS (st : Option (List UInt8)) : (Int × Int) × Option (List UInt8) := (((numS st).1, (numS (numS st).2).1), (numS (numS st).2).2)
def unz (x : Int) : Int := if x % 2 = 1 then -(x / 2) - 1 else x / 2
def foldS (st : Option (List UInt8)) : Int × Option (List UInt8) := (unz (numS st).1, (numS st).2)
theorem numS_range (st : Option (List UInt8)) : 0 ≤ (numS st).1 ∧ (numS st).1 ≤ 9223372036854775807 := by
  unfold numS
  cases st with
  | none => simp
  | some b =>
    simp only
    cases hg : gn b with
    | none => simp
    | some q => obtain ⟨x, r⟩ := q; have := (gn_some hg).2; simp only; omega
theorem rd_dot (g : Nat) (s : ByteArray) (st : Option (List UInt8)) (w : World) (hs : s.size ≤ 140737488351232) (h : Rd w g s st) :
    Calls Try.prog 27 #[.pointer (some ⟨g, 0, none⟩)] w (RdPost w g s (dotS st).2 (.agg #[.int .i64 (dotS st).1.1, .int .i64 (dotS st).1.2])) := by
  unfold dotS
  have hu23 := Try.underlying23
  have hlt : g < w.heap.size := by obtain ⟨a, bad, hI, _⟩ := h; exact blk_lt hI
  have H := Aside0.mk h; clear h
  go_enter Try.func27, Try.ntmps27
  go_wp2_with fail
  refine (rd_num g s st _ hs (Rd.of _ _ H.out (S := fun _ => False) ((Chg.refl _ _).alloc _) id)).mono ?_
  rintro e w1 ⟨rfl, h1, c1⟩
  have H1 := Aside0.mk h1; have C1 := Aside0.mk c1; clear h1 c1
  go_wp2_with fail
  refine (rd_num g s (numS st).2 _ hs H1.out).mono ?_
  rintro e w2 ⟨rfl, h2, c2⟩
  have HB : w.heap.size ≠ g := by omega
  have hb1 : w2.heap[w.heap.size]? = some (.cells #[.int .i64 0, .int .i64 0] 23 (0, 0)) := by
    refine c2.blk (C1.out.blk (heap_alloc_new w _) ?_) ?_ <;> omega
  have hd0 := (blk_cell hb1 0).trans rfl
  have hd1 := (blk_cell hb1 1).trans rfl
  have hf0 := blk_frozen hb1 0
  have hf1 := blk_frozen hb1 1
  have H2 := Aside0.mk h2; have C2 := Aside0.mk c2; have HB1 := Aside0.mk hb1; clear h2 c2 hb1
  go_wp2_with fail
  have hb2 := blk_put (blk_put HB1.out 0 (.int .i64 (numS st).1) rfl) 1 (.int .i64 (numS (numS st).2).1) rfl
  refine bodyPost_ret (results_single rfl (.cell w.heap.size 23 _ (0, 0) _ rfl hb2 Try.underlying23 rfl (by kernel_rfl) .nil)) rfl ⟨rfl, ?_, ?_⟩
  · exact Rd.of _ _ H2.out (S := (· = w.heap.size)) (((Chg.refl _ _).seti _ _).seti _ _) (by omega)
  · exact ((((((Chg.refl _ _).alloc _).trans C1.out).trans C2.out).set (.inr (by simp)) _).set (.inr (by simp)) _)
theorem rd_fold (g : Nat) (s : ByteArray) (st : Option (List UInt8)) (w : World) (hs : s.size ≤ 140737488351232) (h : Rd w g s st) :
    Calls Try.prog 43 #[.pointer (some ⟨g, 0, none⟩)] w (RdPost w g s (foldS st).2 (.int .i64 (foldS st).1)) := by
  unfold foldS
  have hr := numS_range st
  go_enter Try.func43, Try.ntmps43
  go_wp2_with fail
  refine (rd_num g s st _ hs h).mono ?_
  rintro e w1 ⟨rfl, h1, c1⟩
  obtain ⟨x, hx⟩ : ∃ x, x = (numS st).1 := ⟨_, rfl⟩
  rw [← hx] at hr ⊢
  have HX := Aside0.mk hx; clear hx
  have hm : bits .and .i64 x 1 = x % 2 := bits_mask .i64 63 (by decide) (fun n h0 h1 => by rw [IntKind.wrap_i64]; omega) 1 (by decide) x hr.1 (by omega)
  have H1 := Aside0.mk h1; have C1 := Aside0.mk c1; clear h1 c1
  by_cases hq : x % 2 = 1
  · have e1 : unz x = -(x / 2) - 1 := if_pos hq
    have e2 : (bits .and .i64 x 1 == 1) = true := by rw [hm]; exact beq_iff_eq.2 hq
    have E1 := Aside0.mk e1; clear hm hq e1
    go_wp2_with fail
    go_ret
    exact ⟨by rw [← HX.out, E1.out]; rfl, H1.out, C1.out⟩
  · have e1 : unz x = x / 2 := if_neg hq
    have e2 : (bits .and .i64 x 1 == 1) = false := by rw [hm]; exact beq_eq_false_iff_ne.2 hq
    have E1 := Aside0.mk e1; clear hm hq e1
    go_wp2_with fail
    go_ret
    exact ⟨by rw [← HX.out, E1.out]; rfl, H1.out, C1.out⟩
end Go.Proofs.Ytaaaeonalomcgaa.Q
