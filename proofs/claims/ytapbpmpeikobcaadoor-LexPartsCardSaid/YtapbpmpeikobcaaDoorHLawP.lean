/- LexParts answers true. Condition: texts of at most 140737488351232 bytes. -/
import Derived.Test.YtapbpmpeikobcaaDoorHLaw4
import Derived.Test.YtapbpmpeikobcaaDoorHLaw7
set_option linter.unusedVariables false
set_option linter.unusedSimpArgs false
namespace Go.Proofs.YtapbpmpeikobcaaDoor.Q
open Go.RowKit Go.Proofs.YtapbpmpeikobcaaDoorW.PrintWords Go.Proofs.YtapbpmpeikobcaaDoorW.PrintLast Go.Proofs.YtapbpmpeikobcaaDoorW.PrintMore
attribute [local go_sem high] eqA37

theorem parts_err (s t : ByteArray) (w : World) (hz : s.size ≤ 140737488351232) (hz2 : t.size ≤ 140737488351232) (x : Int) (hA : Lx.tokens (bs s) = .error x) : Calls Tryd.prog 6 #[.string s, .string t] w fun e w' => e = .returned (.bool true) ∧ Below w.heap.size w w' := by
  have hx := tokens_errs hA
  have hx2 : (x == 0) = false := by simpa using hx
  have hfa := f_err hA
  obtain ⟨rb, eb, hfb⟩ := tokF_any t
  obtain ⟨rc, ec, hfc⟩ := tokF_any (s ++ (⟨#[10]⟩ : ByteArray) ++ t)
  have HA := Aside0.mk hfa; have HB := Aside0.mk hfb; have HC := Aside0.mk hfc; clear hA hfa hfb hfc
  go_enter Tryd.func6, Tryd.ntmps6
  go_wp2_with fail
  refine (awake_any _).mono ?_
  rintro e w1 ⟨rfl, hb⟩
  have HB1 := Aside0.mk hb; clear hb
  go_wp2_with fail
  refine (tokens_at _ _ _ _ HA.out).mono ?_
  rintro e w2 ⟨A0, c0, rfl, _, _, hb⟩
  have HB2 := Aside0.mk (HB1.out.trans (hb.mono HB1.out.size)); clear hb HB1
  go_wp2_with fail
  refine (tokens_at _ _ _ _ HB.out).mono ?_
  rintro e w3 ⟨A1, c1, rfl, _, _, hb⟩
  have HB3 := Aside0.mk (HB2.out.trans (hb.mono HB2.out.size)); clear hb HB2
  go_wp2_with fail
  refine (tokens_at _ _ _ _ HC.out).mono ?_
  rintro e w4 ⟨A2, c2, rfl, _, _, hb⟩
  have HB4 := Aside0.mk (HB3.out.trans (hb.mono HB3.out.size)); clear hb HB3
  go_wp2_with (go_at_call 11; refine (num_any _ _).mono ?_; rintro e w' ⟨rfl, ⟨n, rfl⟩⟩)
  go_ret
  exact ⟨rfl, pw_below_drewN HB4.out _⟩
theorem parts_err2 (s t : ByteArray) (w : World) (hz : s.size ≤ 140737488351232) (hz2 : t.size ≤ 140737488351232) (a : List Lx.Tok) (hA : Lx.tokens (bs s) = .ok a) (x : Int) (hB : Lx.tokens (bs t) = .error x) : Calls Tryd.prog 6 #[.string s, .string t] w fun e w' => e = .returned (.bool true) ∧ Below w.heap.size w w' := by
  have hx := tokens_errs hB
  have hfa := f_ok hA
  have hfb := f_err hB
  obtain ⟨ra, hra⟩ : ∃ ra, a.map tk = ra := ⟨_, rfl⟩
  rw [hra] at hfa
  obtain ⟨rc, ec, hfc⟩ := tokF_any (s ++ (⟨#[10]⟩ : ByteArray) ++ t)
  have HA := Aside0.mk hfa; have HB := Aside0.mk hfb; have HC := Aside0.mk hfc; clear hA hB hfa hfb hfc hra
  go_enter Tryd.func6, Tryd.ntmps6
  go_wp2_with fail
  refine (awake_any _).mono ?_
  rintro e w1 ⟨rfl, hb⟩
  have HB1 := Aside0.mk hb; clear hb
  go_wp2_with fail
  refine (tokens_at _ _ _ _ HA.out).mono ?_
  rintro e w2 ⟨A0, c0, rfl, _, _, hb⟩
  have HB2 := Aside0.mk (HB1.out.trans (hb.mono HB1.out.size)); clear hb HB1
  go_wp2_with fail
  refine (tokens_at _ _ _ _ HB.out).mono ?_
  rintro e w3 ⟨A1, c1, rfl, _, _, hb⟩
  have HB3 := Aside0.mk (HB2.out.trans (hb.mono HB2.out.size)); clear hb HB2
  go_wp2_with fail
  refine (tokens_at _ _ _ _ HC.out).mono ?_
  rintro e w4 ⟨A2, c2, rfl, _, _, hb⟩
  have HB4 := Aside0.mk (HB3.out.trans (hb.mono HB3.out.size)); clear hb HB3
  go_wp2_with (go_at_call 11; refine (num_any _ _).mono ?_; rintro e w' ⟨rfl, ⟨n, rfl⟩⟩)
  go_ret
  exact ⟨rfl, pw_below_drewN HB4.out _⟩
theorem parts_big (s t : ByteArray) (w : World) (hz : s.size ≤ 140737488351232) (hz2 : t.size ≤ 140737488351232) (a b : List Lx.Tok) (hA : Lx.tokens (bs s) = .ok a) (hB : Lx.tokens (bs t) = .ok b) (h : 2048 < a.length + b.length ∨ 65536 < s.size + t.size + 1) : Calls Tryd.prog 6 #[.string s, .string t] w fun e w' => e = .returned (.bool true) ∧ Below w.heap.size w w' := by
  have hza := Lx.tokens_ok hA
  have hzb := Lx.tokens_ok hB
  rw [bs_length] at hza hzb
  have hfa := f_ok hA
  have hfb := f_ok hB
  have hbig := Lx.tokens_parts_big hA hB (by rw [bs_length, bs_length]; exact h)
  obtain ⟨x, hx, hxe⟩ := hbig
  have hfc : lex_Tokens.f (s ++ (⟨#[10]⟩ : ByteArray) ++ t) = some ([], x) := f_err (by rw [← hxe]; congr 1; simp [bs])
  have hx0 : (x != 0) = true := by rcases hx with rfl | rfl <;> rfl
  obtain ⟨ra, hra⟩ : ∃ ra, a.map tk = ra := ⟨_, rfl⟩
  obtain ⟨rb, hrb⟩ : ∃ rb, b.map tk = rb := ⟨_, rfl⟩
  rw [hra] at hfa
  rw [hrb] at hfb
  have hla : ra.length = a.length := by rw [← hra, List.length_map]
  have hlb : rb.length = b.length := by rw [← hrb, List.length_map]
  have h1 : ra.length ≤ 2048 := by omega
  have h2 : rb.length ≤ 2048 := by omega
  obtain ⟨h3, _, _⟩ := hza
  obtain ⟨h4, _, _⟩ := hzb
  have hh : 2048 < ra.length + rb.length ∨ (ra.length + rb.length ≤ 2048 ∧ 65536 < s.size + t.size + 1) := by omega
  have HA := Aside0.mk hfa; have HB := Aside0.mk hfb; have HC := Aside0.mk hfc; clear hA hB hfa hfb hfc hra hrb hxe hx hla hlb h
  rcases hh with hh | ⟨hh, hh2⟩
  all_goals
    go_enter Tryd.func6, Tryd.ntmps6
    go_wp2_with fail
    refine (awake_any _).mono ?_
    rintro e w1 ⟨rfl, hb⟩
    have HB1 := Aside0.mk hb; clear hb
    go_wp2_with fail
    refine (tokens_at _ _ _ _ HA.out).mono ?_
    rintro e w2 ⟨A0, c0, rfl, _, _, hb⟩
    have HB2 := Aside0.mk (HB1.out.trans (hb.mono HB1.out.size)); clear hb HB1
    go_wp2_with fail
    refine (tokens_at _ _ _ _ HB.out).mono ?_
    rintro e w3 ⟨A1, c1, rfl, _, _, hb⟩
    have HB3 := Aside0.mk (HB2.out.trans (hb.mono HB2.out.size)); clear hb HB2
    go_wp2_with fail
    refine (tokens_at _ _ _ _ HC.out).mono ?_
    rintro e w4 ⟨A2, c2, rfl, _, _, hb⟩
    have HB4 := Aside0.mk (HB3.out.trans (hb.mono HB3.out.size)); clear hb HB3
    go_wp2_with (go_at_call 11; refine (num_any _ _).mono ?_; rintro e w' ⟨rfl, ⟨n, rfl⟩⟩)
    go_ret
    exact ⟨rfl, pw_below_drewN HB4.out _⟩
set_option maxRecDepth 100000 in
set_option maxHeartbeats 4000000 in
theorem parts_same (s t : ByteArray) (w : World) (a b : List Lx.Tok) (hA : Lx.tokens (bs s) = .ok a) (hB : Lx.tokens (bs t) = .ok b) (h1 : a.length + b.length ≤ 2048) (h2 : s.size + t.size + 1 ≤ 65536) : Calls Tryd.prog 6 #[.string s, .string t] w fun e w' => e = .returned (.bool true) ∧ Below w.heap.size w w' := by
  have hC := Lx.tokens_parts hA hB h1 (by rw [bs_length, bs_length]; exact h2)
  have hfa := f_ok hA
  have hfb := f_ok hB
  have hfc : lex_Tokens.f (s ++ (⟨#[10]⟩ : ByteArray) ++ t) = some ((a ++ b.map (Lx.shiftT ((bs s).length + 1))).map tk, 0) := f_ok (by rw [← hC]; congr 1; simp [bs])
  obtain ⟨ra, hra⟩ : ∃ ra, a.map tk = ra := ⟨_, rfl⟩
  obtain ⟨rb, hrb⟩ : ∃ rb, b.map tk = rb := ⟨_, rfl⟩
  obtain ⟨rc, hrc⟩ : ∃ rc, (a ++ b.map (Lx.shiftT ((bs s).length + 1))).map tk = rc := ⟨_, rfl⟩
  have hla : ra.length = a.length := by rw [← hra, List.length_map]
  have hlb : rb.length = b.length := by rw [← hrb, List.length_map]
  have hlc : rc.length = ra.length + rb.length := by rw [← hrc, hla, hlb]; simp
  have hp := Lx.L_pos _ (bs t) 0 b rfl (Lx.tokens_ok hB).2.2
  have hel1 : ∀ j : Nat, j < ra.length → rd_T37 rc (j : Int) = rd_T37 ra (j : Int) := by
    intro j hj
    have hj2 : j < a.length := by omega
    rw [← hra, ← hrc, rd_map _ _ hj2, rd_map _ _ (by rw [List.length_append]; omega), List.getElem_append_left hj2]
  have hel2 : ∀ j : Nat, j < rb.length → rd_T37 rc ((ra.length : Int) + (j : Int)) = ⟨(rd_T37 rb (j : Int)).f0, (rd_T37 rb (j : Int)).f1, (rd_T37 rb (j : Int)).f2, (rd_T37 rb (j : Int)).f3 + s.size + 1⟩ ∧ 0 ≤ (rd_T37 rb (j : Int)).f3 ∧ (rd_T37 rb (j : Int)).f3 ≤ 65536 := by
    intro j hj
    have hj2 : j < b.length := by omega
    have e1 : rd_T37 (b.map tk) (j : Int) = tk b[j] := rd_map _ _ hj2
    rw [hrb] at e1
    have e2 : rd_T37 ((a ++ b.map (Lx.shiftT ((bs s).length + 1))).map tk) ((a.length + j : Nat) : Int) = tk (Lx.shiftT ((bs s).length + 1) b[j]) := by
      rw [rd_map _ _ (by rw [List.length_append, List.length_map]; omega), List.getElem_append_right (by omega), List.getElem_map]
      simp only [Nat.add_sub_cancel_left]
    rw [hrc, ← hla] at e2
    have e3 : (ra.length : Int) + (j : Int) = ((ra.length + j : Nat) : Int) := rfl
    rw [e1, e3, e2]
    have := hp b[j] (List.getElem_mem _)
    rw [bs_length] at this
    refine ⟨?_, by simp [tk], by simp only [tk]; omega⟩
    simp only [tk, Lx.shiftT, bs_length]; congr 1
  rw [hra] at hfa
  rw [hrb] at hfb
  rw [hrc] at hfc
  have h3 : ra.length + rb.length ≤ 2048 := by omega
  have e1 : ((rc.length : Int) != (ra.length : Int) + (rb.length : Int)) = false := by simp; omega
  have HA := Aside0.mk hfa; have HB := Aside0.mk hfb; have HC := Aside0.mk hfc; have H1 := Aside0.mk hel1; have H2 := Aside0.mk hel2; have HLC := Aside0.mk hlc; clear hA hB hC hfa hfb hfc hra hrb hrc hla hlb hp hel1 hel2 h1 hlc
  go_enter Tryd.func6, Tryd.ntmps6
  go_wp2_with fail
  refine (awake_any _).mono ?_
  rintro e w1 ⟨rfl, hb⟩
  have HB1 := Aside0.mk hb; clear hb
  go_wp2_with fail
  refine (tokens_at _ _ _ _ HA.out).mono ?_
  rintro e w2 ⟨A0, c0, rfl, hCa, hc0, hb⟩
  have HB2 := Aside0.mk (HB1.out.trans (hb.mono HB1.out.size)); have HCa := Aside0.mk hCa; clear hb HB1 hCa
  go_wp2_with fail
  refine (tokens_at _ _ _ _ HB.out).mono ?_
  rintro e w3 ⟨A1, c1, rfl, hCb, hc1, hb⟩
  have HCa3 := Aside0.mk (Kd.C_below HCa.out hb); have HB3 := Aside0.mk (HB2.out.trans (hb.mono HB2.out.size)); have HCb := Aside0.mk hCb; clear hb HB2 hCb HCa
  go_wp2_with fail
  refine (tokens_at _ _ _ _ HC.out).mono ?_
  rintro e w4 ⟨A2, c2, rfl, hCc, hc2, hb⟩
  have HCa4 := Aside0.mk (Kd.C_below HCa3.out hb); have HCb4 := Aside0.mk (Kd.C_below HCb.out hb); have HB4 := Aside0.mk (HB3.out.trans (hb.mono HB3.out.size)); have HCc4 := Aside0.mk hCc; clear hb HB3 hCc HCa3 HCb
  go_wp2_with (go_at_call 11; refine (num_any _ _).mono ?_; rintro e w' ⟨rfl, ⟨n, rfl⟩⟩)
  go_loopw [11] (fun i wr => ∃ j : Nat, j ≤ ra.length ∧ i = .int .i64 j ∧ Aside0 (Below w4.heap.size w4 wr)) (fun i _ => ra.length - (intOf i).toNat)
  case atStart => exact ⟨0, Nat.zero_le _, rfl, ⟨pw_below_drewN (Below.refl _ _) _⟩⟩
  case round =>
    obtain ⟨j, hj, rfl, HBr⟩ := hrel
    by_cases hlt : j < ra.length
    · have hCa := Kd.C_below HCa4.out HBr.out
      have hCc := Kd.C_below HCc4.out HBr.out
      obtain ⟨ad1, e2, x0, x1, x2, x3⟩ := at_T37 hCa (j : Int) (by omega) (by omega)
      obtain ⟨ad2, e3, z0, z1, z2, z3⟩ := at_T37 hCc (j : Int) (by omega) (by have := HLC.out; omega)
      cases e2; cases e3
      rw [H1.out j hlt] at z0 z1 z2 z3
      simp only [Int.toNat_natCast] at x0 x1 x2 x3 z0 z1 z2 z3
      have hlc2 : j < rc.length := by have := HLC.out; omega
      clear hCa hCc
      generalize rd_T37 ra (j : Int) = X at *
      go_wp2_with fail
      go_quiet (fail)
      go_wp2_with fail
      go_roundw
      case measure => simp [intOf]; omega
      case rel => exact ⟨j + 1, by omega, by go_num, ⟨pw_below_drewN HBr.out _⟩⟩
    · go_wp2_with fail
      go_loopw [12] (fun i wr => ∃ j : Nat, j ≤ rb.length ∧ i = .int .i64 j ∧ Aside0 (Below w4.heap.size w4 wr)) (fun i _ => rb.length - (intOf i).toNat)
      case atStart => exact ⟨0, Nat.zero_le _, rfl, HBr⟩
      case round =>
        obtain ⟨q, hq, rfl, HBq⟩ := hrel
        by_cases hlq : q < rb.length
        · rename_i wq
          have hCb := Kd.C_below HCb4.out HBq.out
          have h2 := H2.out q hlq
          obtain ⟨ad1, e2, x0, x1, x2, x3⟩ := at_T37 hCb (q : Int) (by omega) (by omega)
          cases e2
          simp only [Int.toNat_natCast] at x0 x1 x2 x3
          generalize rd_T37 rb (q : Int) = Y at *
          obtain ⟨hc, hY1, hY2⟩ := h2
          have HCel := Aside0.mk hc; clear hc hCb
          go_wp2_with fail
          have hB9 := HBq.out.alloc HBq.out.size (.cells #[.int .i64 Y.f0, .string Y.f1, .int .i64 Y.f2, .int .i64 (Y.f3 + (s.size : Int) + 1)] 37)
          have hbx := heap_alloc_new wr (.cells #[.int .i64 Y.f0, .string Y.f1, .int .i64 Y.f2, .int .i64 (Y.f3 + (s.size : Int) + 1)] 37)
          generalize wr.alloc (.cells #[.int .i64 Y.f0, .string Y.f1, .int .i64 Y.f2, .int .i64 (Y.f3 + (s.size : Int) + 1)] 37) = w9 at *
          have hCc := Kd.C_below HCc4.out hB9
          obtain ⟨ad2, e3, z0, z1, z2, z3⟩ := at_T37 hCc ((ra.length : Int) + (q : Int)) (by omega) (by have := HLC.out; omega)
          cases e3
          rw [HCel.out] at z0 z1 z2 z3
          have hlc2 : ra.length + q < rc.length := by have := HLC.out; omega
          have hbx0 := (blk_cell hbx 0).trans rfl
          have hbx1 := (blk_cell hbx 1).trans rfl
          have hbx2 := (blk_cell hbx 2).trans rfl
          have hbx3 := (blk_cell hbx 3).trans rfl
          have HB9 := Aside0.mk hB9
          clear x0 x1 x2 x3 hbx hB9 hCc
          have hq1 : IntKind.i64.wrap ((ra.length : Int) + (q : Int)) = (ra.length : Int) + (q : Int) := by rw [IntKind.wrap_i64]; omega
          have hq2 : 0 ≤ (ra.length : Int) + (q : Int) := by omega
          have hq3 : ((ra.length : Int) + (q : Int)).toNat = ra.length + q := by omega
          have hq4 : (ra.length : Int) + (q : Int) < (rc.length : Int) := by omega
          rw [hq3] at z0 z1 z2 z3
          go_quiet (fail)
          clear hq1 hq2 hq3 hq4
          go_wp2_with fail
          go_roundw
          case measure => simp [intOf]; omega
          case rel => exact ⟨q + 1, by omega, by go_num, ⟨pw_below_drewN HB9.out _⟩⟩
        · go_wp2_with fail
          go_ret
          exact ⟨rfl, HB4.out.trans (HBq.out.mono HB4.out.size)⟩
theorem parts_walk (s t : ByteArray) (w : World) (hz : s.size ≤ 140737488351232) (hz2 : t.size ≤ 140737488351232) : Calls Tryd.prog 6 #[.string s, .string t] w fun e w' => e = .returned (.bool true) ∧ Below w.heap.size w w' := by
  cases hA : Lx.tokens (bs s) with
  | error x => exact parts_err s t w hz hz2 x hA
  | ok a =>
    cases hB : Lx.tokens (bs t) with
    | error x => exact parts_err2 s t w hz hz2 a hA x hB
    | ok b =>
      by_cases h : 2048 < a.length + b.length ∨ 65536 < s.size + t.size + 1
      · exact parts_big s t w hz hz2 a b hA hB h
      · exact parts_same s t w a b hA hB (by omega) (by omega)
end Go.Proofs.YtapbpmpeikobcaaDoor.Q
