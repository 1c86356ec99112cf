/- What op.Put answers, walked. No condition. -/
import Derived.Test.YtaaaeonalomcgaaUHPut2
set_option linter.unusedVariables false
set_option linter.unusedSimpArgs false
namespace Go.Proofs.Ytaaaeonalomcgaa.Q
open Go.RowKit Go.Proofs.YtaaaeonalomcgaaW.PrintWords Go.Proofs.YtaaaeonalomcgaaW.PrintLast Go.Proofs.YtaaaeonalomcgaaW.PrintMore Sp
set_option maxHeartbeats 4000000 in
set_option maxRecDepth 100000 in
theorem put_drop (a0_0 : Int) (a0_1 : Int) (a0_2 : Int) (A0_3 : Option Addr) (c0_3 : Nat) (l0_3 : List Int) (a0_4 : Int) (a0_5 : ByteArray) (a0_6 : ByteArray) (a0_7 : ByteArray) (a0_8 : ByteArray) (a0_9 : Int) (a0_10 : Int) (a0_11 : Int) (a0_12 : Int) (A0_13 : Option Addr) (c0_13 : Nat) (l0_13 : List (S23)) (a1 : Int) (w : World) (hr0_3 : Kd.C (Kd.int .i64) w A0_3 l0_3.length l0_3) (hc0_3 : l0_3.length ≤ c0_3) (hr0_13 : Kd.C k23 w A0_13 l0_13.length l0_13) (hc0_13 : l0_13.length ≤ c0_13) (h : mayB a0_0 a0_1 a0_2 l0_3 a0_4 a0_5 a0_6 a0_7 a0_8 a0_9 a0_10 a0_11 a0_12 l0_13 a1 = true) (hk : a0_4 = 3) :
    Calls Try.prog 8 #[.agg #[.int .i64 a0_0, .int .i64 a0_1, .int .i64 a0_2, .slice A0_3 l0_3.length c0_3, .int .i64 a0_4, .string a0_5, .string a0_6, .string a0_7, .string a0_8, .int .i64 a0_9, .int .i64 a0_10, .int .i64 a0_11, .int .i64 a0_12, .slice A0_13 l0_13.length c0_13], .int .i64 a1] w fun e w' => e = .returned (.tuple #[.string ⟨(putP a0_0 a0_1 a0_2 l0_3 a0_4 a0_5 a0_6 a0_7 a0_8 a0_9 a0_10 a0_11 a0_12 l0_13).toArray⟩, .int .i64 0]) ∧ Below w.heap.size w w' := by
  have sm := small_of h
  have hq := fun (W : World) (hB : Below w.heap.size w W) => may_any a0_0 a0_1 a0_2 A0_3 c0_3 l0_3 a0_4 a0_5 a0_6 a0_7 a0_8 a0_9 a0_10 a0_11 a0_12 A0_13 c0_13 l0_13 a1 W (Kd.C_below hr0_3 hB) hc0_3 (Kd.C_below hr0_13 hB) hc0_13
  rw [h] at hq
  have hlt := C_lt hr0_3
  have HQ := Aside0.mk hq; have SM := Aside0.mk sm; have HR := Aside0.mk hr0_3; have HC := Aside0.mk hc0_3; have HR2 := Aside0.mk hr0_13; have HC2 := Aside0.mk hc0_13; have HLT := Aside0.mk hlt
  clear hq h sm hr0_3 hc0_3 hr0_13 hc0_13 hlt
  have hb0 : (0 : Int) ≤ a0_4 := SM.out.k.1
  have hb5 : a0_4 ≤ 5 := SM.out.k.2
  have HK1 := Aside0.mk hk
  have b1 : (a0_4 == 1) = false := beq_eq_false_iff_ne.2 (by omega)
  have b3 : (a0_4 == 3) = true := beq_iff_eq.2 (by omega)
  clear hk
  have hu23 := Try.underlying23
  have hu26 := Try.underlying26
  go_enter Try.func8, Try.ntmps8
  go_wp2_with (first | (refine wpList_load_row rfl 29 _ rfl w.heap.size rfl 29 _ (0, 0) _ (heap_alloc_new w _) Try.underlying29 rfl (by kernel_rfl) ?_) | (go_at_call 10; refine (HQ.out _ (below_alloc (Below.refl _ _) _)).mono ?_; rintro e w1 ⟨rfl, hb⟩; have HO1 := Aside0.mk (blk_below (heap_alloc_new w _) hb); have CB1 := Aside0.mk (((Chg.refl (fun _ => False) w).alloc _).below_ hb); clear hb; have hl0 := fun ob => (blk_cell (blk_alloc HO1.out ob) 0).trans rfl; have hl1 := fun ob => (blk_cell (blk_alloc HO1.out ob) 1).trans rfl) | fail "arm")
  have hO1 := HO1.out
  obtain ⟨g, hg⟩ : ∃ g, g = w1.heap.size := ⟨_, rfl⟩
  have HG := Aside0.mk hg
  have HOG := Aside0.mk (show w.heap.size < g by rw [hg]; exact blk_lt hO1)
  clear hO1 hg
  rw [← HG.out]
  have hW1 : Wr (w1.alloc (.cells #[.string ⟨#[]⟩] 47)) g [] := by have h0 := fun ob => heap_alloc_new w1 ob; rw [← HG.out] at h0; exact h0 _
  have hB1 := (CB1.out.alloc (.cells #[.string ⟨#[]⟩] 47)).to_below (fun _ h => h.elim)
  refine (wr_dot (w0 := w) hB1 (Nat.le_of_lt HOG.out) hW1 (nok SM.out.d0.1 (by have := SM.out.d0.2; omega)) (nok (by have := SM.out.d1.1; omega) (by have := SM.out.d1.2; omega)) (by simp)).mono ?_
  rintro e w2 ⟨rfl, hW2, c2⟩
  have HO2 := Aside0.mk (c2.blk (blk_alloc HO1.out _) (by have := HOG.out; omega))
  have CB2 := Aside0.mk ((CB1.out.alloc _).trans' c2 (fun k hk => .inr (by have := HOG.out; omega)))
  obtain ⟨x1, hx1⟩ : ∃ x, x = ([] : List UInt8) ++ (pn a0_0.toNat ++ pn a0_1.toNat) := ⟨_, rfl⟩
  rw [← hx1] at hW2
  have HL1 := Aside0.mk (show x1.length ≤ 18 by rw [hx1]; simp only [List.nil_append, List.length_append]; have h1 := pn_len9 a0_0.toNat (by have := SM.out.d0; omega); have h2 := pn_len9 a0_1.toNat (by have := SM.out.d1; omega); omega)
  have HW2 := Aside0.mk hW2; have HX1 := Aside0.mk hx1
  clear hW1 hB1 hW2 c2 hx1 hl0 hl1
  have hl2 := (blk_cell HO2.out 2).trans rfl
  go_wp2_with fail
  have hC2 : Kd.C (Kd.int .i64) (w2.alloc (.cells #[.int .i64 a0_2] 3)) (some ⟨w2.heap.size, 0, none⟩) [a0_2].length [a0_2] := C_ints (heap_alloc_new w2 _) rfl (by simp)
  have hg2 : g < w2.heap.size := blk_lt HW2.out
  refine (wr_num (w0 := w) (xs := [a0_2]) (c := 1) ((CB2.out.alloc _).to_below (fun _ h => h.elim)) (Nat.le_of_lt HOG.out) (blk_alloc HW2.out _) hC2 (by simp) (fun ad h _ => by cases h; exact Nat.ne_of_gt hg2) (fun x hx => by simp at hx; subst hx; exact nok (by have := SM.out.t.1; omega) (by have := SM.out.t.2; omega)) (by simp) (by have := HL1.out; omega)).mono ?_
  rintro e w3 ⟨rfl, hW3, c3⟩
  have HO3 := Aside0.mk (c3.blk (blk_alloc HO2.out _) (by have := HOG.out; omega))
  have CB3 := Aside0.mk ((CB2.out.alloc _).trans' c3 (fun k hk => .inr (by have := HOG.out; omega)))
  obtain ⟨x2, hx2⟩ : ∃ x, x = x1 ++ pns [a0_2] := ⟨_, rfl⟩
  rw [← hx2] at hW3
  have HL2 := Aside0.mk (show x2.length ≤ 27 by rw [hx2, List.length_append]; have h1 := pns_len [a0_2] (fun x hx => by simp at hx; subst hx; exact nok (by have := SM.out.t.1; omega) (by have := SM.out.t.2; omega)); have := HL1.out; simp only [List.length_singleton] at h1; omega)
  have HW3 := Aside0.mk hW3; have HX2 := Aside0.mk hx2
  clear hC2 hW3 c3 hx2 hl2 hg2
  have hl3 := (blk_cell HO3.out 3).trans rfl
  go_wp2_with fail
  refine (wr_num (w0 := w) (xs := l0_3) (CB3.out.to_below (fun _ h => h.elim)) (Nat.le_of_lt HOG.out) HW3.out (CB3.out.C (fun _ h => h.elim) HR.out) HC.out (fun ad h hp => by have := HLT.out ad h hp; have := HOG.out; omega) (fun x hx => nok (SM.out.deps x hx).1 (by have := (SM.out.deps x hx).2; omega)) (by have := SM.out.dl; omega) (by have := HL2.out; omega)).mono ?_
  rintro e w4 ⟨rfl, hW4, c4⟩
  have HO4 := Aside0.mk (c4.blk HO3.out (by have := HOG.out; omega))
  have CB4 := Aside0.mk (CB3.out.trans' c4 (fun k hk => .inr (by have := HOG.out; omega)))
  obtain ⟨x3, hx3⟩ : ∃ x, x = x2 ++ pns l0_3 := ⟨_, rfl⟩
  rw [← hx3] at hW4
  have HL3 := Aside0.mk (show x3.length ≤ 171 by rw [hx3, List.length_append]; have h1 := pns_len l0_3 (fun x hx => nok (SM.out.deps x hx).1 (by have := (SM.out.deps x hx).2; omega)); have := HL2.out; have := SM.out.dl; omega)
  have HW4 := Aside0.mk hW4; have HX3 := Aside0.mk hx3
  clear hW4 c4 hx3 hl3
  have hl4 := (blk_cell HO4.out 4).trans rfl
  go_wp2_with fail
  have hC4 : Kd.C (Kd.int .i64) (w4.alloc (.cells #[.int .i64 a0_4] 3)) (some ⟨w4.heap.size, 0, none⟩) [a0_4].length [a0_4] := C_ints (heap_alloc_new w4 _) rfl (by simp)
  have hg4 : g < w4.heap.size := blk_lt HW4.out
  refine (wr_num (w0 := w) (xs := [a0_4]) (c := 1) ((CB4.out.alloc _).to_below (fun _ h => h.elim)) (Nat.le_of_lt HOG.out) (blk_alloc HW4.out _) hC4 (by simp) (fun ad h _ => by cases h; exact Nat.ne_of_gt hg4) (fun x hx => by simp at hx; subst hx; exact nok hb0 (by omega)) (by simp) (by have := HL3.out; omega)).mono ?_
  rintro e w5 ⟨rfl, hW5, c5⟩
  have HO5 := Aside0.mk (c5.blk (blk_alloc HO4.out _) (by have := HOG.out; omega))
  have CB5 := Aside0.mk ((CB4.out.alloc _).trans' c5 (fun k hk => .inr (by have := HOG.out; omega)))
  obtain ⟨x4, hx4⟩ : ∃ x, x = x3 ++ pns [a0_4] := ⟨_, rfl⟩
  rw [← hx4] at hW5
  have HL4 := Aside0.mk (show x4.length ≤ 180 by rw [hx4, List.length_append]; have h1 := pns_len [a0_4] (fun x hx => by simp at hx; subst hx; exact nok hb0 (by omega)); have := HL3.out; simp only [List.length_singleton] at h1; omega)
  have HW5 := Aside0.mk hW5; have HX4 := Aside0.mk hx4
  clear hC4 hW5 c5 hx4 hl4 hg4
  have hl5 := (blk_cell HO5.out 5).trans rfl
  have hl6 := (blk_cell HO5.out 6).trans rfl
  have hl7 := (blk_cell HO5.out 7).trans rfl
  go_wp2_with fail
  have hC5 : Kd.C Kd.string (w5.alloc (.cells #[.string a0_5, .string a0_6, .string a0_7] 9)) (some ⟨w5.heap.size, 0, none⟩) [a0_5, a0_6, a0_7].length [a0_5, a0_6, a0_7] := C_strs (heap_alloc_new w5 _) rfl (by simp)
  have hg5 : g < w5.heap.size := blk_lt HW5.out
  have hs5 : ∀ s ∈ [a0_5, a0_6, a0_7], s.size ≤ 65536 := fun s hs => by
    simp at hs
    rcases hs with rfl | rfl | rfl
    · have := SM.out.ty; omega
    · have := SM.out.id; omega
    · have := SM.out.fl; omega
  refine (wr_text (w0 := w) (xs := [a0_5, a0_6, a0_7]) (c := 3) ((CB5.out.alloc _).to_below (fun _ h => h.elim)) (Nat.le_of_lt HOG.out) (blk_alloc HW5.out _) hC5 (by simp) (fun ad h _ => by cases h; exact Nat.ne_of_gt hg5) hs5 (by simp) (by have := HL4.out; omega)).mono ?_
  rintro e w6 ⟨rfl, hW6, c6⟩
  have HO6 := Aside0.mk (c6.blk (blk_alloc HO5.out _) (by have := HOG.out; omega))
  have CB6 := Aside0.mk ((CB5.out.alloc _).trans' c6 (fun k hk => .inr (by have := HOG.out; omega)))
  obtain ⟨x5, hx5⟩ : ∃ x, x = x4 ++ pts [a0_5, a0_6, a0_7] := ⟨_, rfl⟩
  rw [← hx5] at hW6
  have HL5 := Aside0.mk (show x5.length ≤ 200000 by rw [hx5, List.length_append]; have h1 := pts_len _ hs5; have := HL4.out; simp only [List.length_cons, List.length_nil] at h1; omega)
  have HXH := Aside0.mk (show x5 = headP a0_0 a0_1 a0_2 l0_3 a0_4 a0_5 a0_6 a0_7 by rw [hx5, HX4.out, HX3.out, HX2.out, HX1.out]; simp only [headP, List.nil_append])
  have HW6 := Aside0.mk hW6
  clear hC5 hW6 c6 hx5 hl5 hl6 hl7 hg5 hs5 HX1 HX2 HX3 HX4 HL1 HL2 HL3 HL4 HO1 HO2 HO3 HO4 HO5 CB1 CB2 CB3 CB4 CB5 HW2 HW3 HW4 HW5
  have hl4 := (blk_cell HO6.out 4).trans rfl
  have hl13 := (blk_cell HO6.out 13).trans rfl
  go_wp2_with fail
  have hC6 : Kd.C (Kd.int .i64) (w6.alloc (.cells #[.int .i64 (l0_13.length : Int)] 3)) (some ⟨w6.heap.size, 0, none⟩) [(l0_13.length : Int)].length [(l0_13.length : Int)] := C_ints (heap_alloc_new w6 _) rfl (by simp)
  have hg6 : g < w6.heap.size := blk_lt HW6.out
  have hnok : ∀ x ∈ [(l0_13.length : Int)], numOk x := fun x hx => by simp at hx; subst hx; exact nok (by omega) (by have := SM.out.sl; omega)
  refine (wr_num (w0 := w) (xs := [(l0_13.length : Int)]) (c := 1) ((CB6.out.alloc _).to_below (fun _ h => h.elim)) (Nat.le_of_lt HOG.out) (blk_alloc HW6.out _) hC6 (by simp) (fun ad h _ => by cases h; exact Nat.ne_of_gt hg6) hnok (by simp) (by have := HL5.out; omega)).mono ?_
  rintro e w7 ⟨rfl, hW7, c7⟩
  have HO7 := Aside0.mk (c7.blk (blk_alloc HO6.out _) (by have := HOG.out; omega))
  have CB7 := Aside0.mk ((CB6.out.alloc _).trans' c7 (fun k hk => .inr (by have := HOG.out; omega)))
  have HW7 := Aside0.mk hW7
  clear hW7 c7
  have HL6 := Aside0.mk (show (x5 ++ pns [(l0_13.length : Int)]).length ≤ 200009 by rw [List.length_append]; have h1 := pns_len _ hnok; have := HL5.out; simp only [List.length_singleton] at h1; omega)
  clear hC6 hg6 hl13 hnok
  have hl13 := (blk_cell HO7.out 13).trans rfl
  have hsl := SM.out.sl
  go_wp2_with fail
  go_loopw [71] (fun i wr => ∃ j : Nat, j ≤ l0_13.length ∧ i = .int .i64 j ∧ Aside0 (Wr wr g (x5 ++ pns [(l0_13.length : Int)] ++ (l0_13.take j).flatMap dpn)) ∧ Aside0 (Chg (fun _ => False) w wr)) (fun i _ => l0_13.length - (intOf i).toNat)
  case atStart => exact ⟨0, Nat.zero_le _, rfl, ⟨by simpa using HW7.out⟩, CB7⟩
  case round =>
    obtain ⟨j, hj, rfl, HWr, HCr⟩ := hrel
    by_cases hlt : j < l0_13.length
    · have hC := HCr.out.C (fun _ h => h.elim) HR2.out
      obtain ⟨ad, hA, hx0, hx1⟩ := at_T23 hC (j : Int) (by omega) (by omega)
      rw [rdT_getD] at hx0 hx1
      obtain ⟨y, hy⟩ : ∃ y, y = l0_13.getD j z23 := ⟨_, rfl⟩
      have hmem : y ∈ l0_13 := by rw [hy, List.getD_eq_getElem?_getD, List.getElem?_eq_getElem hlt]; exact List.getElem_mem hlt
      have htk : l0_13.take (j + 1) = l0_13.take j ++ [y] := by rw [List.take_succ_eq_append_getElem hlt, hy, List.getD_eq_getElem?_getD, List.getElem?_eq_getElem hlt]; rfl
      rw [← hy] at hx0 hx1
      have HY := Aside0.mk (SM.out.ds y hmem); have HTK := Aside0.mk htk
      subst hA
      have hi0 : (0 : Int) ≤ (j : Int) := by omega
      have hi1 : (j : Int) < (l0_13.length : Int) := by omega
      have hgr : g < wr.heap.size := blk_lt HWr.out
      have HGR := Aside0.mk hgr
      have hacc : ((l0_13.take j).flatMap dpn).length ≤ 18 * 64 := dpns_len _ (fun d hd => SM.out.ds d (List.mem_of_mem_take hd)) (by rw [List.length_take]; omega)
      have HACC := Aside0.mk (show (x5 ++ pns [(l0_13.length : Int)] ++ (l0_13.take j).flatMap dpn).length ≤ 1000000 by rw [List.length_append]; have := HL6.out; omega)
      simp only [Int.toNat_natCast] at hx0 hx1
      clear hC hy hmem htk hgr hacc
      go_wp2_with fail
      refine (wr_dot (w0 := w) ((HCr.out.alloc _).to_below (fun _ h => h.elim)) (Nat.le_of_lt HOG.out) (blk_alloc HWr.out _) (nok HY.out.1 (by have := HY.out; omega)) (nok (by have := HY.out; omega) (by have := HY.out; omega)) HACC.out).mono ?_
      rintro e w8 ⟨rfl, hW8, c8⟩
      have HW8 := Aside0.mk hW8
      have HC8 := Aside0.mk ((HCr.out.alloc _).trans' c8 (fun k hk => .inr (by have := HOG.out; omega)))
      clear hW8 c8 hx0 hx1
      go_wp2
      go_roundw
      case measure => simp [intOf]; omega
      case rel =>
        refine ⟨j + 1, by omega, by go_num, ⟨?_⟩, HC8⟩
        rw [HTK.out, List.flatMap_append, ← List.append_assoc]
        simpa [dpn] using HW8.out
    · obtain rfl : j = l0_13.length := by omega
      have hwr := HWr.out
      rw [List.take_length] at hwr
      have HXE := Aside0.mk (show putP a0_0 a0_1 a0_2 l0_3 a0_4 a0_5 a0_6 a0_7 a0_8 a0_9 a0_10 a0_11 a0_12 l0_13 = x5 ++ (pns [(l0_13.length : Int)] ++ l0_13.flatMap dpn) by rw [HXH.out]; simp [putP, ownP, HK1.out, pns])
      have HWE := Aside0.mk hwr
      clear hwr
      have hr7 := (blk_cell HWE.out 0).trans rfl
      go_wp2
      go_ret2
      exact ⟨by rw [HXE.out]; rfl, HCr.out.to_below (fun _ h => h.elim)⟩
theorem put_yes (a0_0 : Int) (a0_1 : Int) (a0_2 : Int) (A0_3 : Option Addr) (c0_3 : Nat) (l0_3 : List Int) (a0_4 : Int) (a0_5 : ByteArray) (a0_6 : ByteArray) (a0_7 : ByteArray) (a0_8 : ByteArray) (a0_9 : Int) (a0_10 : Int) (a0_11 : Int) (a0_12 : Int) (A0_13 : Option Addr) (c0_13 : Nat) (l0_13 : List (S23)) (a1 : Int) (w : World) (hr0_3 : Kd.C (Kd.int .i64) w A0_3 l0_3.length l0_3) (hc0_3 : l0_3.length ≤ c0_3) (hr0_13 : Kd.C k23 w A0_13 l0_13.length l0_13) (hc0_13 : l0_13.length ≤ c0_13) (h : mayB a0_0 a0_1 a0_2 l0_3 a0_4 a0_5 a0_6 a0_7 a0_8 a0_9 a0_10 a0_11 a0_12 l0_13 a1 = true) :
    Calls Try.prog 8 #[.agg #[.int .i64 a0_0, .int .i64 a0_1, .int .i64 a0_2, .slice A0_3 l0_3.length c0_3, .int .i64 a0_4, .string a0_5, .string a0_6, .string a0_7, .string a0_8, .int .i64 a0_9, .int .i64 a0_10, .int .i64 a0_11, .int .i64 a0_12, .slice A0_13 l0_13.length c0_13], .int .i64 a1] w fun e w' => e = .returned (.tuple #[.string ⟨(putP a0_0 a0_1 a0_2 l0_3 a0_4 a0_5 a0_6 a0_7 a0_8 a0_9 a0_10 a0_11 a0_12 l0_13).toArray⟩, .int .i64 0]) ∧ Below w.heap.size w w' := by
  have hk := (small_of h).k
  by_cases h02 : a0_4 = 0 ∨ a0_4 = 2
  · exact put_text _ _ _ _ _ _ _ _ _ _ _ _ _ _ _ _ _ _ _ w hr0_3 hc0_3 hr0_13 hc0_13 h h02
  · by_cases h1 : a0_4 = 1
    · exact put_num _ _ _ _ _ _ _ _ _ _ _ _ _ _ _ _ _ _ _ w hr0_3 hc0_3 hr0_13 hc0_13 h h1
    · by_cases h3 : a0_4 = 3
      · exact put_drop _ _ _ _ _ _ _ _ _ _ _ _ _ _ _ _ _ _ _ w hr0_3 hc0_3 hr0_13 hc0_13 h h3
      · by_cases h4 : a0_4 = 4
        · exact put_insert _ _ _ _ _ _ _ _ _ _ _ _ _ _ _ _ _ _ _ w hr0_3 hc0_3 hr0_13 hc0_13 h h4
        · exact put_erase _ _ _ _ _ _ _ _ _ _ _ _ _ _ _ _ _ _ _ w hr0_3 hc0_3 hr0_13 hc0_13 h (by omega)
def op_Put.f (a0_0 : Int) (a0_1 : Int) (a0_2 : Int) (l0_3 : List Int) (a0_4 : Int) (a0_5 : ByteArray) (a0_6 : ByteArray) (a0_7 : ByteArray) (a0_8 : ByteArray) (a0_9 : Int) (a0_10 : Int) (a0_11 : Int) (a0_12 : Int) (l0_13 : List (S23)) (a1 : Int) : Option (ByteArray × Int) :=
  some (if mayB a0_0 a0_1 a0_2 l0_3 a0_4 a0_5 a0_6 a0_7 a0_8 a0_9 a0_10 a0_11 a0_12 l0_13 a1 = true then (⟨(putP a0_0 a0_1 a0_2 l0_3 a0_4 a0_5 a0_6 a0_7 a0_8 a0_9 a0_10 a0_11 a0_12 l0_13).toArray⟩, 0) else (⟨#[]⟩, 1100))
theorem op_Put.calls (a0_0 : Int) (a0_1 : Int) (a0_2 : Int) (A0_3 : Option Addr) (c0_3 : Nat) (l0_3 : List Int) (a0_4 : Int) (a0_5 : ByteArray) (a0_6 : ByteArray) (a0_7 : ByteArray) (a0_8 : ByteArray) (a0_9 : Int) (a0_10 : Int) (a0_11 : Int) (a0_12 : Int) (A0_13 : Option Addr) (c0_13 : Nat) (l0_13 : List (S23)) (a1 : Int) (r1 : ByteArray) (r2 : Int) (w : World) (hr0_3 : Kd.C (Kd.int .i64) w A0_3 l0_3.length l0_3) (hc0_3 : l0_3.length ≤ c0_3) (hr0_13 : Kd.C k23 w A0_13 l0_13.length l0_13) (hc0_13 : l0_13.length ≤ c0_13) (h : op_Put.f a0_0 a0_1 a0_2 l0_3 a0_4 a0_5 a0_6 a0_7 a0_8 a0_9 a0_10 a0_11 a0_12 l0_13 a1 = some (r1, r2)) :
    Calls Try.prog 8 #[.agg #[.int .i64 a0_0, .int .i64 a0_1, .int .i64 a0_2, .slice A0_3 l0_3.length c0_3, .int .i64 a0_4, .string a0_5, .string a0_6, .string a0_7, .string a0_8, .int .i64 a0_9, .int .i64 a0_10, .int .i64 a0_11, .int .i64 a0_12, .slice A0_13 l0_13.length c0_13], .int .i64 a1] w fun e w' => e = .returned (.tuple #[.string r1, .int .i64 r2]) ∧ Below w.heap.size w w' := by
  have h' := Option.some.inj h
  by_cases hm : mayB a0_0 a0_1 a0_2 l0_3 a0_4 a0_5 a0_6 a0_7 a0_8 a0_9 a0_10 a0_11 a0_12 l0_13 a1 = true
  · rw [if_pos hm] at h'
    obtain ⟨rfl, rfl⟩ := Prod.mk.inj h'
    exact put_yes _ _ _ _ _ _ _ _ _ _ _ _ _ _ _ _ _ _ _ w hr0_3 hc0_3 hr0_13 hc0_13 hm
  · rw [if_neg hm] at h'
    obtain ⟨rfl, rfl⟩ := Prod.mk.inj h'
    exact put_no _ _ _ _ _ _ _ _ _ _ _ _ _ _ _ _ _ _ _ w hr0_3 hc0_3 hr0_13 hc0_13 (by simpa using hm)
end Go.Proofs.Ytaaaeonalomcgaa.Q
