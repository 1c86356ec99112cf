/- What op.Put answers, walked. No condition. -/
import Derived.Test.YtaaaeonalomcgaaUHPut
set_option linter.unusedVariables false
set_option linter.unusedSimpArgs false
namespace Go.Proofs.Ytaaaeonalomcgaa.Q
open Go.RowKit Go.Proofs.YtaaaeonalomcgaaW.PrintWords Go.Proofs.YtaaaeonalomcgaaW.PrintLast Go.Proofs.YtaaaeonalomcgaaW.PrintMore Sp
theorem put_no (a0_0 : Int) (a0_1 : Int) (a0_2 : Int) (A0_3 : Option Addr) (c0_3 : Nat) (l0_3 : List Int) (a0_4 : Int) (a0_5 : ByteArray) (a0_6 : ByteArray) (a0_7 : ByteArray) (a0_8 : ByteArray) (a0_9 : Int) (a0_10 : Int) (a0_11 : Int) (a0_12 : Int) (A0_13 : Option Addr) (c0_13 : Nat) (l0_13 : List (S23)) (a1 : Int) (w : World) (hr0_3 : Kd.C (Kd.int .i64) w A0_3 l0_3.length l0_3) (hc0_3 : l0_3.length ≤ c0_3) (hr0_13 : Kd.C k23 w A0_13 l0_13.length l0_13) (hc0_13 : l0_13.length ≤ c0_13) (h : mayB a0_0 a0_1 a0_2 l0_3 a0_4 a0_5 a0_6 a0_7 a0_8 a0_9 a0_10 a0_11 a0_12 l0_13 a1 = false) :
    Calls Try.prog 8 #[.agg #[.int .i64 a0_0, .int .i64 a0_1, .int .i64 a0_2, .slice A0_3 l0_3.length c0_3, .int .i64 a0_4, .string a0_5, .string a0_6, .string a0_7, .string a0_8, .int .i64 a0_9, .int .i64 a0_10, .int .i64 a0_11, .int .i64 a0_12, .slice A0_13 l0_13.length c0_13], .int .i64 a1] w fun e w' => e = .returned (.tuple #[.string ⟨#[]⟩, .int .i64 1100]) ∧ Below w.heap.size w w' := by
  have hq := fun (W : World) (hB : Below w.heap.size w W) => may_any a0_0 a0_1 a0_2 A0_3 c0_3 l0_3 a0_4 a0_5 a0_6 a0_7 a0_8 a0_9 a0_10 a0_11 a0_12 A0_13 c0_13 l0_13 a1 W (Kd.C_below hr0_3 hB) hc0_3 (Kd.C_below hr0_13 hB) hc0_13
  rw [h] at hq
  have HQ := Aside0.mk hq; clear hq h
  go_enter Try.func8, Try.ntmps8
  go_wp2_with (first | (refine wpList_load_row rfl 29 _ rfl w.heap.size rfl 29 _ (0, 0) _ (heap_alloc_new w _) Try.underlying29 rfl (by kernel_rfl) ?_) | (go_at_call 10; refine (HQ.out _ (below_alloc (Below.refl _ _) _)).mono ?_; rintro e w1 ⟨rfl, hb⟩; have HB := Aside0.mk (below_step (below_alloc (Below.refl w.heap.size w) _) hb); clear hb))
  go_ret2
  exact ⟨rfl, HB.out⟩
theorem Wr.of {w w1 : World} {S : Nat → Prop} {g : Nat} {acc : List UInt8} (h : Wr w g acc) (hc : Chg S w w1) (hg : ¬ S g) : Wr w1 g acc := hc.blk h hg
theorem pns_len : ∀ (xs : List Int), (∀ x ∈ xs, numOk x) → (pns xs).length ≤ 9 * xs.length
  | [], _ => by simp [pns]
  | x :: xs, h => by
    have h1 := pns_len xs (fun y hy => h y (List.mem_cons_of_mem _ hy))
    have h2 := h x List.mem_cons_self
    have h3 := pn_len9 x.toNat (by have := h2.1; have := h2.2; omega)
    have e : pns (x :: xs) = pn x.toNat ++ pns xs := rfl
    rw [e, List.length_append, List.length_cons]; omega
theorem pts_len : ∀ (ss : List ByteArray), (∀ s ∈ ss, s.size ≤ 65536) → (pts ss).length ≤ 65545 * ss.length
  | [], _ => by simp [pts]
  | s :: ss, h => by
    have h1 := pts_len ss (fun y hy => h y (List.mem_cons_of_mem _ hy))
    have h2 := h s List.mem_cons_self
    have h3 := pn_len9 s.size (by omega)
    have e : pts (s :: ss) = pt (bs s) ++ pts ss := rfl
    rw [e, List.length_append, List.length_cons]
    unfold pt; rw [List.length_append, bs_length]; omega
theorem nok {x : Int} (h0 : 0 ≤ x) (h1 : x ≤ 1048575 * 1048575) : numOk x := ⟨h0, by omega⟩
theorem dpns_len : ∀ (ds : List S23), (∀ d ∈ ds, 0 ≤ d.f0 ∧ d.f0 ≤ 15 ∧ 1 ≤ d.f1 ∧ d.f1 ≤ 1048575) → ds.length ≤ 64 → (ds.flatMap dpn).length ≤ 18 * 64 := by
  have key : ∀ (ds : List S23), (∀ d ∈ ds, 0 ≤ d.f0 ∧ d.f0 ≤ 15 ∧ 1 ≤ d.f1 ∧ d.f1 ≤ 1048575) → (ds.flatMap dpn).length ≤ 18 * ds.length := by
    intro ds
    induction ds with
    | nil => intro _; simp
    | cons d ds ih =>
      intro h
      have h1 := ih (fun y hy => h y (List.mem_cons_of_mem _ hy))
      have h2 := h d List.mem_cons_self
      have h3 := pn_len9 d.f0.toNat (by omega)
      have h4 := pn_len9 d.f1.toNat (by omega)
      have e : (d :: ds).flatMap dpn = dpn d ++ ds.flatMap dpn := rfl
      rw [e, List.length_append, List.length_cons]
      unfold dpn at *; rw [List.length_append]; omega
  intro ds h hl
  have := key ds h
  omega
set_option maxHeartbeats 4000000 in
set_option maxRecDepth 100000 in
theorem put_num (a0_0 : Int) (a0_1 : Int) (a0_2 : Int) (A0_3 : Option Addr) (c0_3 : Nat) (l0_3 : List Int) (a0_4 : Int) (a0_5 : ByteArray) (a0_6 : ByteArray) (a0_7 : ByteArray) (a0_8 : ByteArray) (a0_9 : Int) (a0_10 : Int) (a0_11 : Int) (a0_12 : Int) (A0_13 : Option Addr) (c0_13 : Nat) (l0_13 : List (S23)) (a1 : Int) (w : World) (hr0_3 : Kd.C (Kd.int .i64) w A0_3 l0_3.length l0_3) (hc0_3 : l0_3.length ≤ c0_3) (hr0_13 : Kd.C k23 w A0_13 l0_13.length l0_13) (hc0_13 : l0_13.length ≤ c0_13) (h : mayB a0_0 a0_1 a0_2 l0_3 a0_4 a0_5 a0_6 a0_7 a0_8 a0_9 a0_10 a0_11 a0_12 l0_13 a1 = true) (hk : a0_4 = 1) :
    Calls Try.prog 8 #[.agg #[.int .i64 a0_0, .int .i64 a0_1, .int .i64 a0_2, .slice A0_3 l0_3.length c0_3, .int .i64 a0_4, .string a0_5, .string a0_6, .string a0_7, .string a0_8, .int .i64 a0_9, .int .i64 a0_10, .int .i64 a0_11, .int .i64 a0_12, .slice A0_13 l0_13.length c0_13], .int .i64 a1] w fun e w' => e = .returned (.tuple #[.string ⟨(putP a0_0 a0_1 a0_2 l0_3 a0_4 a0_5 a0_6 a0_7 a0_8 a0_9 a0_10 a0_11 a0_12 l0_13).toArray⟩, .int .i64 0]) ∧ Below w.heap.size w w' := by
  have sm := small_of h
  have hq := fun (W : World) (hB : Below w.heap.size w W) => may_any a0_0 a0_1 a0_2 A0_3 c0_3 l0_3 a0_4 a0_5 a0_6 a0_7 a0_8 a0_9 a0_10 a0_11 a0_12 A0_13 c0_13 l0_13 a1 W (Kd.C_below hr0_3 hB) hc0_3 (Kd.C_below hr0_13 hB) hc0_13
  rw [h] at hq
  have hlt := C_lt hr0_3
  have HQ := Aside0.mk hq; have SM := Aside0.mk sm; have HR := Aside0.mk hr0_3; have HC := Aside0.mk hc0_3; have HR2 := Aside0.mk hr0_13; have HC2 := Aside0.mk hc0_13; have HLT := Aside0.mk hlt
  clear hq h sm hr0_3 hc0_3 hr0_13 hc0_13 hlt
  have hb0 : (0 : Int) ≤ a0_4 := SM.out.k.1
  have hb5 : a0_4 ≤ 5 := SM.out.k.2
  have HK1 := Aside0.mk hk
  have b0 : (a0_4 == 0) = false := beq_eq_false_iff_ne.2 (by omega)
  have b1 : (a0_4 == 1) = true := beq_iff_eq.2 (by omega)
  clear hk
  have hu23 := Try.underlying23
  have hu26 := Try.underlying26
  go_enter Try.func8, Try.ntmps8
  go_wp2_with (first | (refine wpList_load_row rfl 29 _ rfl w.heap.size rfl 29 _ (0, 0) _ (heap_alloc_new w _) Try.underlying29 rfl (by kernel_rfl) ?_) | (go_at_call 10; refine (HQ.out _ (below_alloc (Below.refl _ _) _)).mono ?_; rintro e w1 ⟨rfl, hb⟩; have HO1 := Aside0.mk (blk_below (heap_alloc_new w _) hb); have CB1 := Aside0.mk (((Chg.refl (fun _ => False) w).alloc _).below_ hb); clear hb; have hl0 := fun ob => (blk_cell (blk_alloc HO1.out ob) 0).trans rfl; have hl1 := fun ob => (blk_cell (blk_alloc HO1.out ob) 1).trans rfl) | fail "arm")
  have hO1 := HO1.out
  obtain ⟨g, hg⟩ : ∃ g, g = w1.heap.size := ⟨_, rfl⟩
  have HG := Aside0.mk hg
  have HOG := Aside0.mk (show w.heap.size < g by rw [hg]; exact blk_lt hO1)
  clear hO1 hg
  rw [← HG.out]
  have hW1 : Wr (w1.alloc (.cells #[.string ⟨#[]⟩] 47)) g [] := by have h0 := fun ob => heap_alloc_new w1 ob; rw [← HG.out] at h0; exact h0 _
  have hB1 := (CB1.out.alloc (.cells #[.string ⟨#[]⟩] 47)).to_below (fun _ h => h.elim)
  refine (wr_dot (w0 := w) hB1 (Nat.le_of_lt HOG.out) hW1 (nok SM.out.d0.1 (by have := SM.out.d0.2; omega)) (nok (by have := SM.out.d1.1; omega) (by have := SM.out.d1.2; omega)) (by simp)).mono ?_
  rintro e w2 ⟨rfl, hW2, c2⟩
  have HO2 := Aside0.mk (c2.blk (blk_alloc HO1.out _) (by have := HOG.out; omega))
  have CB2 := Aside0.mk ((CB1.out.alloc _).trans' c2 (fun k hk => .inr (by have := HOG.out; omega)))
  obtain ⟨x1, hx1⟩ : ∃ x, x = ([] : List UInt8) ++ (pn a0_0.toNat ++ pn a0_1.toNat) := ⟨_, rfl⟩
  rw [← hx1] at hW2
  have HL1 := Aside0.mk (show x1.length ≤ 18 by rw [hx1]; simp only [List.nil_append, List.length_append]; have h1 := pn_len9 a0_0.toNat (by have := SM.out.d0; omega); have h2 := pn_len9 a0_1.toNat (by have := SM.out.d1; omega); omega)
  have HW2 := Aside0.mk hW2; have HX1 := Aside0.mk hx1
  clear hW1 hB1 hW2 c2 hx1 hl0 hl1
  have hl2 := (blk_cell HO2.out 2).trans rfl
  go_wp2_with fail
  have hC2 : Kd.C (Kd.int .i64) (w2.alloc (.cells #[.int .i64 a0_2] 3)) (some ⟨w2.heap.size, 0, none⟩) [a0_2].length [a0_2] := C_ints (heap_alloc_new w2 _) rfl (by simp)
  have hg2 : g < w2.heap.size := blk_lt HW2.out
  refine (wr_num (w0 := w) (xs := [a0_2]) (c := 1) ((CB2.out.alloc _).to_below (fun _ h => h.elim)) (Nat.le_of_lt HOG.out) (blk_alloc HW2.out _) hC2 (by simp) (fun ad h _ => by cases h; exact Nat.ne_of_gt hg2) (fun x hx => by simp at hx; subst hx; exact nok (by have := SM.out.t.1; omega) (by have := SM.out.t.2; omega)) (by simp) (by have := HL1.out; omega)).mono ?_
  rintro e w3 ⟨rfl, hW3, c3⟩
  have HO3 := Aside0.mk (c3.blk (blk_alloc HO2.out _) (by have := HOG.out; omega))
  have CB3 := Aside0.mk ((CB2.out.alloc _).trans' c3 (fun k hk => .inr (by have := HOG.out; omega)))
  obtain ⟨x2, hx2⟩ : ∃ x, x = x1 ++ pns [a0_2] := ⟨_, rfl⟩
  rw [← hx2] at hW3
  have HL2 := Aside0.mk (show x2.length ≤ 27 by rw [hx2, List.length_append]; have h1 := pns_len [a0_2] (fun x hx => by simp at hx; subst hx; exact nok (by have := SM.out.t.1; omega) (by have := SM.out.t.2; omega)); have := HL1.out; simp only [List.length_singleton] at h1; omega)
  have HW3 := Aside0.mk hW3; have HX2 := Aside0.mk hx2
  clear hC2 hW3 c3 hx2 hl2 hg2
  have hl3 := (blk_cell HO3.out 3).trans rfl
  go_wp2_with fail
  refine (wr_num (w0 := w) (xs := l0_3) (CB3.out.to_below (fun _ h => h.elim)) (Nat.le_of_lt HOG.out) HW3.out (CB3.out.C (fun _ h => h.elim) HR.out) HC.out (fun ad h hp => by have := HLT.out ad h hp; have := HOG.out; omega) (fun x hx => nok (SM.out.deps x hx).1 (by have := (SM.out.deps x hx).2; omega)) (by have := SM.out.dl; omega) (by have := HL2.out; omega)).mono ?_
  rintro e w4 ⟨rfl, hW4, c4⟩
  have HO4 := Aside0.mk (c4.blk HO3.out (by have := HOG.out; omega))
  have CB4 := Aside0.mk (CB3.out.trans' c4 (fun k hk => .inr (by have := HOG.out; omega)))
  obtain ⟨x3, hx3⟩ : ∃ x, x = x2 ++ pns l0_3 := ⟨_, rfl⟩
  rw [← hx3] at hW4
  have HL3 := Aside0.mk (show x3.length ≤ 171 by rw [hx3, List.length_append]; have h1 := pns_len l0_3 (fun x hx => nok (SM.out.deps x hx).1 (by have := (SM.out.deps x hx).2; omega)); have := HL2.out; have := SM.out.dl; omega)
  have HW4 := Aside0.mk hW4; have HX3 := Aside0.mk hx3
  clear hW4 c4 hx3 hl3
  have hl4 := (blk_cell HO4.out 4).trans rfl
  go_wp2_with fail
  have hC4 : Kd.C (Kd.int .i64) (w4.alloc (.cells #[.int .i64 a0_4] 3)) (some ⟨w4.heap.size, 0, none⟩) [a0_4].length [a0_4] := C_ints (heap_alloc_new w4 _) rfl (by simp)
  have hg4 : g < w4.heap.size := blk_lt HW4.out
  refine (wr_num (w0 := w) (xs := [a0_4]) (c := 1) ((CB4.out.alloc _).to_below (fun _ h => h.elim)) (Nat.le_of_lt HOG.out) (blk_alloc HW4.out _) hC4 (by simp) (fun ad h _ => by cases h; exact Nat.ne_of_gt hg4) (fun x hx => by simp at hx; subst hx; exact nok hb0 (by omega)) (by simp) (by have := HL3.out; omega)).mono ?_
  rintro e w5 ⟨rfl, hW5, c5⟩
  have HO5 := Aside0.mk (c5.blk (blk_alloc HO4.out _) (by have := HOG.out; omega))
  have CB5 := Aside0.mk ((CB4.out.alloc _).trans' c5 (fun k hk => .inr (by have := HOG.out; omega)))
  obtain ⟨x4, hx4⟩ : ∃ x, x = x3 ++ pns [a0_4] := ⟨_, rfl⟩
  rw [← hx4] at hW5
  have HL4 := Aside0.mk (show x4.length ≤ 180 by rw [hx4, List.length_append]; have h1 := pns_len [a0_4] (fun x hx => by simp at hx; subst hx; exact nok hb0 (by omega)); have := HL3.out; simp only [List.length_singleton] at h1; omega)
  have HW5 := Aside0.mk hW5; have HX4 := Aside0.mk hx4
  clear hC4 hW5 c5 hx4 hl4 hg4
  have hl5 := (blk_cell HO5.out 5).trans rfl
  have hl6 := (blk_cell HO5.out 6).trans rfl
  have hl7 := (blk_cell HO5.out 7).trans rfl
  go_wp2_with fail
  have hC5 : Kd.C Kd.string (w5.alloc (.cells #[.string a0_5, .string a0_6, .string a0_7] 9)) (some ⟨w5.heap.size, 0, none⟩) [a0_5, a0_6, a0_7].length [a0_5, a0_6, a0_7] := C_strs (heap_alloc_new w5 _) rfl (by simp)
  have hg5 : g < w5.heap.size := blk_lt HW5.out
  have hs5 : ∀ s ∈ [a0_5, a0_6, a0_7], s.size ≤ 65536 := fun s hs => by
    simp at hs
    rcases hs with rfl | rfl | rfl
    · have := SM.out.ty; omega
    · have := SM.out.id; omega
    · have := SM.out.fl; omega
  refine (wr_text (w0 := w) (xs := [a0_5, a0_6, a0_7]) (c := 3) ((CB5.out.alloc _).to_below (fun _ h => h.elim)) (Nat.le_of_lt HOG.out) (blk_alloc HW5.out _) hC5 (by simp) (fun ad h _ => by cases h; exact Nat.ne_of_gt hg5) hs5 (by simp) (by have := HL4.out; omega)).mono ?_
  rintro e w6 ⟨rfl, hW6, c6⟩
  have HO6 := Aside0.mk (c6.blk (blk_alloc HO5.out _) (by have := HOG.out; omega))
  have CB6 := Aside0.mk ((CB5.out.alloc _).trans' c6 (fun k hk => .inr (by have := HOG.out; omega)))
  obtain ⟨x5, hx5⟩ : ∃ x, x = x4 ++ pts [a0_5, a0_6, a0_7] := ⟨_, rfl⟩
  rw [← hx5] at hW6
  have HL5 := Aside0.mk (show x5.length ≤ 200000 by rw [hx5, List.length_append]; have h1 := pts_len _ hs5; have := HL4.out; simp only [List.length_cons, List.length_nil] at h1; omega)
  have HXH := Aside0.mk (show x5 = headP a0_0 a0_1 a0_2 l0_3 a0_4 a0_5 a0_6 a0_7 by rw [hx5, HX4.out, HX3.out, HX2.out, HX1.out]; simp only [headP, List.nil_append])
  have HW6 := Aside0.mk hW6
  clear hC5 hW6 c6 hx5 hl5 hl6 hl7 hg5 hs5 HX1 HX2 HX3 HX4 HL1 HL2 HL3 HL4 HO1 HO2 HO3 HO4 HO5 CB1 CB2 CB3 CB4 CB5 HW2 HW3 HW4 HW5
  have hl4 := (blk_cell HO6.out 4).trans rfl
  have hl9 := (blk_cell HO6.out 9).trans rfl
  have hl10 := (blk_cell HO6.out 10).trans rfl
  go_wp2_with fail
  have hC6 : Kd.C (Kd.int .i64) (w6.alloc (.cells #[.int .i64 a0_9, .int .i64 a0_10] 3)) (some ⟨w6.heap.size, 0, none⟩) 2 [a0_9, a0_10] := C_ints (xs := [a0_9, a0_10]) (heap_alloc_new w6 _) rfl (by simp)
  have hg6 : g < w6.heap.size := blk_lt HW6.out
  refine (wr_fold (w0 := w) (c := 2) ((CB6.out.alloc _).to_below (fun _ h => h.elim)) (Nat.le_of_lt HOG.out) (blk_alloc HW6.out _) hC6 (by simp) (fun ad h _ => by cases h; exact Nat.ne_of_gt hg6) ⟨SM.out.n.1, SM.out.n.2.1⟩ SM.out.n.2.2 (by have := HL5.out; omega)).mono ?_
  rintro e w7 ⟨rfl, hW7, c7⟩
  have HO7 := Aside0.mk (c7.blk (blk_alloc HO6.out _) (by have := HOG.out; omega))
  have CB7 := Aside0.mk ((CB6.out.alloc _).trans' c7 (fun k hk => .inr (by have := HOG.out; omega)))
  have HW7 := Aside0.mk hW7
  clear hW7 c7
  clear hC6 hg6 hl9 hl10
  have hr7 := (blk_cell HW7.out 0).trans rfl
  go_wp2
  go_ret2
  exact ⟨by rw [show putP a0_0 a0_1 a0_2 l0_3 a0_4 a0_5 a0_6 a0_7 a0_8 a0_9 a0_10 a0_11 a0_12 l0_13 = x5 ++ (pn (zz a0_9).toNat ++ pn (zz a0_10).toNat) from by rw [HXH.out]; simp [putP, ownP, HK1.out]]; rfl, CB7.out.to_below (fun _ h => h.elim)⟩
set_option maxHeartbeats 4000000 in
set_option maxRecDepth 100000 in
theorem put_text (a0_0 : Int) (a0_1 : Int) (a0_2 : Int) (A0_3 : Option Addr) (c0_3 : Nat) (l0_3 : List Int) (a0_4 : Int) (a0_5 : ByteArray) (a0_6 : ByteArray) (a0_7 : ByteArray) (a0_8 : ByteArray) (a0_9 : Int) (a0_10 : Int) (a0_11 : Int) (a0_12 : Int) (A0_13 : Option Addr) (c0_13 : Nat) (l0_13 : List (S23)) (a1 : Int) (w : World) (hr0_3 : Kd.C (Kd.int .i64) w A0_3 l0_3.length l0_3) (hc0_3 : l0_3.length ≤ c0_3) (hr0_13 : Kd.C k23 w A0_13 l0_13.length l0_13) (hc0_13 : l0_13.length ≤ c0_13) (h : mayB a0_0 a0_1 a0_2 l0_3 a0_4 a0_5 a0_6 a0_7 a0_8 a0_9 a0_10 a0_11 a0_12 l0_13 a1 = true) (hk : a0_4 = 0 ∨ a0_4 = 2) :
    Calls Try.prog 8 #[.agg #[.int .i64 a0_0, .int .i64 a0_1, .int .i64 a0_2, .slice A0_3 l0_3.length c0_3, .int .i64 a0_4, .string a0_5, .string a0_6, .string a0_7, .string a0_8, .int .i64 a0_9, .int .i64 a0_10, .int .i64 a0_11, .int .i64 a0_12, .slice A0_13 l0_13.length c0_13], .int .i64 a1] w fun e w' => e = .returned (.tuple #[.string ⟨(putP a0_0 a0_1 a0_2 l0_3 a0_4 a0_5 a0_6 a0_7 a0_8 a0_9 a0_10 a0_11 a0_12 l0_13).toArray⟩, .int .i64 0]) ∧ Below w.heap.size w w' := by
  have sm := small_of h
  have hq := fun (W : World) (hB : Below w.heap.size w W) => may_any a0_0 a0_1 a0_2 A0_3 c0_3 l0_3 a0_4 a0_5 a0_6 a0_7 a0_8 a0_9 a0_10 a0_11 a0_12 A0_13 c0_13 l0_13 a1 W (Kd.C_below hr0_3 hB) hc0_3 (Kd.C_below hr0_13 hB) hc0_13
  rw [h] at hq
  have hlt := C_lt hr0_3
  have HQ := Aside0.mk hq; have SM := Aside0.mk sm; have HR := Aside0.mk hr0_3; have HC := Aside0.mk hc0_3; have HR2 := Aside0.mk hr0_13; have HC2 := Aside0.mk hc0_13; have HLT := Aside0.mk hlt
  clear hq h sm hr0_3 hc0_3 hr0_13 hc0_13 hlt
  have hb0 : (0 : Int) ≤ a0_4 := SM.out.k.1
  have hb5 : a0_4 ≤ 5 := SM.out.k.2
  have HK1 := Aside0.mk hk
  have b1 : (a0_4 == 1) = false := beq_eq_false_iff_ne.2 (by omega)
  have b3 : (a0_4 == 3) = false := beq_eq_false_iff_ne.2 (by omega)
  have b5 : (a0_4 == 5) = false := beq_eq_false_iff_ne.2 (by omega)
  have b4 : (a0_4 == 4) = false := beq_eq_false_iff_ne.2 (by omega)
  clear hk
  have hu23 := Try.underlying23
  have hu26 := Try.underlying26
  go_enter Try.func8, Try.ntmps8
  go_wp2_with (first | (refine wpList_load_row rfl 29 _ rfl w.heap.size rfl 29 _ (0, 0) _ (heap_alloc_new w _) Try.underlying29 rfl (by kernel_rfl) ?_) | (go_at_call 10; refine (HQ.out _ (below_alloc (Below.refl _ _) _)).mono ?_; rintro e w1 ⟨rfl, hb⟩; have HO1 := Aside0.mk (blk_below (heap_alloc_new w _) hb); have CB1 := Aside0.mk (((Chg.refl (fun _ => False) w).alloc _).below_ hb); clear hb; have hl0 := fun ob => (blk_cell (blk_alloc HO1.out ob) 0).trans rfl; have hl1 := fun ob => (blk_cell (blk_alloc HO1.out ob) 1).trans rfl) | fail "arm")
  have hO1 := HO1.out
  obtain ⟨g, hg⟩ : ∃ g, g = w1.heap.size := ⟨_, rfl⟩
  have HG := Aside0.mk hg
  have HOG := Aside0.mk (show w.heap.size < g by rw [hg]; exact blk_lt hO1)
  clear hO1 hg
  rw [← HG.out]
  have hW1 : Wr (w1.alloc (.cells #[.string ⟨#[]⟩] 47)) g [] := by have h0 := fun ob => heap_alloc_new w1 ob; rw [← HG.out] at h0; exact h0 _
  have hB1 := (CB1.out.alloc (.cells #[.string ⟨#[]⟩] 47)).to_below (fun _ h => h.elim)
  refine (wr_dot (w0 := w) hB1 (Nat.le_of_lt HOG.out) hW1 (nok SM.out.d0.1 (by have := SM.out.d0.2; omega)) (nok (by have := SM.out.d1.1; omega) (by have := SM.out.d1.2; omega)) (by simp)).mono ?_
  rintro e w2 ⟨rfl, hW2, c2⟩
  have HO2 := Aside0.mk (c2.blk (blk_alloc HO1.out _) (by have := HOG.out; omega))
  have CB2 := Aside0.mk ((CB1.out.alloc _).trans' c2 (fun k hk => .inr (by have := HOG.out; omega)))
  obtain ⟨x1, hx1⟩ : ∃ x, x = ([] : List UInt8) ++ (pn a0_0.toNat ++ pn a0_1.toNat) := ⟨_, rfl⟩
  rw [← hx1] at hW2
  have HL1 := Aside0.mk (show x1.length ≤ 18 by rw [hx1]; simp only [List.nil_append, List.length_append]; have h1 := pn_len9 a0_0.toNat (by have := SM.out.d0; omega); have h2 := pn_len9 a0_1.toNat (by have := SM.out.d1; omega); omega)
  have HW2 := Aside0.mk hW2; have HX1 := Aside0.mk hx1
  clear hW1 hB1 hW2 c2 hx1 hl0 hl1
  have hl2 := (blk_cell HO2.out 2).trans rfl
  go_wp2_with fail
  have hC2 : Kd.C (Kd.int .i64) (w2.alloc (.cells #[.int .i64 a0_2] 3)) (some ⟨w2.heap.size, 0, none⟩) [a0_2].length [a0_2] := C_ints (heap_alloc_new w2 _) rfl (by simp)
  have hg2 : g < w2.heap.size := blk_lt HW2.out
  refine (wr_num (w0 := w) (xs := [a0_2]) (c := 1) ((CB2.out.alloc _).to_below (fun _ h => h.elim)) (Nat.le_of_lt HOG.out) (blk_alloc HW2.out _) hC2 (by simp) (fun ad h _ => by cases h; exact Nat.ne_of_gt hg2) (fun x hx => by simp at hx; subst hx; exact nok (by have := SM.out.t.1; omega) (by have := SM.out.t.2; omega)) (by simp) (by have := HL1.out; omega)).mono ?_
  rintro e w3 ⟨rfl, hW3, c3⟩
  have HO3 := Aside0.mk (c3.blk (blk_alloc HO2.out _) (by have := HOG.out; omega))
  have CB3 := Aside0.mk ((CB2.out.alloc _).trans' c3 (fun k hk => .inr (by have := HOG.out; omega)))
  obtain ⟨x2, hx2⟩ : ∃ x, x = x1 ++ pns [a0_2] := ⟨_, rfl⟩
  rw [← hx2] at hW3
  have HL2 := Aside0.mk (show x2.length ≤ 27 by rw [hx2, List.length_append]; have h1 := pns_len [a0_2] (fun x hx => by simp at hx; subst hx; exact nok (by have := SM.out.t.1; omega) (by have := SM.out.t.2; omega)); have := HL1.out; simp only [List.length_singleton] at h1; omega)
  have HW3 := Aside0.mk hW3; have HX2 := Aside0.mk hx2
  clear hC2 hW3 c3 hx2 hl2 hg2
  have hl3 := (blk_cell HO3.out 3).trans rfl
  go_wp2_with fail
  refine (wr_num (w0 := w) (xs := l0_3) (CB3.out.to_below (fun _ h => h.elim)) (Nat.le_of_lt HOG.out) HW3.out (CB3.out.C (fun _ h => h.elim) HR.out) HC.out (fun ad h hp => by have := HLT.out ad h hp; have := HOG.out; omega) (fun x hx => nok (SM.out.deps x hx).1 (by have := (SM.out.deps x hx).2; omega)) (by have := SM.out.dl; omega) (by have := HL2.out; omega)).mono ?_
  rintro e w4 ⟨rfl, hW4, c4⟩
  have HO4 := Aside0.mk (c4.blk HO3.out (by have := HOG.out; omega))
  have CB4 := Aside0.mk (CB3.out.trans' c4 (fun k hk => .inr (by have := HOG.out; omega)))
  obtain ⟨x3, hx3⟩ : ∃ x, x = x2 ++ pns l0_3 := ⟨_, rfl⟩
  rw [← hx3] at hW4
  have HL3 := Aside0.mk (show x3.length ≤ 171 by rw [hx3, List.length_append]; have h1 := pns_len l0_3 (fun x hx => nok (SM.out.deps x hx).1 (by have := (SM.out.deps x hx).2; omega)); have := HL2.out; have := SM.out.dl; omega)
  have HW4 := Aside0.mk hW4; have HX3 := Aside0.mk hx3
  clear hW4 c4 hx3 hl3
  have hl4 := (blk_cell HO4.out 4).trans rfl
  go_wp2_with fail
  have hC4 : Kd.C (Kd.int .i64) (w4.alloc (.cells #[.int .i64 a0_4] 3)) (some ⟨w4.heap.size, 0, none⟩) [a0_4].length [a0_4] := C_ints (heap_alloc_new w4 _) rfl (by simp)
  have hg4 : g < w4.heap.size := blk_lt HW4.out
  refine (wr_num (w0 := w) (xs := [a0_4]) (c := 1) ((CB4.out.alloc _).to_below (fun _ h => h.elim)) (Nat.le_of_lt HOG.out) (blk_alloc HW4.out _) hC4 (by simp) (fun ad h _ => by cases h; exact Nat.ne_of_gt hg4) (fun x hx => by simp at hx; subst hx; exact nok hb0 (by omega)) (by simp) (by have := HL3.out; omega)).mono ?_
  rintro e w5 ⟨rfl, hW5, c5⟩
  have HO5 := Aside0.mk (c5.blk (blk_alloc HO4.out _) (by have := HOG.out; omega))
  have CB5 := Aside0.mk ((CB4.out.alloc _).trans' c5 (fun k hk => .inr (by have := HOG.out; omega)))
  obtain ⟨x4, hx4⟩ : ∃ x, x = x3 ++ pns [a0_4] := ⟨_, rfl⟩
  rw [← hx4] at hW5
  have HL4 := Aside0.mk (show x4.length ≤ 180 by rw [hx4, List.length_append]; have h1 := pns_len [a0_4] (fun x hx => by simp at hx; subst hx; exact nok hb0 (by omega)); have := HL3.out; simp only [List.length_singleton] at h1; omega)
  have HW5 := Aside0.mk hW5; have HX4 := Aside0.mk hx4
  clear hC4 hW5 c5 hx4 hl4 hg4
  have hl5 := (blk_cell HO5.out 5).trans rfl
  have hl6 := (blk_cell HO5.out 6).trans rfl
  have hl7 := (blk_cell HO5.out 7).trans rfl
  go_wp2_with fail
  have hC5 : Kd.C Kd.string (w5.alloc (.cells #[.string a0_5, .string a0_6, .string a0_7] 9)) (some ⟨w5.heap.size, 0, none⟩) [a0_5, a0_6, a0_7].length [a0_5, a0_6, a0_7] := C_strs (heap_alloc_new w5 _) rfl (by simp)
  have hg5 : g < w5.heap.size := blk_lt HW5.out
  have hs5 : ∀ s ∈ [a0_5, a0_6, a0_7], s.size ≤ 65536 := fun s hs => by
    simp at hs
    rcases hs with rfl | rfl | rfl
    · have := SM.out.ty; omega
    · have := SM.out.id; omega
    · have := SM.out.fl; omega
  refine (wr_text (w0 := w) (xs := [a0_5, a0_6, a0_7]) (c := 3) ((CB5.out.alloc _).to_below (fun _ h => h.elim)) (Nat.le_of_lt HOG.out) (blk_alloc HW5.out _) hC5 (by simp) (fun ad h _ => by cases h; exact Nat.ne_of_gt hg5) hs5 (by simp) (by have := HL4.out; omega)).mono ?_
  rintro e w6 ⟨rfl, hW6, c6⟩
  have HO6 := Aside0.mk (c6.blk (blk_alloc HO5.out _) (by have := HOG.out; omega))
  have CB6 := Aside0.mk ((CB5.out.alloc _).trans' c6 (fun k hk => .inr (by have := HOG.out; omega)))
  obtain ⟨x5, hx5⟩ : ∃ x, x = x4 ++ pts [a0_5, a0_6, a0_7] := ⟨_, rfl⟩
  rw [← hx5] at hW6
  have HL5 := Aside0.mk (show x5.length ≤ 200000 by rw [hx5, List.length_append]; have h1 := pts_len _ hs5; have := HL4.out; simp only [List.length_cons, List.length_nil] at h1; omega)
  have HXH := Aside0.mk (show x5 = headP a0_0 a0_1 a0_2 l0_3 a0_4 a0_5 a0_6 a0_7 by rw [hx5, HX4.out, HX3.out, HX2.out, HX1.out]; simp only [headP, List.nil_append])
  have HW6 := Aside0.mk hW6
  clear hC5 hW6 c6 hx5 hl5 hl6 hl7 hg5 hs5 HX1 HX2 HX3 HX4 HL1 HL2 HL3 HL4 HO1 HO2 HO3 HO4 HO5 CB1 CB2 CB3 CB4 CB5 HW2 HW3 HW4 HW5
  have hl4 := (blk_cell HO6.out 4).trans rfl
  have hl8 := (blk_cell HO6.out 8).trans rfl
  go_wp2_with fail
  have hC6 : Kd.C Kd.string (w6.alloc (.cells #[.string a0_8] 9)) (some ⟨w6.heap.size, 0, none⟩) [a0_8].length [a0_8] := C_strs (heap_alloc_new w6 _) rfl (by simp)
  have hg6 : g < w6.heap.size := blk_lt HW6.out
  refine (wr_text (w0 := w) (xs := [a0_8]) (c := 1) ((CB6.out.alloc _).to_below (fun _ h => h.elim)) (Nat.le_of_lt HOG.out) (blk_alloc HW6.out _) hC6 (by simp) (fun ad h _ => by cases h; exact Nat.ne_of_gt hg6) (fun s hs => by simp at hs; subst hs; have := SM.out.val; omega) (by simp) (by have := HL5.out; omega)).mono ?_
  rintro e w7 ⟨rfl, hW7, c7⟩
  have HO7 := Aside0.mk (c7.blk (blk_alloc HO6.out _) (by have := HOG.out; omega))
  have CB7 := Aside0.mk ((CB6.out.alloc _).trans' c7 (fun k hk => .inr (by have := HOG.out; omega)))
  have HW7 := Aside0.mk hW7
  clear hW7 c7
  clear hC6 hg6 hl8
  have hr7 := (blk_cell HW7.out 0).trans rfl
  go_wp2
  go_ret2
  exact ⟨by rw [show putP a0_0 a0_1 a0_2 l0_3 a0_4 a0_5 a0_6 a0_7 a0_8 a0_9 a0_10 a0_11 a0_12 l0_13 = x5 ++ pts [a0_8] from by rw [HXH.out]; simp [putP, ownP,  pts, show ¬ a0_4 = 1 by have := HK1.out; omega, show ¬ a0_4 = 3 by have := HK1.out; omega, show ¬ a0_4 = 5 by have := HK1.out; omega, show ¬ a0_4 = 4 by have := HK1.out; omega]]; rfl, CB7.out.to_below (fun _ h => h.elim)⟩
set_option maxHeartbeats 4000000 in
set_option maxRecDepth 100000 in
theorem put_erase (a0_0 : Int) (a0_1 : Int) (a0_2 : Int) (A0_3 : Option Addr) (c0_3 : Nat) (l0_3 : List Int) (a0_4 : Int) (a0_5 : ByteArray) (a0_6 : ByteArray) (a0_7 : ByteArray) (a0_8 : ByteArray) (a0_9 : Int) (a0_10 : Int) (a0_11 : Int) (a0_12 : Int) (A0_13 : Option Addr) (c0_13 : Nat) (l0_13 : List (S23)) (a1 : Int) (w : World) (hr0_3 : Kd.C (Kd.int .i64) w A0_3 l0_3.length l0_3) (hc0_3 : l0_3.length ≤ c0_3) (hr0_13 : Kd.C k23 w A0_13 l0_13.length l0_13) (hc0_13 : l0_13.length ≤ c0_13) (h : mayB a0_0 a0_1 a0_2 l0_3 a0_4 a0_5 a0_6 a0_7 a0_8 a0_9 a0_10 a0_11 a0_12 l0_13 a1 = true) (hk : a0_4 = 5) :
    Calls Try.prog 8 #[.agg #[.int .i64 a0_0, .int .i64 a0_1, .int .i64 a0_2, .slice A0_3 l0_3.length c0_3, .int .i64 a0_4, .string a0_5, .string a0_6, .string a0_7, .string a0_8, .int .i64 a0_9, .int .i64 a0_10, .int .i64 a0_11, .int .i64 a0_12, .slice A0_13 l0_13.length c0_13], .int .i64 a1] w fun e w' => e = .returned (.tuple #[.string ⟨(putP a0_0 a0_1 a0_2 l0_3 a0_4 a0_5 a0_6 a0_7 a0_8 a0_9 a0_10 a0_11 a0_12 l0_13).toArray⟩, .int .i64 0]) ∧ Below w.heap.size w w' := by
  have sm := small_of h
  have hq := fun (W : World) (hB : Below w.heap.size w W) => may_any a0_0 a0_1 a0_2 A0_3 c0_3 l0_3 a0_4 a0_5 a0_6 a0_7 a0_8 a0_9 a0_10 a0_11 a0_12 A0_13 c0_13 l0_13 a1 W (Kd.C_below hr0_3 hB) hc0_3 (Kd.C_below hr0_13 hB) hc0_13
  rw [h] at hq
  have hlt := C_lt hr0_3
  have HQ := Aside0.mk hq; have SM := Aside0.mk sm; have HR := Aside0.mk hr0_3; have HC := Aside0.mk hc0_3; have HR2 := Aside0.mk hr0_13; have HC2 := Aside0.mk hc0_13; have HLT := Aside0.mk hlt
  clear hq h sm hr0_3 hc0_3 hr0_13 hc0_13 hlt
  have hb0 : (0 : Int) ≤ a0_4 := SM.out.k.1
  have hb5 : a0_4 ≤ 5 := SM.out.k.2
  have HK1 := Aside0.mk hk
  have b1 : (a0_4 == 1) = false := beq_eq_false_iff_ne.2 (by omega)
  have b3 : (a0_4 == 3) = false := beq_eq_false_iff_ne.2 (by omega)
  have b5 : (a0_4 == 5) = true := beq_iff_eq.2 (by omega)
  clear hk
  have hu23 := Try.underlying23
  have hu26 := Try.underlying26
  go_enter Try.func8, Try.ntmps8
  go_wp2_with (first | (refine wpList_load_row rfl 29 _ rfl w.heap.size rfl 29 _ (0, 0) _ (heap_alloc_new w _) Try.underlying29 rfl (by kernel_rfl) ?_) | (go_at_call 10; refine (HQ.out _ (below_alloc (Below.refl _ _) _)).mono ?_; rintro e w1 ⟨rfl, hb⟩; have HO1 := Aside0.mk (blk_below (heap_alloc_new w _) hb); have CB1 := Aside0.mk (((Chg.refl (fun _ => False) w).alloc _).below_ hb); clear hb; have hl0 := fun ob => (blk_cell (blk_alloc HO1.out ob) 0).trans rfl; have hl1 := fun ob => (blk_cell (blk_alloc HO1.out ob) 1).trans rfl) | fail "arm")
  have hO1 := HO1.out
  obtain ⟨g, hg⟩ : ∃ g, g = w1.heap.size := ⟨_, rfl⟩
  have HG := Aside0.mk hg
  have HOG := Aside0.mk (show w.heap.size < g by rw [hg]; exact blk_lt hO1)
  clear hO1 hg
  rw [← HG.out]
  have hW1 : Wr (w1.alloc (.cells #[.string ⟨#[]⟩] 47)) g [] := by have h0 := fun ob => heap_alloc_new w1 ob; rw [← HG.out] at h0; exact h0 _
  have hB1 := (CB1.out.alloc (.cells #[.string ⟨#[]⟩] 47)).to_below (fun _ h => h.elim)
  refine (wr_dot (w0 := w) hB1 (Nat.le_of_lt HOG.out) hW1 (nok SM.out.d0.1 (by have := SM.out.d0.2; omega)) (nok (by have := SM.out.d1.1; omega) (by have := SM.out.d1.2; omega)) (by simp)).mono ?_
  rintro e w2 ⟨rfl, hW2, c2⟩
  have HO2 := Aside0.mk (c2.blk (blk_alloc HO1.out _) (by have := HOG.out; omega))
  have CB2 := Aside0.mk ((CB1.out.alloc _).trans' c2 (fun k hk => .inr (by have := HOG.out; omega)))
  obtain ⟨x1, hx1⟩ : ∃ x, x = ([] : List UInt8) ++ (pn a0_0.toNat ++ pn a0_1.toNat) := ⟨_, rfl⟩
  rw [← hx1] at hW2
  have HL1 := Aside0.mk (show x1.length ≤ 18 by rw [hx1]; simp only [List.nil_append, List.length_append]; have h1 := pn_len9 a0_0.toNat (by have := SM.out.d0; omega); have h2 := pn_len9 a0_1.toNat (by have := SM.out.d1; omega); omega)
  have HW2 := Aside0.mk hW2; have HX1 := Aside0.mk hx1
  clear hW1 hB1 hW2 c2 hx1 hl0 hl1
  have hl2 := (blk_cell HO2.out 2).trans rfl
  go_wp2_with fail
  have hC2 : Kd.C (Kd.int .i64) (w2.alloc (.cells #[.int .i64 a0_2] 3)) (some ⟨w2.heap.size, 0, none⟩) [a0_2].length [a0_2] := C_ints (heap_alloc_new w2 _) rfl (by simp)
  have hg2 : g < w2.heap.size := blk_lt HW2.out
  refine (wr_num (w0 := w) (xs := [a0_2]) (c := 1) ((CB2.out.alloc _).to_below (fun _ h => h.elim)) (Nat.le_of_lt HOG.out) (blk_alloc HW2.out _) hC2 (by simp) (fun ad h _ => by cases h; exact Nat.ne_of_gt hg2) (fun x hx => by simp at hx; subst hx; exact nok (by have := SM.out.t.1; omega) (by have := SM.out.t.2; omega)) (by simp) (by have := HL1.out; omega)).mono ?_
  rintro e w3 ⟨rfl, hW3, c3⟩
  have HO3 := Aside0.mk (c3.blk (blk_alloc HO2.out _) (by have := HOG.out; omega))
  have CB3 := Aside0.mk ((CB2.out.alloc _).trans' c3 (fun k hk => .inr (by have := HOG.out; omega)))
  obtain ⟨x2, hx2⟩ : ∃ x, x = x1 ++ pns [a0_2] := ⟨_, rfl⟩
  rw [← hx2] at hW3
  have HL2 := Aside0.mk (show x2.length ≤ 27 by rw [hx2, List.length_append]; have h1 := pns_len [a0_2] (fun x hx => by simp at hx; subst hx; exact nok (by have := SM.out.t.1; omega) (by have := SM.out.t.2; omega)); have := HL1.out; simp only [List.length_singleton] at h1; omega)
  have HW3 := Aside0.mk hW3; have HX2 := Aside0.mk hx2
  clear hC2 hW3 c3 hx2 hl2 hg2
  have hl3 := (blk_cell HO3.out 3).trans rfl
  go_wp2_with fail
  refine (wr_num (w0 := w) (xs := l0_3) (CB3.out.to_below (fun _ h => h.elim)) (Nat.le_of_lt HOG.out) HW3.out (CB3.out.C (fun _ h => h.elim) HR.out) HC.out (fun ad h hp => by have := HLT.out ad h hp; have := HOG.out; omega) (fun x hx => nok (SM.out.deps x hx).1 (by have := (SM.out.deps x hx).2; omega)) (by have := SM.out.dl; omega) (by have := HL2.out; omega)).mono ?_
  rintro e w4 ⟨rfl, hW4, c4⟩
  have HO4 := Aside0.mk (c4.blk HO3.out (by have := HOG.out; omega))
  have CB4 := Aside0.mk (CB3.out.trans' c4 (fun k hk => .inr (by have := HOG.out; omega)))
  obtain ⟨x3, hx3⟩ : ∃ x, x = x2 ++ pns l0_3 := ⟨_, rfl⟩
  rw [← hx3] at hW4
  have HL3 := Aside0.mk (show x3.length ≤ 171 by rw [hx3, List.length_append]; have h1 := pns_len l0_3 (fun x hx => nok (SM.out.deps x hx).1 (by have := (SM.out.deps x hx).2; omega)); have := HL2.out; have := SM.out.dl; omega)
  have HW4 := Aside0.mk hW4; have HX3 := Aside0.mk hx3
  clear hW4 c4 hx3 hl3
  have hl4 := (blk_cell HO4.out 4).trans rfl
  go_wp2_with fail
  have hC4 : Kd.C (Kd.int .i64) (w4.alloc (.cells #[.int .i64 a0_4] 3)) (some ⟨w4.heap.size, 0, none⟩) [a0_4].length [a0_4] := C_ints (heap_alloc_new w4 _) rfl (by simp)
  have hg4 : g < w4.heap.size := blk_lt HW4.out
  refine (wr_num (w0 := w) (xs := [a0_4]) (c := 1) ((CB4.out.alloc _).to_below (fun _ h => h.elim)) (Nat.le_of_lt HOG.out) (blk_alloc HW4.out _) hC4 (by simp) (fun ad h _ => by cases h; exact Nat.ne_of_gt hg4) (fun x hx => by simp at hx; subst hx; exact nok hb0 (by omega)) (by simp) (by have := HL3.out; omega)).mono ?_
  rintro e w5 ⟨rfl, hW5, c5⟩
  have HO5 := Aside0.mk (c5.blk (blk_alloc HO4.out _) (by have := HOG.out; omega))
  have CB5 := Aside0.mk ((CB4.out.alloc _).trans' c5 (fun k hk => .inr (by have := HOG.out; omega)))
  obtain ⟨x4, hx4⟩ : ∃ x, x = x3 ++ pns [a0_4] := ⟨_, rfl⟩
  rw [← hx4] at hW5
  have HL4 := Aside0.mk (show x4.length ≤ 180 by rw [hx4, List.length_append]; have h1 := pns_len [a0_4] (fun x hx => by simp at hx; subst hx; exact nok hb0 (by omega)); have := HL3.out; simp only [List.length_singleton] at h1; omega)
  have HW5 := Aside0.mk hW5; have HX4 := Aside0.mk hx4
  clear hC4 hW5 c5 hx4 hl4 hg4
  have hl5 := (blk_cell HO5.out 5).trans rfl
  have hl6 := (blk_cell HO5.out 6).trans rfl
  have hl7 := (blk_cell HO5.out 7).trans rfl
  go_wp2_with fail
  have hC5 : Kd.C Kd.string (w5.alloc (.cells #[.string a0_5, .string a0_6, .string a0_7] 9)) (some ⟨w5.heap.size, 0, none⟩) [a0_5, a0_6, a0_7].length [a0_5, a0_6, a0_7] := C_strs (heap_alloc_new w5 _) rfl (by simp)
  have hg5 : g < w5.heap.size := blk_lt HW5.out
  have hs5 : ∀ s ∈ [a0_5, a0_6, a0_7], s.size ≤ 65536 := fun s hs => by
    simp at hs
    rcases hs with rfl | rfl | rfl
    · have := SM.out.ty; omega
    · have := SM.out.id; omega
    · have := SM.out.fl; omega
  refine (wr_text (w0 := w) (xs := [a0_5, a0_6, a0_7]) (c := 3) ((CB5.out.alloc _).to_below (fun _ h => h.elim)) (Nat.le_of_lt HOG.out) (blk_alloc HW5.out _) hC5 (by simp) (fun ad h _ => by cases h; exact Nat.ne_of_gt hg5) hs5 (by simp) (by have := HL4.out; omega)).mono ?_
  rintro e w6 ⟨rfl, hW6, c6⟩
  have HO6 := Aside0.mk (c6.blk (blk_alloc HO5.out _) (by have := HOG.out; omega))
  have CB6 := Aside0.mk ((CB5.out.alloc _).trans' c6 (fun k hk => .inr (by have := HOG.out; omega)))
  obtain ⟨x5, hx5⟩ : ∃ x, x = x4 ++ pts [a0_5, a0_6, a0_7] := ⟨_, rfl⟩
  rw [← hx5] at hW6
  have HL5 := Aside0.mk (show x5.length ≤ 200000 by rw [hx5, List.length_append]; have h1 := pts_len _ hs5; have := HL4.out; simp only [List.length_cons, List.length_nil] at h1; omega)
  have HXH := Aside0.mk (show x5 = headP a0_0 a0_1 a0_2 l0_3 a0_4 a0_5 a0_6 a0_7 by rw [hx5, HX4.out, HX3.out, HX2.out, HX1.out]; simp only [headP, List.nil_append])
  have HW6 := Aside0.mk hW6
  clear hC5 hW6 c6 hx5 hl5 hl6 hl7 hg5 hs5 HX1 HX2 HX3 HX4 HL1 HL2 HL3 HL4 HO1 HO2 HO3 HO4 HO5 CB1 CB2 CB3 CB4 CB5 HW2 HW3 HW4 HW5
  have hl4 := (blk_cell HO6.out 4).trans rfl
  have hl11 := (blk_cell HO6.out 11).trans rfl
  have hl12 := (blk_cell HO6.out 12).trans rfl
  go_wp2_with fail
  refine (wr_dot (w0 := w) (CB6.out.to_below (fun _ h => h.elim)) (Nat.le_of_lt HOG.out) HW6.out (nok SM.out.r.1 (by have := SM.out.r.2.1; omega)) (nok SM.out.r.2.2.1 (by have := SM.out.r.2.2.2; omega)) (by have := HL5.out; omega)).mono ?_
  rintro e w7 ⟨rfl, hW7, c7⟩
  have HO7 := Aside0.mk (c7.blk HO6.out (by have := HOG.out; omega))
  have CB7 := Aside0.mk (CB6.out.trans' c7 (fun k hk => .inr (by have := HOG.out; omega)))
  have HW7 := Aside0.mk hW7
  clear hW7 c7
  clear hl11 hl12
  have hr7 := (blk_cell HW7.out 0).trans rfl
  go_wp2
  go_ret2
  exact ⟨by rw [show putP a0_0 a0_1 a0_2 l0_3 a0_4 a0_5 a0_6 a0_7 a0_8 a0_9 a0_10 a0_11 a0_12 l0_13 = x5 ++ (pn a0_11.toNat ++ pn a0_12.toNat) from by rw [HXH.out]; simp [putP, ownP, HK1.out]]; rfl, CB7.out.to_below (fun _ h => h.elim)⟩
set_option maxHeartbeats 4000000 in
set_option maxRecDepth 100000 in
theorem put_insert (a0_0 : Int) (a0_1 : Int) (a0_2 : Int) (A0_3 : Option Addr) (c0_3 : Nat) (l0_3 : List Int) (a0_4 : Int) (a0_5 : ByteArray) (a0_6 : ByteArray) (a0_7 : ByteArray) (a0_8 : ByteArray) (a0_9 : Int) (a0_10 : Int) (a0_11 : Int) (a0_12 : Int) (A0_13 : Option Addr) (c0_13 : Nat) (l0_13 : List (S23)) (a1 : Int) (w : World) (hr0_3 : Kd.C (Kd.int .i64) w A0_3 l0_3.length l0_3) (hc0_3 : l0_3.length ≤ c0_3) (hr0_13 : Kd.C k23 w A0_13 l0_13.length l0_13) (hc0_13 : l0_13.length ≤ c0_13) (h : mayB a0_0 a0_1 a0_2 l0_3 a0_4 a0_5 a0_6 a0_7 a0_8 a0_9 a0_10 a0_11 a0_12 l0_13 a1 = true) (hk : a0_4 = 4) :
    Calls Try.prog 8 #[.agg #[.int .i64 a0_0, .int .i64 a0_1, .int .i64 a0_2, .slice A0_3 l0_3.length c0_3, .int .i64 a0_4, .string a0_5, .string a0_6, .string a0_7, .string a0_8, .int .i64 a0_9, .int .i64 a0_10, .int .i64 a0_11, .int .i64 a0_12, .slice A0_13 l0_13.length c0_13], .int .i64 a1] w fun e w' => e = .returned (.tuple #[.string ⟨(putP a0_0 a0_1 a0_2 l0_3 a0_4 a0_5 a0_6 a0_7 a0_8 a0_9 a0_10 a0_11 a0_12 l0_13).toArray⟩, .int .i64 0]) ∧ Below w.heap.size w w' := by
  have sm := small_of h
  have hq := fun (W : World) (hB : Below w.heap.size w W) => may_any a0_0 a0_1 a0_2 A0_3 c0_3 l0_3 a0_4 a0_5 a0_6 a0_7 a0_8 a0_9 a0_10 a0_11 a0_12 A0_13 c0_13 l0_13 a1 W (Kd.C_below hr0_3 hB) hc0_3 (Kd.C_below hr0_13 hB) hc0_13
  rw [h] at hq
  have hlt := C_lt hr0_3
  have HQ := Aside0.mk hq; have SM := Aside0.mk sm; have HR := Aside0.mk hr0_3; have HC := Aside0.mk hc0_3; have HR2 := Aside0.mk hr0_13; have HC2 := Aside0.mk hc0_13; have HLT := Aside0.mk hlt
  clear hq h sm hr0_3 hc0_3 hr0_13 hc0_13 hlt
  have hb0 : (0 : Int) ≤ a0_4 := SM.out.k.1
  have hb5 : a0_4 ≤ 5 := SM.out.k.2
  have HK1 := Aside0.mk hk
  have b1 : (a0_4 == 1) = false := beq_eq_false_iff_ne.2 (by omega)
  have b3 : (a0_4 == 3) = false := beq_eq_false_iff_ne.2 (by omega)
  have b5 : (a0_4 == 5) = false := beq_eq_false_iff_ne.2 (by omega)
  have b4 : (a0_4 == 4) = true := beq_iff_eq.2 (by omega)
  clear hk
  have hu23 := Try.underlying23
  have hu26 := Try.underlying26
  go_enter Try.func8, Try.ntmps8
  go_wp2_with (first | (refine wpList_load_row rfl 29 _ rfl w.heap.size rfl 29 _ (0, 0) _ (heap_alloc_new w _) Try.underlying29 rfl (by kernel_rfl) ?_) | (go_at_call 10; refine (HQ.out _ (below_alloc (Below.refl _ _) _)).mono ?_; rintro e w1 ⟨rfl, hb⟩; have HO1 := Aside0.mk (blk_below (heap_alloc_new w _) hb); have CB1 := Aside0.mk (((Chg.refl (fun _ => False) w).alloc _).below_ hb); clear hb; have hl0 := fun ob => (blk_cell (blk_alloc HO1.out ob) 0).trans rfl; have hl1 := fun ob => (blk_cell (blk_alloc HO1.out ob) 1).trans rfl) | fail "arm")
  have hO1 := HO1.out
  obtain ⟨g, hg⟩ : ∃ g, g = w1.heap.size := ⟨_, rfl⟩
  have HG := Aside0.mk hg
  have HOG := Aside0.mk (show w.heap.size < g by rw [hg]; exact blk_lt hO1)
  clear hO1 hg
  rw [← HG.out]
  have hW1 : Wr (w1.alloc (.cells #[.string ⟨#[]⟩] 47)) g [] := by have h0 := fun ob => heap_alloc_new w1 ob; rw [← HG.out] at h0; exact h0 _
  have hB1 := (CB1.out.alloc (.cells #[.string ⟨#[]⟩] 47)).to_below (fun _ h => h.elim)
  refine (wr_dot (w0 := w) hB1 (Nat.le_of_lt HOG.out) hW1 (nok SM.out.d0.1 (by have := SM.out.d0.2; omega)) (nok (by have := SM.out.d1.1; omega) (by have := SM.out.d1.2; omega)) (by simp)).mono ?_
  rintro e w2 ⟨rfl, hW2, c2⟩
  have HO2 := Aside0.mk (c2.blk (blk_alloc HO1.out _) (by have := HOG.out; omega))
  have CB2 := Aside0.mk ((CB1.out.alloc _).trans' c2 (fun k hk => .inr (by have := HOG.out; omega)))
  obtain ⟨x1, hx1⟩ : ∃ x, x = ([] : List UInt8) ++ (pn a0_0.toNat ++ pn a0_1.toNat) := ⟨_, rfl⟩
  rw [← hx1] at hW2
  have HL1 := Aside0.mk (show x1.length ≤ 18 by rw [hx1]; simp only [List.nil_append, List.length_append]; have h1 := pn_len9 a0_0.toNat (by have := SM.out.d0; omega); have h2 := pn_len9 a0_1.toNat (by have := SM.out.d1; omega); omega)
  have HW2 := Aside0.mk hW2; have HX1 := Aside0.mk hx1
  clear hW1 hB1 hW2 c2 hx1 hl0 hl1
  have hl2 := (blk_cell HO2.out 2).trans rfl
  go_wp2_with fail
  have hC2 : Kd.C (Kd.int .i64) (w2.alloc (.cells #[.int .i64 a0_2] 3)) (some ⟨w2.heap.size, 0, none⟩) [a0_2].length [a0_2] := C_ints (heap_alloc_new w2 _) rfl (by simp)
  have hg2 : g < w2.heap.size := blk_lt HW2.out
  refine (wr_num (w0 := w) (xs := [a0_2]) (c := 1) ((CB2.out.alloc _).to_below (fun _ h => h.elim)) (Nat.le_of_lt HOG.out) (blk_alloc HW2.out _) hC2 (by simp) (fun ad h _ => by cases h; exact Nat.ne_of_gt hg2) (fun x hx => by simp at hx; subst hx; exact nok (by have := SM.out.t.1; omega) (by have := SM.out.t.2; omega)) (by simp) (by have := HL1.out; omega)).mono ?_
  rintro e w3 ⟨rfl, hW3, c3⟩
  have HO3 := Aside0.mk (c3.blk (blk_alloc HO2.out _) (by have := HOG.out; omega))
  have CB3 := Aside0.mk ((CB2.out.alloc _).trans' c3 (fun k hk => .inr (by have := HOG.out; omega)))
  obtain ⟨x2, hx2⟩ : ∃ x, x = x1 ++ pns [a0_2] := ⟨_, rfl⟩
  rw [← hx2] at hW3
  have HL2 := Aside0.mk (show x2.length ≤ 27 by rw [hx2, List.length_append]; have h1 := pns_len [a0_2] (fun x hx => by simp at hx; subst hx; exact nok (by have := SM.out.t.1; omega) (by have := SM.out.t.2; omega)); have := HL1.out; simp only [List.length_singleton] at h1; omega)
  have HW3 := Aside0.mk hW3; have HX2 := Aside0.mk hx2
  clear hC2 hW3 c3 hx2 hl2 hg2
  have hl3 := (blk_cell HO3.out 3).trans rfl
  go_wp2_with fail
  refine (wr_num (w0 := w) (xs := l0_3) (CB3.out.to_below (fun _ h => h.elim)) (Nat.le_of_lt HOG.out) HW3.out (CB3.out.C (fun _ h => h.elim) HR.out) HC.out (fun ad h hp => by have := HLT.out ad h hp; have := HOG.out; omega) (fun x hx => nok (SM.out.deps x hx).1 (by have := (SM.out.deps x hx).2; omega)) (by have := SM.out.dl; omega) (by have := HL2.out; omega)).mono ?_
  rintro e w4 ⟨rfl, hW4, c4⟩
  have HO4 := Aside0.mk (c4.blk HO3.out (by have := HOG.out; omega))
  have CB4 := Aside0.mk (CB3.out.trans' c4 (fun k hk => .inr (by have := HOG.out; omega)))
  obtain ⟨x3, hx3⟩ : ∃ x, x = x2 ++ pns l0_3 := ⟨_, rfl⟩
  rw [← hx3] at hW4
  have HL3 := Aside0.mk (show x3.length ≤ 171 by rw [hx3, List.length_append]; have h1 := pns_len l0_3 (fun x hx => nok (SM.out.deps x hx).1 (by have := (SM.out.deps x hx).2; omega)); have := HL2.out; have := SM.out.dl; omega)
  have HW4 := Aside0.mk hW4; have HX3 := Aside0.mk hx3
  clear hW4 c4 hx3 hl3
  have hl4 := (blk_cell HO4.out 4).trans rfl
  go_wp2_with fail
  have hC4 : Kd.C (Kd.int .i64) (w4.alloc (.cells #[.int .i64 a0_4] 3)) (some ⟨w4.heap.size, 0, none⟩) [a0_4].length [a0_4] := C_ints (heap_alloc_new w4 _) rfl (by simp)
  have hg4 : g < w4.heap.size := blk_lt HW4.out
  refine (wr_num (w0 := w) (xs := [a0_4]) (c := 1) ((CB4.out.alloc _).to_below (fun _ h => h.elim)) (Nat.le_of_lt HOG.out) (blk_alloc HW4.out _) hC4 (by simp) (fun ad h _ => by cases h; exact Nat.ne_of_gt hg4) (fun x hx => by simp at hx; subst hx; exact nok hb0 (by omega)) (by simp) (by have := HL3.out; omega)).mono ?_
  rintro e w5 ⟨rfl, hW5, c5⟩
  have HO5 := Aside0.mk (c5.blk (blk_alloc HO4.out _) (by have := HOG.out; omega))
  have CB5 := Aside0.mk ((CB4.out.alloc _).trans' c5 (fun k hk => .inr (by have := HOG.out; omega)))
  obtain ⟨x4, hx4⟩ : ∃ x, x = x3 ++ pns [a0_4] := ⟨_, rfl⟩
  rw [← hx4] at hW5
  have HL4 := Aside0.mk (show x4.length ≤ 180 by rw [hx4, List.length_append]; have h1 := pns_len [a0_4] (fun x hx => by simp at hx; subst hx; exact nok hb0 (by omega)); have := HL3.out; simp only [List.length_singleton] at h1; omega)
  have HW5 := Aside0.mk hW5; have HX4 := Aside0.mk hx4
  clear hC4 hW5 c5 hx4 hl4 hg4
  have hl5 := (blk_cell HO5.out 5).trans rfl
  have hl6 := (blk_cell HO5.out 6).trans rfl
  have hl7 := (blk_cell HO5.out 7).trans rfl
  go_wp2_with fail
  have hC5 : Kd.C Kd.string (w5.alloc (.cells #[.string a0_5, .string a0_6, .string a0_7] 9)) (some ⟨w5.heap.size, 0, none⟩) [a0_5, a0_6, a0_7].length [a0_5, a0_6, a0_7] := C_strs (heap_alloc_new w5 _) rfl (by simp)
  have hg5 : g < w5.heap.size := blk_lt HW5.out
  have hs5 : ∀ s ∈ [a0_5, a0_6, a0_7], s.size ≤ 65536 := fun s hs => by
    simp at hs
    rcases hs with rfl | rfl | rfl
    · have := SM.out.ty; omega
    · have := SM.out.id; omega
    · have := SM.out.fl; omega
  refine (wr_text (w0 := w) (xs := [a0_5, a0_6, a0_7]) (c := 3) ((CB5.out.alloc _).to_below (fun _ h => h.elim)) (Nat.le_of_lt HOG.out) (blk_alloc HW5.out _) hC5 (by simp) (fun ad h _ => by cases h; exact Nat.ne_of_gt hg5) hs5 (by simp) (by have := HL4.out; omega)).mono ?_
  rintro e w6 ⟨rfl, hW6, c6⟩
  have HO6 := Aside0.mk (c6.blk (blk_alloc HO5.out _) (by have := HOG.out; omega))
  have CB6 := Aside0.mk ((CB5.out.alloc _).trans' c6 (fun k hk => .inr (by have := HOG.out; omega)))
  obtain ⟨x5, hx5⟩ : ∃ x, x = x4 ++ pts [a0_5, a0_6, a0_7] := ⟨_, rfl⟩
  rw [← hx5] at hW6
  have HL5 := Aside0.mk (show x5.length ≤ 200000 by rw [hx5, List.length_append]; have h1 := pts_len _ hs5; have := HL4.out; simp only [List.length_cons, List.length_nil] at h1; omega)
  have HXH := Aside0.mk (show x5 = headP a0_0 a0_1 a0_2 l0_3 a0_4 a0_5 a0_6 a0_7 by rw [hx5, HX4.out, HX3.out, HX2.out, HX1.out]; simp only [headP, List.nil_append])
  have HW6 := Aside0.mk hW6
  clear hC5 hW6 c6 hx5 hl5 hl6 hl7 hg5 hs5 HX1 HX2 HX3 HX4 HL1 HL2 HL3 HL4 HO1 HO2 HO3 HO4 HO5 CB1 CB2 CB3 CB4 CB5 HW2 HW3 HW4 HW5
  have hl4 := (blk_cell HO6.out 4).trans rfl
  have hl11 := (blk_cell HO6.out 11).trans rfl
  have hl12 := (blk_cell HO6.out 12).trans rfl
  go_wp2_with fail
  refine (wr_dot (w0 := w) (CB6.out.to_below (fun _ h => h.elim)) (Nat.le_of_lt HOG.out) HW6.out (nok SM.out.r.1 (by have := SM.out.r.2.1; omega)) (nok SM.out.r.2.2.1 (by have := SM.out.r.2.2.2; omega)) (by have := HL5.out; omega)).mono ?_
  rintro e w7 ⟨rfl, hW7, c7⟩
  have HO7 := Aside0.mk (c7.blk HO6.out (by have := HOG.out; omega))
  have CB7 := Aside0.mk (CB6.out.trans' c7 (fun k hk => .inr (by have := HOG.out; omega)))
  have HW7 := Aside0.mk hW7
  clear hW7 c7
  clear hl11 hl12
  have HL6 := Aside0.mk (show (x5 ++ (pn a0_11.toNat ++ pn a0_12.toNat)).length ≤ 200018 by rw [List.length_append, List.length_append]; have h1 := pn_len9 a0_11.toNat (by have := SM.out.r; omega); have h2 := pn_len9 a0_12.toNat (by have := SM.out.r; omega); have := HL5.out; omega)
  have hl8 := (blk_cell HO7.out 8).trans rfl
  go_wp2_with fail
  have hC7 : Kd.C Kd.string (w7.alloc (.cells #[.string a0_8] 9)) (some ⟨w7.heap.size, 0, none⟩) [a0_8].length [a0_8] := C_strs (heap_alloc_new w7 _) rfl (by simp)
  have hg7 : g < w7.heap.size := blk_lt HW7.out
  refine (wr_text (w0 := w) (xs := [a0_8]) (c := 1) ((CB7.out.alloc _).to_below (fun _ h => h.elim)) (Nat.le_of_lt HOG.out) (blk_alloc HW7.out _) hC7 (by simp) (fun ad h _ => by cases h; exact Nat.ne_of_gt hg7) (fun s hs => by simp at hs; subst hs; have := SM.out.val; omega) (by simp) (by have := HL6.out; omega)).mono ?_
  rintro e w8 ⟨rfl, hW8, c8⟩
  have HO8 := Aside0.mk (c8.blk (blk_alloc HO7.out _) (by have := HOG.out; omega))
  have CB8 := Aside0.mk ((CB7.out.alloc _).trans' c8 (fun k hk => .inr (by have := HOG.out; omega)))
  have HW8 := Aside0.mk hW8
  clear hW8 c8
  clear hC7 hg7 hl8
  have hr8 := (blk_cell HW8.out 0).trans rfl
  go_wp2
  go_ret2
  exact ⟨by rw [show putP a0_0 a0_1 a0_2 l0_3 a0_4 a0_5 a0_6 a0_7 a0_8 a0_9 a0_10 a0_11 a0_12 l0_13 = x5 ++ (pn a0_11.toNat ++ (pn a0_12.toNat ++ pts [a0_8])) from by rw [HXH.out]; simp [putP, ownP, pts, HK1.out]]; rfl, CB8.out.to_below (fun _ h => h.elim)⟩
end Go.Proofs.Ytaaaeonalomcgaa.Q
