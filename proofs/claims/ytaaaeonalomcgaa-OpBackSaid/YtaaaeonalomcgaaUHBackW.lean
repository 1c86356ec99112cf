/- What OpBack answers: true, whatever it is given. No condition. -/
import Derived.Test.YtaaaeonalomcgaaUHForms
import Derived.Test.YtaaaeonalomcgaaUHBack
set_option linter.unusedVariables false
set_option linter.unusedSimpArgs false
namespace Go.Proofs.Ytaaaeonalomcgaa.Q
open Go.RowKit Go.Proofs.YtaaaeonalomcgaaW.PrintWords Go.Proofs.YtaaaeonalomcgaaW.PrintLast Go.Proofs.YtaaaeonalomcgaaW.PrintMore Sp

/-- An operation's lists in a world. -/
abbrev LO (w : World) (o : OpV) (A : Option Addr) (c : Nat) (B : Option Addr) (d : Nat) : Prop := Lists w A o.deps.length c o.deps B (dS o.dots).length d (dS o.dots)
theorem get_v (s : ByteArray) (n : Int) (w : World) (hs : s.size ≤ 140737488351232) {o : OpV} {er : Int} (hg : getOp s n = (o, er)) : Calls Try.prog 11 #[.string s, .int .i64 n] w fun e w' => ∃ (A : Option Addr) (c : Nat) (B : Option Addr) (d : Nat),
    e = .returned (.tuple #[.agg #[.int .i64 o.d0, .int .i64 o.d1, .int .i64 o.t, .slice A o.deps.length c, .int .i64 o.k, .string (ba o.ty), .string (ba o.id), .string (ba o.fl), .string (ba o.val), .int .i64 o.n0, .int .i64 o.n1, .int .i64 o.r0, .int .i64 o.r1, .slice B (dS o.dots).length d], .int .i64 er]) ∧ LO w' o A c B d ∧ Below w.heap.size w w' := by
  have h := get_any s n w hs
  rw [hg] at h
  refine h.mono fun e w' ⟨v3, v13, he, h3, h13, hb⟩ => ?_
  obtain ⟨A, c, B, d, rfl, rfl, hL⟩ := lists_of (deps := o.deps) (ds := dS o.dots) (R_ints h3) (R_dots h13)
  exact ⟨A, c, B, d, he, hL, hb⟩
section
variable {w : World} {o : OpV} {A B C D : Option Addr} {c d c' d' : Nat} {n : Int}
theorem putY (hL : LO w o A c B d) (h : o.may n = true) : Calls Try.prog 8 #[.agg #[.int .i64 o.d0, .int .i64 o.d1, .int .i64 o.t, .slice A o.deps.length c, .int .i64 o.k, .string (ba o.ty), .string (ba o.id), .string (ba o.fl), .string (ba o.val), .int .i64 o.n0, .int .i64 o.n1, .int .i64 o.r0, .int .i64 o.r1, .slice B (dS o.dots).length d], .int .i64 n] w fun e w' => e = .returned (.tuple #[.string (ba o.put), .int .i64 0]) ∧ Below w.heap.size w w' :=
  put_yes _ _ _ A c _ _ _ _ _ _ _ _ _ _ B d _ n w hL.2.1.1 hL.2.1.2 hL.2.2.1 hL.2.2.2 h
theorem putN (hL : LO w o A c B d) (h : o.may n = false) : Calls Try.prog 8 #[.agg #[.int .i64 o.d0, .int .i64 o.d1, .int .i64 o.t, .slice A o.deps.length c, .int .i64 o.k, .string (ba o.ty), .string (ba o.id), .string (ba o.fl), .string (ba o.val), .int .i64 o.n0, .int .i64 o.n1, .int .i64 o.r0, .int .i64 o.r1, .slice B (dS o.dots).length d], .int .i64 n] w fun e w' => e = .returned (.tuple #[.string ⟨#[]⟩, .int .i64 1100]) ∧ Below w.heap.size w w' :=
  put_no _ _ _ A c _ _ _ _ _ _ _ _ _ _ B d _ n w hL.2.1.1 hL.2.1.2 hL.2.2.1 hL.2.2.2 h
theorem mayV (hL : LO w o A c B d) {b : Bool} (h : o.may n = b) : Calls Try.prog 10 #[.agg #[.int .i64 o.d0, .int .i64 o.d1, .int .i64 o.t, .slice A o.deps.length c, .int .i64 o.k, .string (ba o.ty), .string (ba o.id), .string (ba o.fl), .string (ba o.val), .int .i64 o.n0, .int .i64 o.n1, .int .i64 o.r0, .int .i64 o.r1, .slice B (dS o.dots).length d], .int .i64 n] w fun e w' => e = .returned (.bool b) ∧ Below w.heap.size w w' :=
  may_at hL h
theorem sameV (hL : LO w o A c B d) (hL' : LO w o C c' D d') : Calls Try.prog 12 #[.agg #[.int .i64 o.d0, .int .i64 o.d1, .int .i64 o.t, .slice A o.deps.length c, .int .i64 o.k, .string (ba o.ty), .string (ba o.id), .string (ba o.fl), .string (ba o.val), .int .i64 o.n0, .int .i64 o.n1, .int .i64 o.r0, .int .i64 o.r1, .slice B (dS o.dots).length d], .agg #[.int .i64 o.d0, .int .i64 o.d1, .int .i64 o.t, .slice C o.deps.length c', .int .i64 o.k, .string (ba o.ty), .string (ba o.id), .string (ba o.fl), .string (ba o.val), .int .i64 o.n0, .int .i64 o.n1, .int .i64 o.r0, .int .i64 o.r1, .slice D (dS o.dots).length d']] w fun e w' => e = .returned (.bool true) ∧ Below w.heap.size w w' :=
  same_any _ _ _ _ _ _ _ _ _ _ _ _ _ _ A B C D c d c' d' w hL.2.1.1 hL.2.1.2 hL.2.2.1 hL.2.2.2 hL'.2.1.1 hL'.2.1.2 hL'.2.2.1 hL'.2.2.2
end
theorem put_len {o : OpV} {n : Int} (h : o.may n = true) : (ba o.put).size ≤ 140737488351232 := by
  have sm := small_of (show mayB _ _ _ _ _ _ _ _ _ _ _ _ _ _ _ = true from h)
  have l0 := pn_len9 o.d0.toNat (by have := sm.d0; omega)
  have l1 := pn_len9 o.d1.toNat (by have := sm.d1; omega)
  have l2 := pns_len [o.t] (fun x hx => by simp at hx; subst hx; exact nok (by have := sm.t.1; omega) (by have := sm.t.2; omega))
  have l3 := pns_len o.deps (fun x hx => nok (sm.deps x hx).1 (by have := (sm.deps x hx).2; omega))
  have l4 := pns_len [o.k] (fun x hx => by simp at hx; subst hx; exact nok (by have := sm.k; omega) (by have := sm.k; omega))
  have hs5 : ∀ s ∈ [ba o.ty, ba o.id, ba o.fl], s.size ≤ 65536 := fun s hs => by
    simp only [List.mem_cons, List.not_mem_nil, or_false] at hs
    rcases hs with rfl | rfl | rfl
    · have := sm.ty; omega
    · have := sm.id; omega
    · have := sm.fl; omega
  have l5 := pts_len _ hs5
  have l6 := pn_len9 (zz o.n0).toNat (by have := sm.n; unfold zz; split <;> omega)
  have l7 := pn_len9 (zz o.n1).toNat (by have := sm.n; unfold zz; split <;> omega)
  have l8 := pn_len9 o.r0.toNat (by have := sm.r; omega)
  have l9 := pn_len9 o.r1.toNat (by have := sm.r; omega)
  have l10 := pn_len9 (dS o.dots).length (by have := sm.sl; omega)
  have l11 := dpns_len (dS o.dots) sm.ds sm.sl
  have l12 := pts_len [ba o.val] (fun s hs => by simp only [List.mem_cons, List.not_mem_nil, or_false] at hs; subst hs; have := sm.val; omega)
  have e12 : (pts [ba o.val]).length = (pt (bs (ba o.val))).length := by simp [pts]
  have hdl := sm.dl
  have e : (ba o.put).size = o.put.length := rfl
  rw [e]
  have hh : (headP o.d0 o.d1 o.t o.deps o.k (ba o.ty) (ba o.id) (ba o.fl)).length ≤ 200000 := by
    unfold headP
    simp only [List.length_append]
    simp only [List.length_cons, List.length_nil] at l2 l4 l5
    omega
  have ho : (ownP o.k (ba o.val) o.n0 o.n1 o.r0 o.r1 (dS o.dots)).length ≤ 200000 := by
    simp only [List.length_cons, List.length_nil] at l12
    unfold ownP
    repeat' split
    all_goals (try simp only [List.length_append])
    all_goals omega
  unfold OpV.put putP
  rw [List.length_append]
  omega
theorem extract_take (l : List UInt8) (k : Nat) : (ba l).extract 0 k = ba (l.take k) := by
  apply ByteArray.ext
  rw [ByteArray.data_extract]
  simp
theorem cut_range (cut : Int) (L : Nat) (h0 : 0 < L) (h1 : L ≤ 140737488351232) : 0 ≤ wrap64 ((IntKind.u64.wrap cut).tmod (L : Int)) ∧ wrap64 ((IntKind.u64.wrap cut).tmod (L : Int)) < (L : Int) := by
  have e2 : (IntKind.u64.wrap cut).tmod (L : Int) = (IntKind.u64.wrap cut) % (L : Int) := by rw [IntKind.wrap_u64]; exact tmod_of_emod _ _
  rw [e2]
  have a1 := Int.emod_nonneg (IntKind.u64.wrap cut) (show (L : Int) ≠ 0 by omega)
  have a2 := Int.emod_lt_of_pos (IntKind.u64.wrap cut) (show (0 : Int) < L by omega)
  rw [w64 (by omega) (by omega)]
  exact ⟨a1, a2⟩
theorem get_z (s : ByteArray) (n : Int) (w : World) (hs : s.size ≤ 140737488351232) (hg : getOp s n = ({}, 1100)) : Calls Try.prog 11 #[.string s, .int .i64 n] w fun e w' => ∃ (A : Option Addr) (c : Nat) (B : Option Addr) (d : Nat),
    e = .returned (.tuple #[.agg #[.int .i64 0, .int .i64 0, .int .i64 0, .slice A 0 c, .int .i64 0, .string ⟨#[]⟩, .string ⟨#[]⟩, .string ⟨#[]⟩, .string ⟨#[]⟩, .int .i64 0, .int .i64 0, .int .i64 0, .int .i64 0, .slice B 0 d], .int .i64 1100]) ∧ Below w.heap.size w w' :=
  (get_v s n w hs hg).mono fun e w' ⟨A, c, B, d, he, hL, hb⟩ => ⟨A, c, B, d, he, hb⟩

set_option maxHeartbeats 8000000 in
set_option maxRecDepth 100000 in
theorem back_false (o : OpV) (A B : Option Addr) (c d : Nat) (s : ByteArray) (n cut : Int) (w : World) (hL : LO w o A c B d) (hs : s.size ≤ 140737488351232) (hmay : o.may n = false) :
    Calls Try.prog 3 #[.agg #[.int .i64 o.d0, .int .i64 o.d1, .int .i64 o.t, .slice A o.deps.length c, .int .i64 o.k, .string (ba o.ty), .string (ba o.id), .string (ba o.fl), .string (ba o.val), .int .i64 o.n0, .int .i64 o.n1, .int .i64 o.r0, .int .i64 o.r1, .slice B (dS o.dots).length d], .string s, .int .i64 n, .int .i64 cut] w fun e w' => e = .returned (.bool true) ∧ Below w.heap.size w w' := by
  have HL := Aside0.mk hL; have HMAY := Aside0.mk hmay; have HS := Aside0.mk hs; clear hL hmay hs
  go_enter Try.func3, Try.ntmps3
  go_wp2_with (first | ((with_reducible refine gate_dst (N := 4) rfl ?_); refine box_event ?hg (N := 4) ?hd (cs := #[.int .i64 o.d0, .int .i64 o.d1, .int .i64 o.t, .slice A o.deps.length c, .int .i64 o.k, .string (ba o.ty), .string (ba o.id), .string (ba o.fl), .string (ba o.val), .int .i64 o.n0, .int .i64 o.n1, .int .i64 o.r0, .int .i64 o.r1, .slice B (dS o.dots).length d]) (t := 29) ?hr ?_; (case hd => rfl); (case hg => rfl); (case hr => first | (go_simp; done) | (go_simp; rfl)); intro q0 hg w1 hbox hb; have HP1 := Aside0.mk hbox; have HL1 := Aside0.mk (HL.out.below hb); have BB1 := Aside0.mk hb; clear hg hbox hb) | fail "arm")
  refine (awake_any _).mono ?_
  rintro e w2 ⟨rfl, hb2⟩
  have HP2 := Aside0.mk (blk_below HP1.out hb2); have HL2 := Aside0.mk (HL1.out.below hb2); have BB2 := Aside0.mk (below_step BB1.out hb2); clear hb2 HP1 HL1 BB1 HL
  go_wp2_with (refine wpList_load_row rfl 29 _ rfl q0 rfl 29 _ (0, 0) _ HP2.out Try.underlying29 rfl (by kernel_rfl) ?_)
  refine (putN HL2.out HMAY.out).mono ?_
  rintro e w3 ⟨rfl, hb3⟩
  have HO0 := Aside0.mk (blk_below HP2.out hb3); have HL0 := Aside0.mk (HL2.out.below hb3); have HB0 := Aside0.mk (below_step BB2.out hb3); clear hb3 HP2 HL2 BB2
  go_upto_region 4 with fail
  refine start_ (n := 16) (S := fun w' => w'.cell? ⟨q0, 0, none⟩ = some (.int .i64 o.d0) ∧ w'.cell? ⟨q0, 1, none⟩ = some (.int .i64 o.d1) ∧ w'.cell? ⟨q0, 2, none⟩ = some (.int .i64 o.t) ∧ w'.cell? ⟨q0, 3, none⟩ = some (.slice A o.deps.length c) ∧ w'.cell? ⟨q0, 4, none⟩ = some (.int .i64 o.k) ∧ w'.cell? ⟨q0, 5, none⟩ = some (.string (ba o.ty)) ∧ w'.cell? ⟨q0, 6, none⟩ = some (.string (ba o.id)) ∧ w'.cell? ⟨q0, 7, none⟩ = some (.string (ba o.fl)) ∧ w'.cell? ⟨q0, 8, none⟩ = some (.string (ba o.val)) ∧ w'.cell? ⟨q0, 9, none⟩ = some (.int .i64 o.n0) ∧ w'.cell? ⟨q0, 10, none⟩ = some (.int .i64 o.n1) ∧ w'.cell? ⟨q0, 11, none⟩ = some (.int .i64 o.r0) ∧ w'.cell? ⟨q0, 12, none⟩ = some (.int .i64 o.r1) ∧ w'.cell? ⟨q0, 13, none⟩ = some (.slice B (dS o.dots).length d)) (ds := []) #[false, false, false, false, false, false, false, false, false, false, false, false, false, false, false, false] (by kernel_rfl) rfl rfl ⟨(blk_cell (blk_drew HO0.out) 0).trans rfl, (blk_cell (blk_drew HO0.out) 1).trans rfl, (blk_cell (blk_drew HO0.out) 2).trans rfl, (blk_cell (blk_drew HO0.out) 3).trans rfl, (blk_cell (blk_drew HO0.out) 4).trans rfl, (blk_cell (blk_drew HO0.out) 5).trans rfl, (blk_cell (blk_drew HO0.out) 6).trans rfl, (blk_cell (blk_drew HO0.out) 7).trans rfl, (blk_cell (blk_drew HO0.out) 8).trans rfl, (blk_cell (blk_drew HO0.out) 9).trans rfl, (blk_cell (blk_drew HO0.out) 10).trans rfl, (blk_cell (blk_drew HO0.out) 11).trans rfl, (blk_cell (blk_drew HO0.out) 12).trans rfl, (blk_cell (blk_drew HO0.out) 13).trans rfl⟩ (fun hHeld => ?_)
  refine pure_ (i := 0) (N := some 27) (v := ?_) (a' := ?_) #[true, false, false, false, false, false, false, false, false, false, false, false, false, false, false, false] rfl rfl (by kernel_rfl) (fun _ _ _ h => h) (Or.inl ⟨by rfl, ?_⟩) ?_ ?_
  rotate_left
  · intro w'
    go_simp
    with_reducible rfl
  rotate_left
  · simp only [Act.put, List.setIfInBounds_toArray, List.set_cons_zero, List.set_cons_succ, i64_w, i32_w]
    rfl
  refine pure_ (i := 4) (N := some 31) (v := ?_) (a' := ?_) #[true, false, false, false, true, false, false, false, false, false, false, false, false, false, false, false] rfl rfl (by kernel_rfl) (fun _ _ _ h => h) (Or.inl ⟨by rfl, ?_⟩) ?_ ?_
  rotate_left
  · intro w'
    go_simp
    with_reducible rfl
  rotate_left
  · simp only [Act.put, List.setIfInBounds_toArray, List.set_cons_zero, List.set_cons_succ, i64_w, i32_w]
    rfl
  refine take_ (i := 3) (N := some 30) (v := ?_) (a' := ?_) #[true, false, false, true, true, false, false, false, false, false, false, false, false, false, false, false] rfl rfl (by kernel_rfl) (fun _ _ _ h => h) (Or.inl ⟨by rfl, ?_⟩) hHeld ?_ ?_
  rotate_left
  · rintro w' ⟨s0, s1, s2, s3, s4, s5, s6, s7, s8, s9, s10, s11, s12, s13⟩
    go_simp
    with_reducible rfl
  rotate_left
  · simp only [Act.put, List.setIfInBounds_toArray, List.set_cons_zero, List.set_cons_succ, i64_w, i32_w]
    rfl
  refine one_ (i := 1) (N := some 28) #[true, true, false, true, true, false, false, false, false, false, false, false, false, false, false, false] rfl rfl (by kernel_rfl) (by decide) (fun K hK => ?_)
  refine goes_ Try.func9 (by kernel_rfl) rfl #[.int .i64 1100] (by rfl) rfl rfl (by simp only [List.map_toArray, List.map_cons, List.map_nil]; rfl) ?_
  with_reducible refine (num_b 1100 _).mono ?_
  rintro e u10 ⟨rfl, hb1⟩
  refine ⟨_, rfl, ?_⟩
  have HO1 := Aside0.mk (blk_below (by exact HO0.out) hb1)
  have HL1 := Aside0.mk (HL0.out.below (by first | exact hb1 | exact ((Below.refl _ _).drew).trans hb1))
  have HB1 := Aside0.mk (below_step (w := w) (by first | exact HB0.out | exact HB0.out.drew) hb1)
  clear hb1
  refine hK.out _ _ ⟨(blk_cell HO1.out 0).trans rfl, (blk_cell HO1.out 1).trans rfl, (blk_cell HO1.out 2).trans rfl, (blk_cell HO1.out 3).trans rfl, (blk_cell HO1.out 4).trans rfl, (blk_cell HO1.out 5).trans rfl, (blk_cell HO1.out 6).trans rfl, (blk_cell HO1.out 7).trans rfl, (blk_cell HO1.out 8).trans rfl, (blk_cell HO1.out 9).trans rfl, (blk_cell HO1.out 10).trans rfl, (blk_cell HO1.out 11).trans rfl, (blk_cell HO1.out 12).trans rfl, (blk_cell HO1.out 13).trans rfl⟩ (fun hHeld => ?_)
  clear hK K
  refine norm_ (a' := ?_) ?_ ?_
  rotate_left
  · show Act.put _ (some 28) _ = _
    simp only [Act.put, List.setIfInBounds_toArray, List.set_cons_zero, List.set_cons_succ, i64_w, i32_w]
    rfl
  refine pure_ (i := 2) (N := some 29) (v := ?_) (a' := ?_) #[true, true, true, true, true, false, false, false, false, false, false, false, false, false, false, false] rfl rfl (by kernel_rfl) (fun _ _ _ h => h) (Or.inl ⟨by rfl, ?_⟩) ?_ ?_
  rotate_left
  · intro w'
    go_simp
    with_reducible rfl
  rotate_left
  · simp only [Act.put, List.setIfInBounds_toArray, List.set_cons_zero, List.set_cons_succ, i64_w, i32_w]
    rfl
  refine one_ (i := 5) (N := some 32) #[true, true, true, true, true, true, false, false, false, false, false, false, false, false, false, false] rfl rfl (by kernel_rfl) (by decide) (fun K hK => ?_)
  refine goes_ Try.func10 (by kernel_rfl) rfl #[.agg #[.int .i64 o.d0, .int .i64 o.d1, .int .i64 o.t, .slice A o.deps.length c, .int .i64 o.k, .string (ba o.ty), .string (ba o.id), .string (ba o.fl), .string (ba o.val), .int .i64 o.n0, .int .i64 o.n1, .int .i64 o.r0, .int .i64 o.r1, .slice B (dS o.dots).length d], .int .i64 n] (by rfl) rfl rfl (by simp only [List.map_toArray, List.map_cons, List.map_nil]; rfl) ?_
  with_reducible refine (mayV HL1.out HMAY.out).mono ?_
  rintro e u20 ⟨rfl, hb2⟩
  refine ⟨_, rfl, ?_⟩
  have HO2 := Aside0.mk (blk_below (by exact HO1.out) hb2)
  have HL2 := Aside0.mk (HL1.out.below (by first | exact hb2 | exact ((Below.refl _ _).drew).trans hb2))
  have HB2 := Aside0.mk (below_step (w := w) (by first | exact HB1.out | exact HB1.out.drew) hb2)
  clear hb2
  refine hK.out _ _ ⟨(blk_cell HO2.out 0).trans rfl, (blk_cell HO2.out 1).trans rfl, (blk_cell HO2.out 2).trans rfl, (blk_cell HO2.out 3).trans rfl, (blk_cell HO2.out 4).trans rfl, (blk_cell HO2.out 5).trans rfl, (blk_cell HO2.out 6).trans rfl, (blk_cell HO2.out 7).trans rfl, (blk_cell HO2.out 8).trans rfl, (blk_cell HO2.out 9).trans rfl, (blk_cell HO2.out 10).trans rfl, (blk_cell HO2.out 11).trans rfl, (blk_cell HO2.out 12).trans rfl, (blk_cell HO2.out 13).trans rfl⟩ (fun hHeld => ?_)
  clear hK K
  refine norm_ (a' := ?_) ?_ ?_
  rotate_left
  · show Act.put _ (some 32) _ = _
    simp only [Act.put, List.setIfInBounds_toArray, List.set_cons_zero, List.set_cons_succ, i64_w, i32_w]
    rfl
  refine pure_ (i := 6) (N := some 33) (v := ?_) (a' := ?_) #[true, true, true, true, true, true, true, false, false, false, false, false, false, false, false, false] rfl rfl (by kernel_rfl) (fun _ _ _ h => h) (Or.inl ⟨by rfl, ?_⟩) ?_ ?_
  rotate_left
  · intro w'
    go_simp
    with_reducible rfl
  rotate_left
  · simp only [Act.put, List.setIfInBounds_toArray, List.set_cons_zero, List.set_cons_succ, i64_w, i32_w]
    rfl
  refine pure_ (i := 7) (N := some 34) (v := ?_) (a' := ?_) #[true, true, true, true, true, true, true, true, false, false, false, false, false, false, false, false] rfl rfl (by kernel_rfl) (fun _ _ _ h => h) (Or.inl ⟨by rfl, ?_⟩) ?_ ?_
  rotate_left
  · intro w'
    go_simp
    with_reducible rfl
  rotate_left
  · simp only [Act.put, List.setIfInBounds_toArray, List.set_cons_zero, List.set_cons_succ, i64_w, i32_w]
    rfl
  refine pure_ (i := 8) (N := some 35) (v := ?_) (a' := ?_) #[true, true, true, true, true, true, true, true, true, false, false, false, false, false, false, false] rfl rfl (by kernel_rfl) (fun _ _ _ h => h) (Or.inl ⟨by rfl, ?_⟩) ?_ ?_
  rotate_left
  · intro w'
    go_simp
    with_reducible rfl
  rotate_left
  · simp only [Act.put, List.setIfInBounds_toArray, List.set_cons_zero, List.set_cons_succ, i64_w, i32_w]
    rfl
  refine one_ (i := 9) (N := some 36) #[true, true, true, true, true, true, true, true, true, true, false, false, false, false, false, false] rfl rfl (by kernel_rfl) (by decide) (fun K hK => ?_)
  refine goes_ Try.func9 (by kernel_rfl) rfl #[.int .i64 1100] (by rfl) rfl rfl (by simp only [List.map_toArray, List.map_cons, List.map_nil]; rfl) ?_
  with_reducible refine (num_b 1100 _).mono ?_
  rintro e u30 ⟨rfl, hb3⟩
  refine ⟨_, rfl, ?_⟩
  have HO3 := Aside0.mk (blk_below (by exact HO2.out) hb3)
  have HL3 := Aside0.mk (HL2.out.below (by first | exact hb3 | exact ((Below.refl _ _).drew).trans hb3))
  have HB3 := Aside0.mk (below_step (w := w) (by first | exact HB2.out | exact HB2.out.drew) hb3)
  clear hb3
  refine hK.out _ _ ⟨(blk_cell HO3.out 0).trans rfl, (blk_cell HO3.out 1).trans rfl, (blk_cell HO3.out 2).trans rfl, (blk_cell HO3.out 3).trans rfl, (blk_cell HO3.out 4).trans rfl, (blk_cell HO3.out 5).trans rfl, (blk_cell HO3.out 6).trans rfl, (blk_cell HO3.out 7).trans rfl, (blk_cell HO3.out 8).trans rfl, (blk_cell HO3.out 9).trans rfl, (blk_cell HO3.out 10).trans rfl, (blk_cell HO3.out 11).trans rfl, (blk_cell HO3.out 12).trans rfl, (blk_cell HO3.out 13).trans rfl⟩ (fun hHeld => ?_)
  clear hK K
  refine norm_ (a' := ?_) ?_ ?_
  rotate_left
  · show Act.put _ (some 36) _ = _
    simp only [Act.put, List.setIfInBounds_toArray, List.set_cons_zero, List.set_cons_succ, i64_w, i32_w]
    rfl
  refine pure_ (i := 10) (N := some 37) (v := ?_) (a' := ?_) #[true, true, true, true, true, true, true, true, true, true, true, false, false, false, false, false] rfl rfl (by kernel_rfl) (fun _ _ _ h => h) (Or.inl ⟨by rfl, ?_⟩) ?_ ?_
  rotate_left
  · intro w'
    go_simp
    with_reducible rfl
  rotate_left
  · simp only [Act.put, List.setIfInBounds_toArray, List.set_cons_zero, List.set_cons_succ, i64_w, i32_w]
    rfl
  refine pure_ (i := 11) (N := some 38) (v := ?_) (a' := ?_) #[true, true, true, true, true, true, true, true, true, true, true, true, false, false, false, false] rfl rfl (by kernel_rfl) (fun _ _ _ h => h) (Or.inl ⟨by rfl, ?_⟩) ?_ ?_
  rotate_left
  · intro w'
    go_simp
    with_reducible rfl
  rotate_left
  · simp only [Act.put, List.setIfInBounds_toArray, List.set_cons_zero, List.set_cons_succ, i64_w, i32_w]
    rfl
  refine pure_ (i := 12) (N := some 39) (v := undef) (a' := ?_) #[true, true, true, true, true, true, true, true, true, true, true, true, true, false, false, false] rfl rfl (by kernel_rfl) (fun _ _ _ h => h) (Or.inr ⟨by rfl, rfl⟩) ?_ ?_
  rotate_left
  · simp only [Act.put, List.setIfInBounds_toArray, List.set_cons_zero, List.set_cons_succ, i64_w, i32_w]
    rfl
  refine pure_ (i := 13) (N := some 40) (v := undef) (a' := ?_) #[true, true, true, true, true, true, true, true, true, true, true, true, true, true, false, false] rfl rfl (by kernel_rfl) (fun _ _ _ h => h) (Or.inr ⟨by rfl, rfl⟩) ?_ ?_
  rotate_left
  · simp only [Act.put, List.setIfInBounds_toArray, List.set_cons_zero, List.set_cons_succ, i64_w, i32_w]
    rfl
  refine pure_ (i := 14) (N := some 41) (v := ?_) (a' := ?_) #[true, true, true, true, true, true, true, true, true, true, true, true, true, true, true, false] rfl rfl (by kernel_rfl) (fun _ _ _ h => h) (Or.inl ⟨by rfl, ?_⟩) ?_ ?_
  rotate_left
  · intro w'
    go_simp
    with_reducible rfl
  rotate_left
  · simp only [Act.put, List.setIfInBounds_toArray, List.set_cons_zero, List.set_cons_succ, i64_w, i32_w]
    rfl
  refine pure_ (i := 15) (N := some 42) (v := ?_) (a' := ?_) #[true, true, true, true, true, true, true, true, true, true, true, true, true, true, true, true] rfl rfl (by kernel_rfl) (fun _ _ _ h => h) (Or.inl ⟨by rfl, ?_⟩) ?_ ?_
  rotate_left
  · intro w'
    go_simp
    with_reducible rfl
  rotate_left
  · simp only [Act.put, List.setIfInBounds_toArray, List.set_cons_zero, List.set_cons_succ, i64_w, i32_w]
    rfl
  refine done_ (by kernel_rfl) ?_
  have HO := HO3; have HL := HL3; have HB := HB3
  clear HO0 HL0 HB0 HO1 HL1 HB1 HO2 HL2 HB2 HO3 HL3 HB3
  go_wp2_with fail
  refine (num_b 1100 _).mono ?_
  rintro e v5 ⟨rfl, hb⟩
  replace HB := Aside0.mk (below_step HB.out hb)
  skip
  clear hb
  go_wp2_with fail
  rcases getOp_code s n with hg | ⟨h0, hm, hp⟩
  · have HG := Aside0.mk hg; clear hg
    refine (get_z s n _ HS.out HG.out).mono ?_
    rintro e x1 ⟨A1, c1, B1, d1, rfl, hb⟩
    replace HB := Aside0.mk (below_step HB.out hb); clear hb
    go_wp2_with (first | (refine wpList_store_row rfl 29 _ _ rfl x1.heap.size _ rfl rfl 29 _ (heap_alloc_new x1 _) (by kernel_rfl) (by rfl) (by simp [Value.oneCell']) ?_; obtain ⟨q1, hoo⟩ : ∃ o, o = x1.heap.size := ⟨_, rfl⟩; have hNx := fun cs => new_row x1 cs; rw [← hoo] at hNx ⊢; generalize hWx : (x1.alloc (Obj.cells #[.int .i64 0, .int .i64 0, .int .i64 0, .slice none 0 0, .int .i64 0, .string ⟨#[]⟩, .string ⟨#[]⟩, .string ⟨#[]⟩, .string ⟨#[]⟩, .int .i64 0, .int .i64 0, .int .i64 0, .int .i64 0, .slice none 0 0] 29)).setRow q1 #[.int .i64 0, .int .i64 0, .int .i64 0, .slice A1 0 c1, .int .i64 0, .string ⟨#[]⟩, .string ⟨#[]⟩, .string ⟨#[]⟩, .string ⟨#[]⟩, .int .i64 0, .int .i64 0, .int .i64 0, .int .i64 0, .slice B1 0 d1] = x2; have hx4 := hNx #[.int .i64 0, .int .i64 0, .int .i64 0, .slice A1 0 c1, .int .i64 0, .string ⟨#[]⟩, .string ⟨#[]⟩, .string ⟨#[]⟩, .string ⟨#[]⟩, .int .i64 0, .int .i64 0, .int .i64 0, .int .i64 0, .slice B1 0 d1]; rw [hWx] at hx4; have hx42 : Below x1.heap.size x1 x2 := (by have := hx4.2; rwa [hoo] at this); have HP := Aside0.mk hx4.1; replace HB := Aside0.mk (below_step HB.out hx42); clear hNx hWx hx4 hx42 hoo) | fail "arm")
    refine (num_b 1100 _).mono ?_
    rintro e x3 ⟨rfl, hb⟩
    replace HB := Aside0.mk (below_step HB.out hb); replace HP := Aside0.mk (blk_below HP.out hb); clear hb
    have hq2 := (blk_cell HP.out 2).trans rfl
    have hq3 := (blk_cell HP.out 3).trans rfl
    go_wp2_with fail
    go_ret
    exact ⟨rfl, HB.out⟩
  · obtain ⟨o2, hg⟩ : ∃ o2, getOp s n = (o2, 0) := ⟨(getOp s n).1, Prod.ext rfl h0⟩
    rw [hg] at hm hp
    have hp2 : ba o2.put = s := by rw [hp]
    have HG := Aside0.mk hg; have HM := Aside0.mk hm; have HP2 := Aside0.mk hp2; clear hg hm hp hp2 h0
    refine (get_v s n _ HS.out HG.out).mono ?_
    rintro e x1 ⟨A1, c1, B1, d1, rfl, hL1, hb⟩
    have HLx := Aside0.mk hL1; replace HB := Aside0.mk (below_step HB.out hb); clear hb hL1
    go_wp2_with (first | (refine wpList_store_row rfl 29 _ _ rfl x1.heap.size _ rfl rfl 29 _ (heap_alloc_new x1 _) (by kernel_rfl) (by rfl) (by simp [Value.oneCell']) ?_; obtain ⟨q1, hoo⟩ : ∃ o, o = x1.heap.size := ⟨_, rfl⟩; have hNx := fun cs => new_row x1 cs; rw [← hoo] at hNx ⊢; generalize hWx : (x1.alloc (Obj.cells #[.int .i64 0, .int .i64 0, .int .i64 0, .slice none 0 0, .int .i64 0, .string ⟨#[]⟩, .string ⟨#[]⟩, .string ⟨#[]⟩, .string ⟨#[]⟩, .int .i64 0, .int .i64 0, .int .i64 0, .int .i64 0, .slice none 0 0] 29)).setRow q1 #[.int .i64 o2.d0, .int .i64 o2.d1, .int .i64 o2.t, .slice A1 o2.deps.length c1, .int .i64 o2.k, .string (ba o2.ty), .string (ba o2.id), .string (ba o2.fl), .string (ba o2.val), .int .i64 o2.n0, .int .i64 o2.n1, .int .i64 o2.r0, .int .i64 o2.r1, .slice B1 (dS o2.dots).length d1] = x2; have hx4 := hNx #[.int .i64 o2.d0, .int .i64 o2.d1, .int .i64 o2.t, .slice A1 o2.deps.length c1, .int .i64 o2.k, .string (ba o2.ty), .string (ba o2.id), .string (ba o2.fl), .string (ba o2.val), .int .i64 o2.n0, .int .i64 o2.n1, .int .i64 o2.r0, .int .i64 o2.r1, .slice B1 (dS o2.dots).length d1]; rw [hWx] at hx4; have hx42 : Below x1.heap.size x1 x2 := (by have := hx4.2; rwa [hoo] at this); have HP := Aside0.mk hx4.1; replace HLx := Aside0.mk (HLx.out.below hx42); replace HB := Aside0.mk (below_step HB.out hx42); clear hNx hWx hx4 hx42 hoo) | fail "arm")
    refine (num_b 0 _).mono ?_
    rintro e x3 ⟨rfl, hb⟩
    replace HB := Aside0.mk (below_step HB.out hb); replace HP := Aside0.mk (blk_below HP.out hb); replace HLx := Aside0.mk (HLx.out.below hb); clear hb
    go_wp2_with (refine wpList_load_row rfl 29 _ rfl q1 rfl 29 _ (0, 0) _ HP.out Try.underlying29 rfl (by kernel_rfl) ?_)
    have hput := putY (n := n) HLx.out HM.out
    rw [HP2.out] at hput
    refine hput.mono ?_
    clear hput
    rintro e x4 ⟨rfl, hb⟩
    replace HB := Aside0.mk (below_step HB.out hb); clear hb
    go_wp2_with fail
    refine (num_b 0 _).mono ?_
    rintro e x5 ⟨rfl, hb⟩
    replace HB := Aside0.mk (below_step HB.out hb); clear hb
    go_wp2_with fail
    go_ret
    exact ⟨by first | rfl | simp, HB.out⟩

set_option maxHeartbeats 8000000 in
set_option maxRecDepth 100000 in
theorem back_true (o : OpV) (A B : Option Addr) (c d : Nat) (s : ByteArray) (n cut : Int) (w : World) (hL : LO w o A c B d) (hs : s.size ≤ 140737488351232) (hmay : o.may n = true) :
    Calls Try.prog 3 #[.agg #[.int .i64 o.d0, .int .i64 o.d1, .int .i64 o.t, .slice A o.deps.length c, .int .i64 o.k, .string (ba o.ty), .string (ba o.id), .string (ba o.fl), .string (ba o.val), .int .i64 o.n0, .int .i64 o.n1, .int .i64 o.r0, .int .i64 o.r1, .slice B (dS o.dots).length d], .string s, .int .i64 n, .int .i64 cut] w fun e w' => e = .returned (.bool true) ∧ Below w.heap.size w w' := by
  have HL := Aside0.mk hL; have HMAY := Aside0.mk hmay; have HS := Aside0.mk hs; clear hL hmay hs
  go_enter Try.func3, Try.ntmps3
  go_wp2_with (first | ((with_reducible refine gate_dst (N := 4) rfl ?_); refine box_event ?hg (N := 4) ?hd (cs := #[.int .i64 o.d0, .int .i64 o.d1, .int .i64 o.t, .slice A o.deps.length c, .int .i64 o.k, .string (ba o.ty), .string (ba o.id), .string (ba o.fl), .string (ba o.val), .int .i64 o.n0, .int .i64 o.n1, .int .i64 o.r0, .int .i64 o.r1, .slice B (dS o.dots).length d]) (t := 29) ?hr ?_; (case hd => rfl); (case hg => rfl); (case hr => first | (go_simp; done) | (go_simp; rfl)); intro q0 hg w1 hbox hb; have HP1 := Aside0.mk hbox; have HL1 := Aside0.mk (HL.out.below hb); have BB1 := Aside0.mk hb; clear hg hbox hb) | fail "arm")
  refine (awake_any _).mono ?_
  rintro e w2 ⟨rfl, hb2⟩
  have HP2 := Aside0.mk (blk_below HP1.out hb2); have HL2 := Aside0.mk (HL1.out.below hb2); have BB2 := Aside0.mk (below_step BB1.out hb2); clear hb2 HP1 HL1 BB1 HL
  go_wp2_with (refine wpList_load_row rfl 29 _ rfl q0 rfl 29 _ (0, 0) _ HP2.out Try.underlying29 rfl (by kernel_rfl) ?_)
  refine (putY HL2.out HMAY.out).mono ?_
  rintro e w3 ⟨rfl, hb3⟩
  have HO0 := Aside0.mk (blk_below HP2.out hb3); have HL0 := Aside0.mk (HL2.out.below hb3); have HB0 := Aside0.mk (below_step BB2.out hb3); clear hb3 HP2 HL2 BB2
  go_upto_region 4 with fail
  refine start_ (n := 16) (S := fun w' => w'.cell? ⟨q0, 0, none⟩ = some (.int .i64 o.d0) ∧ w'.cell? ⟨q0, 1, none⟩ = some (.int .i64 o.d1) ∧ w'.cell? ⟨q0, 2, none⟩ = some (.int .i64 o.t) ∧ w'.cell? ⟨q0, 3, none⟩ = some (.slice A o.deps.length c) ∧ w'.cell? ⟨q0, 4, none⟩ = some (.int .i64 o.k) ∧ w'.cell? ⟨q0, 5, none⟩ = some (.string (ba o.ty)) ∧ w'.cell? ⟨q0, 6, none⟩ = some (.string (ba o.id)) ∧ w'.cell? ⟨q0, 7, none⟩ = some (.string (ba o.fl)) ∧ w'.cell? ⟨q0, 8, none⟩ = some (.string (ba o.val)) ∧ w'.cell? ⟨q0, 9, none⟩ = some (.int .i64 o.n0) ∧ w'.cell? ⟨q0, 10, none⟩ = some (.int .i64 o.n1) ∧ w'.cell? ⟨q0, 11, none⟩ = some (.int .i64 o.r0) ∧ w'.cell? ⟨q0, 12, none⟩ = some (.int .i64 o.r1) ∧ w'.cell? ⟨q0, 13, none⟩ = some (.slice B (dS o.dots).length d)) (ds := []) #[false, false, false, false, false, false, false, false, false, false, false, false, false, false, false, false] (by kernel_rfl) rfl rfl ⟨(blk_cell (blk_drew HO0.out) 0).trans rfl, (blk_cell (blk_drew HO0.out) 1).trans rfl, (blk_cell (blk_drew HO0.out) 2).trans rfl, (blk_cell (blk_drew HO0.out) 3).trans rfl, (blk_cell (blk_drew HO0.out) 4).trans rfl, (blk_cell (blk_drew HO0.out) 5).trans rfl, (blk_cell (blk_drew HO0.out) 6).trans rfl, (blk_cell (blk_drew HO0.out) 7).trans rfl, (blk_cell (blk_drew HO0.out) 8).trans rfl, (blk_cell (blk_drew HO0.out) 9).trans rfl, (blk_cell (blk_drew HO0.out) 10).trans rfl, (blk_cell (blk_drew HO0.out) 11).trans rfl, (blk_cell (blk_drew HO0.out) 12).trans rfl, (blk_cell (blk_drew HO0.out) 13).trans rfl⟩ (fun hHeld => ?_)
  refine pure_ (i := 0) (N := some 27) (v := ?_) (a' := ?_) #[true, false, false, false, false, false, false, false, false, false, false, false, false, false, false, false] rfl rfl (by kernel_rfl) (fun _ _ _ h => h) (Or.inl ⟨by rfl, ?_⟩) ?_ ?_
  rotate_left
  · intro w'
    go_simp
    with_reducible rfl
  rotate_left
  · simp only [Act.put, List.setIfInBounds_toArray, List.set_cons_zero, List.set_cons_succ, i64_w, i32_w]
    rfl
  refine pure_ (i := 4) (N := some 31) (v := ?_) (a' := ?_) #[true, false, false, false, true, false, false, false, false, false, false, false, false, false, false, false] rfl rfl (by kernel_rfl) (fun _ _ _ h => h) (Or.inl ⟨by rfl, ?_⟩) ?_ ?_
  rotate_left
  · intro w'
    go_simp
    with_reducible rfl
  rotate_left
  · simp only [Act.put, List.setIfInBounds_toArray, List.set_cons_zero, List.set_cons_succ, i64_w, i32_w]
    rfl
  refine take_ (i := 3) (N := some 30) (v := ?_) (a' := ?_) #[true, false, false, true, true, false, false, false, false, false, false, false, false, false, false, false] rfl rfl (by kernel_rfl) (fun _ _ _ h => h) (Or.inl ⟨by rfl, ?_⟩) hHeld ?_ ?_
  rotate_left
  · rintro w' ⟨s0, s1, s2, s3, s4, s5, s6, s7, s8, s9, s10, s11, s12, s13⟩
    go_simp
    with_reducible rfl
  rotate_left
  · simp only [Act.put, List.setIfInBounds_toArray, List.set_cons_zero, List.set_cons_succ, i64_w, i32_w]
    rfl
  refine one_ (i := 1) (N := some 28) #[true, true, false, true, true, false, false, false, false, false, false, false, false, false, false, false] rfl rfl (by kernel_rfl) (by decide) (fun K hK => ?_)
  refine goes_ Try.func9 (by kernel_rfl) rfl #[.int .i64 0] (by rfl) rfl rfl (by simp only [List.map_toArray, List.map_cons, List.map_nil]; rfl) ?_
  with_reducible refine (num_b 0 _).mono ?_
  rintro e u10 ⟨rfl, hb1⟩
  refine ⟨_, rfl, ?_⟩
  have HO1 := Aside0.mk (blk_below (by exact HO0.out) hb1)
  have HL1 := Aside0.mk (HL0.out.below (by first | exact hb1 | exact ((Below.refl _ _).drew).trans hb1))
  have HB1 := Aside0.mk (below_step (w := w) (by first | exact HB0.out | exact HB0.out.drew) hb1)
  clear hb1
  refine hK.out _ _ ⟨(blk_cell HO1.out 0).trans rfl, (blk_cell HO1.out 1).trans rfl, (blk_cell HO1.out 2).trans rfl, (blk_cell HO1.out 3).trans rfl, (blk_cell HO1.out 4).trans rfl, (blk_cell HO1.out 5).trans rfl, (blk_cell HO1.out 6).trans rfl, (blk_cell HO1.out 7).trans rfl, (blk_cell HO1.out 8).trans rfl, (blk_cell HO1.out 9).trans rfl, (blk_cell HO1.out 10).trans rfl, (blk_cell HO1.out 11).trans rfl, (blk_cell HO1.out 12).trans rfl, (blk_cell HO1.out 13).trans rfl⟩ (fun hHeld => ?_)
  clear hK K
  refine norm_ (a' := ?_) ?_ ?_
  rotate_left
  · show Act.put _ (some 28) _ = _
    simp only [Act.put, List.setIfInBounds_toArray, List.set_cons_zero, List.set_cons_succ, i64_w, i32_w]
    rfl
  refine pure_ (i := 2) (N := some 29) (v := ?_) (a' := ?_) #[true, true, true, true, true, false, false, false, false, false, false, false, false, false, false, false] rfl rfl (by kernel_rfl) (fun _ _ _ h => h) (Or.inl ⟨by rfl, ?_⟩) ?_ ?_
  rotate_left
  · intro w'
    go_simp
    with_reducible rfl
  rotate_left
  · simp only [Act.put, List.setIfInBounds_toArray, List.set_cons_zero, List.set_cons_succ, i64_w, i32_w]
    rfl
  refine one_ (i := 5) (N := some 32) #[true, true, true, true, true, true, false, false, false, false, false, false, false, false, false, false] rfl rfl (by kernel_rfl) (by decide) (fun K hK => ?_)
  refine goes_ Try.func10 (by kernel_rfl) rfl #[.agg #[.int .i64 o.d0, .int .i64 o.d1, .int .i64 o.t, .slice A o.deps.length c, .int .i64 o.k, .string (ba o.ty), .string (ba o.id), .string (ba o.fl), .string (ba o.val), .int .i64 o.n0, .int .i64 o.n1, .int .i64 o.r0, .int .i64 o.r1, .slice B (dS o.dots).length d], .int .i64 n] (by rfl) rfl rfl (by simp only [List.map_toArray, List.map_cons, List.map_nil]; rfl) ?_
  with_reducible refine (mayV HL1.out HMAY.out).mono ?_
  rintro e u20 ⟨rfl, hb2⟩
  refine ⟨_, rfl, ?_⟩
  have HO2 := Aside0.mk (blk_below (by exact HO1.out) hb2)
  have HL2 := Aside0.mk (HL1.out.below (by first | exact hb2 | exact ((Below.refl _ _).drew).trans hb2))
  have HB2 := Aside0.mk (below_step (w := w) (by first | exact HB1.out | exact HB1.out.drew) hb2)
  clear hb2
  refine hK.out _ _ ⟨(blk_cell HO2.out 0).trans rfl, (blk_cell HO2.out 1).trans rfl, (blk_cell HO2.out 2).trans rfl, (blk_cell HO2.out 3).trans rfl, (blk_cell HO2.out 4).trans rfl, (blk_cell HO2.out 5).trans rfl, (blk_cell HO2.out 6).trans rfl, (blk_cell HO2.out 7).trans rfl, (blk_cell HO2.out 8).trans rfl, (blk_cell HO2.out 9).trans rfl, (blk_cell HO2.out 10).trans rfl, (blk_cell HO2.out 11).trans rfl, (blk_cell HO2.out 12).trans rfl, (blk_cell HO2.out 13).trans rfl⟩ (fun hHeld => ?_)
  clear hK K
  refine norm_ (a' := ?_) ?_ ?_
  rotate_left
  · show Act.put _ (some 32) _ = _
    simp only [Act.put, List.setIfInBounds_toArray, List.set_cons_zero, List.set_cons_succ, i64_w, i32_w]
    rfl
  refine pure_ (i := 6) (N := some 33) (v := ?_) (a' := ?_) #[true, true, true, true, true, true, true, false, false, false, false, false, false, false, false, false] rfl rfl (by kernel_rfl) (fun _ _ _ h => h) (Or.inl ⟨by rfl, ?_⟩) ?_ ?_
  rotate_left
  · intro w'
    go_simp
    with_reducible rfl
  rotate_left
  · simp only [Act.put, List.setIfInBounds_toArray, List.set_cons_zero, List.set_cons_succ, i64_w, i32_w]
    rfl
  refine pure_ (i := 7) (N := some 34) (v := ?_) (a' := ?_) #[true, true, true, true, true, true, true, true, false, false, false, false, false, false, false, false] rfl rfl (by kernel_rfl) (fun _ _ _ h => h) (Or.inl ⟨by rfl, ?_⟩) ?_ ?_
  rotate_left
  · intro w'
    go_simp
    with_reducible rfl
  rotate_left
  · simp only [Act.put, List.setIfInBounds_toArray, List.set_cons_zero, List.set_cons_succ, i64_w, i32_w]
    rfl
  refine pure_ (i := 8) (N := some 35) (v := ?_) (a' := ?_) #[true, true, true, true, true, true, true, true, true, false, false, false, false, false, false, false] rfl rfl (by kernel_rfl) (fun _ _ _ h => h) (Or.inl ⟨by rfl, ?_⟩) ?_ ?_
  rotate_left
  · intro w'
    go_simp
    with_reducible rfl
  rotate_left
  · simp only [Act.put, List.setIfInBounds_toArray, List.set_cons_zero, List.set_cons_succ, i64_w, i32_w]
    rfl
  refine one_ (i := 9) (N := some 36) #[true, true, true, true, true, true, true, true, true, true, false, false, false, false, false, false] rfl rfl (by kernel_rfl) (by decide) (fun K hK => ?_)
  refine goes_ Try.func9 (by kernel_rfl) rfl #[.int .i64 0] (by rfl) rfl rfl (by simp only [List.map_toArray, List.map_cons, List.map_nil]; rfl) ?_
  with_reducible refine (num_b 0 _).mono ?_
  rintro e u30 ⟨rfl, hb3⟩
  refine ⟨_, rfl, ?_⟩
  have HO3 := Aside0.mk (blk_below (by exact HO2.out) hb3)
  have HL3 := Aside0.mk (HL2.out.below (by first | exact hb3 | exact ((Below.refl _ _).drew).trans hb3))
  have HB3 := Aside0.mk (below_step (w := w) (by first | exact HB2.out | exact HB2.out.drew) hb3)
  clear hb3
  refine hK.out _ _ ⟨(blk_cell HO3.out 0).trans rfl, (blk_cell HO3.out 1).trans rfl, (blk_cell HO3.out 2).trans rfl, (blk_cell HO3.out 3).trans rfl, (blk_cell HO3.out 4).trans rfl, (blk_cell HO3.out 5).trans rfl, (blk_cell HO3.out 6).trans rfl, (blk_cell HO3.out 7).trans rfl, (blk_cell HO3.out 8).trans rfl, (blk_cell HO3.out 9).trans rfl, (blk_cell HO3.out 10).trans rfl, (blk_cell HO3.out 11).trans rfl, (blk_cell HO3.out 12).trans rfl, (blk_cell HO3.out 13).trans rfl⟩ (fun hHeld => ?_)
  clear hK K
  refine norm_ (a' := ?_) ?_ ?_
  rotate_left
  · show Act.put _ (some 36) _ = _
    simp only [Act.put, List.setIfInBounds_toArray, List.set_cons_zero, List.set_cons_succ, i64_w, i32_w]
    rfl
  refine pure_ (i := 10) (N := some 37) (v := ?_) (a' := ?_) #[true, true, true, true, true, true, true, true, true, true, true, false, false, false, false, false] rfl rfl (by kernel_rfl) (fun _ _ _ h => h) (Or.inl ⟨by rfl, ?_⟩) ?_ ?_
  rotate_left
  · intro w'
    go_simp
    with_reducible rfl
  rotate_left
  · simp only [Act.put, List.setIfInBounds_toArray, List.set_cons_zero, List.set_cons_succ, i64_w, i32_w]
    rfl
  refine pure_ (i := 11) (N := some 38) (v := ?_) (a' := ?_) #[true, true, true, true, true, true, true, true, true, true, true, true, false, false, false, false] rfl rfl (by kernel_rfl) (fun _ _ _ h => h) (Or.inl ⟨by rfl, ?_⟩) ?_ ?_
  rotate_left
  · intro w'
    go_simp
    with_reducible rfl
  rotate_left
  · simp only [Act.put, List.setIfInBounds_toArray, List.set_cons_zero, List.set_cons_succ, i64_w, i32_w]
    rfl
  refine pure_ (i := 12) (N := some 39) (v := ?_) (a' := ?_) #[true, true, true, true, true, true, true, true, true, true, true, true, true, false, false, false] rfl rfl (by kernel_rfl) (fun _ _ _ h => h) (Or.inl ⟨by rfl, ?_⟩) ?_ ?_
  rotate_left
  · intro w'
    go_simp
    with_reducible rfl
  rotate_left
  · simp only [Act.put, List.setIfInBounds_toArray, List.set_cons_zero, List.set_cons_succ, i64_w, i32_w]
    rfl
  refine pure_ (i := 13) (N := some 40) (v := ?_) (a' := ?_) #[true, true, true, true, true, true, true, true, true, true, true, true, true, true, false, false] rfl rfl (by kernel_rfl) (fun _ _ _ h => h) (Or.inl ⟨by rfl, ?_⟩) ?_ ?_
  rotate_left
  · intro w'
    go_simp
    with_reducible rfl
  rotate_left
  · simp only [Act.put, List.setIfInBounds_toArray, List.set_cons_zero, List.set_cons_succ, i64_w, i32_w]
    rfl
  refine pure_ (i := 14) (N := some 41) (v := ?_) (a' := ?_) #[true, true, true, true, true, true, true, true, true, true, true, true, true, true, true, false] rfl rfl (by kernel_rfl) (fun _ _ _ h => h) (Or.inl ⟨by rfl, ?_⟩) ?_ ?_
  rotate_left
  · intro w'
    go_simp
    with_reducible rfl
  rotate_left
  · simp only [Act.put, List.setIfInBounds_toArray, List.set_cons_zero, List.set_cons_succ, i64_w, i32_w]
    rfl
  refine pure_ (i := 15) (N := some 42) (v := ?_) (a' := ?_) #[true, true, true, true, true, true, true, true, true, true, true, true, true, true, true, true] rfl rfl (by kernel_rfl) (fun _ _ _ h => h) (Or.inl ⟨by rfl, ?_⟩) ?_ ?_
  rotate_left
  · intro w'
    go_simp
    with_reducible rfl
  rotate_left
  · simp only [Act.put, List.setIfInBounds_toArray, List.set_cons_zero, List.set_cons_succ, i64_w, i32_w]
    rfl
  refine done_ (by kernel_rfl) ?_
  have HO := HO3; have HL := HL3; have HB := HB3
  clear HO0 HL0 HB0 HO1 HL1 HB1 HO2 HL2 HB2 HO3 HL3 HB3
  have hne : o.put.isEmpty = false := by have := put_pos o; cases hpu : o.put with | nil => rw [hpu] at this; simp at this | cons a l => rfl
  go_wp2_with fail
  · exfalso; rename_i h; rw [hne] at h; cases h
  refine (num_b 0 _).mono ?_
  rintro e v5 ⟨rfl, hb⟩
  replace HB := Aside0.mk (below_step HB.out hb)
  replace HO := Aside0.mk (blk_below HO.out hb); replace HL := Aside0.mk (HL.out.below hb)
  clear hb
  go_wp2_with fail
  have HNE := Aside0.mk hne; clear hne
  refine (get_v (ba o.put) n _ (put_len HMAY.out) (getOp_put HMAY.out)).mono ?_
  rintro e y1 ⟨C, c', D, d', rfl, hLc, hb⟩
  have HLc := Aside0.mk hLc; replace HB := Aside0.mk (below_step HB.out hb); replace HO := Aside0.mk (blk_below HO.out hb); replace HL := Aside0.mk (HL.out.below hb); clear hb hLc
  go_upto_region 8 with (first | (refine wpList_store_row rfl 29 _ _ rfl y1.heap.size _ rfl rfl 29 _ (heap_alloc_new y1 _) (by kernel_rfl) (by rfl) (by simp [Value.oneCell']) ?_; obtain ⟨q2, hoo⟩ : ∃ o, o = y1.heap.size := ⟨_, rfl⟩; have hNx := fun cs => new_row y1 cs; rw [← hoo] at hNx ⊢; generalize hWx : (y1.alloc (Obj.cells #[.int .i64 0, .int .i64 0, .int .i64 0, .slice none 0 0, .int .i64 0, .string ⟨#[]⟩, .string ⟨#[]⟩, .string ⟨#[]⟩, .string ⟨#[]⟩, .int .i64 0, .int .i64 0, .int .i64 0, .int .i64 0, .slice none 0 0] 29)).setRow q2 #[.int .i64 o.d0, .int .i64 o.d1, .int .i64 o.t, .slice C o.deps.length c', .int .i64 o.k, .string (ba o.ty), .string (ba o.id), .string (ba o.fl), .string (ba o.val), .int .i64 o.n0, .int .i64 o.n1, .int .i64 o.r0, .int .i64 o.r1, .slice D (dS o.dots).length d'] = y2; have hx4 := hNx #[.int .i64 o.d0, .int .i64 o.d1, .int .i64 o.t, .slice C o.deps.length c', .int .i64 o.k, .string (ba o.ty), .string (ba o.id), .string (ba o.fl), .string (ba o.val), .int .i64 o.n0, .int .i64 o.n1, .int .i64 o.r0, .int .i64 o.r1, .slice D (dS o.dots).length d']; rw [hWx] at hx4; have hx42 : Below y1.heap.size y1 y2 := (by have := hx4.2; rwa [hoo] at this); have HPc := Aside0.mk hx4.1; replace HLc := Aside0.mk (HLc.out.below hx42); replace HO := Aside0.mk (blk_below HO.out hx42); replace HL := Aside0.mk (HL.out.below hx42); replace HB := Aside0.mk (below_step HB.out hx42); clear hNx hWx hx4 hx42 hoo) | fail "arm")
  have hpl : o.put.length ≤ 140737488351232 := put_len HMAY.out
  have hpp : 0 < o.put.length := put_pos o
  obtain ⟨hX0, hX1⟩ := cut_range cut o.put.length hpp hpl
  have hkx : (wrap64 ((IntKind.u64.wrap cut).tmod (o.put.length : Int))).toNat < o.put.length := by omega
  have hsz : (ba (o.put.take (wrap64 ((IntKind.u64.wrap cut).tmod (o.put.length : Int))).toNat)).size ≤ 140737488351232 := by
    show (o.put.take (wrap64 ((IntKind.u64.wrap cut).tmod (o.put.length : Int))).toNat).length ≤ _
    rw [List.length_take]; omega
  have HKX := Aside0.mk hkx; have HSZ := Aside0.mk hsz; clear hkx hsz
  go_wp2_with fail
  rw [extract_take]
  refine (get_z _ n _ HSZ.out (getOp_cut HMAY.out HKX.out)).mono ?_
  rintro e y3 ⟨A1, c1, B1, d1, rfl, hb⟩
  replace HO := Aside0.mk (blk_below HO.out hb); replace HL := Aside0.mk (HL.out.below hb); replace HPc := Aside0.mk (blk_below HPc.out hb); replace HLc := Aside0.mk (HLc.out.below hb); replace HB := Aside0.mk (below_step HB.out hb); clear hb hX0 hX1 HSZ HKX hpl hpp
  go_wp2_with (first | (refine wpList_store_row rfl 29 _ _ rfl y3.heap.size _ rfl rfl 29 _ (heap_alloc_new y3 _) (by kernel_rfl) (by rfl) (by simp [Value.oneCell']) ?_; obtain ⟨q3, hoo⟩ : ∃ o, o = y3.heap.size := ⟨_, rfl⟩; have hNx := fun cs => new_row y3 cs; rw [← hoo] at hNx ⊢; generalize hWx : (y3.alloc (Obj.cells #[.int .i64 0, .int .i64 0, .int .i64 0, .slice none 0 0, .int .i64 0, .string ⟨#[]⟩, .string ⟨#[]⟩, .string ⟨#[]⟩, .string ⟨#[]⟩, .int .i64 0, .int .i64 0, .int .i64 0, .int .i64 0, .slice none 0 0] 29)).setRow q3 #[.int .i64 0, .int .i64 0, .int .i64 0, .slice A1 0 c1, .int .i64 0, .string ⟨#[]⟩, .string ⟨#[]⟩, .string ⟨#[]⟩, .string ⟨#[]⟩, .int .i64 0, .int .i64 0, .int .i64 0, .int .i64 0, .slice B1 0 d1] = y4; have hx4 := hNx #[.int .i64 0, .int .i64 0, .int .i64 0, .slice A1 0 c1, .int .i64 0, .string ⟨#[]⟩, .string ⟨#[]⟩, .string ⟨#[]⟩, .string ⟨#[]⟩, .int .i64 0, .int .i64 0, .int .i64 0, .int .i64 0, .slice B1 0 d1]; rw [hWx] at hx4; have hx42 : Below y3.heap.size y3 y4 := (by have := hx4.2; rwa [hoo] at this); replace HO := Aside0.mk (blk_below HO.out hx42); replace HL := Aside0.mk (HL.out.below hx42); replace HPc := Aside0.mk (blk_below HPc.out hx42); replace HLc := Aside0.mk (HLc.out.below hx42); replace HB := Aside0.mk (below_step HB.out hx42); clear hNx hWx hx4 hx42 hoo) | fail "arm")
  refine (num_b 0 _).mono ?_
  rintro e y5 ⟨rfl, hb⟩
  replace HO := Aside0.mk (blk_below HO.out hb); replace HL := Aside0.mk (HL.out.below hb); replace HPc := Aside0.mk (blk_below HPc.out hb); replace HLc := Aside0.mk (HLc.out.below hb); replace HB := Aside0.mk (below_step HB.out hb); clear hb
  have hq0 := (blk_cell HO.out 0).trans rfl
  have hq1 := (blk_cell HO.out 1).trans rfl
  have hq2 := (blk_cell HO.out 2).trans rfl
  have hq3 := (blk_cell HO.out 3).trans rfl
  have hq4 := (blk_cell HO.out 4).trans rfl
  have hq5 := (blk_cell HO.out 5).trans rfl
  have hq6 := (blk_cell HO.out 6).trans rfl
  have hq7 := (blk_cell HO.out 7).trans rfl
  have hq8 := (blk_cell HO.out 8).trans rfl
  have hq9 := (blk_cell HO.out 9).trans rfl
  have hq10 := (blk_cell HO.out 10).trans rfl
  have hq11 := (blk_cell HO.out 11).trans rfl
  have hq12 := (blk_cell HO.out 12).trans rfl
  have hq13 := (blk_cell HO.out 13).trans rfl
  have hp0 := (blk_cell HPc.out 0).trans rfl
  have hp1 := (blk_cell HPc.out 1).trans rfl
  have hp2 := (blk_cell HPc.out 2).trans rfl
  have hp3 := (blk_cell HPc.out 3).trans rfl
  have hp4 := (blk_cell HPc.out 4).trans rfl
  have hp5 := (blk_cell HPc.out 5).trans rfl
  have hp6 := (blk_cell HPc.out 6).trans rfl
  have hp7 := (blk_cell HPc.out 7).trans rfl
  have hp8 := (blk_cell HPc.out 8).trans rfl
  have hp9 := (blk_cell HPc.out 9).trans rfl
  have hp10 := (blk_cell HPc.out 10).trans rfl
  have hp11 := (blk_cell HPc.out 11).trans rfl
  have hp12 := (blk_cell HPc.out 12).trans rfl
  have hp13 := (blk_cell HPc.out 13).trans rfl
  go_wp2_with fail
  clear hq0 hq1 hq2 hq3 hq4 hq5 hq6 hq7 hq8 hq9 hq10 hq11 hq12 hq13
  clear hp0 hp1 hp2 hp3 hp4 hp5 hp6 hp7 hp8 hp9 hp10 hp11 hp12 hp13
  refine (sameV HLc.out HL.out).mono ?_
  rintro e y6 ⟨rfl, hb⟩
  replace HB := Aside0.mk (below_step HB.out hb); clear hb HO HL HPc HLc
  go_wp2_with fail
  refine (num_b 1100 _).mono ?_
  rintro e y7 ⟨rfl, hb⟩
  replace HB := Aside0.mk (below_step HB.out hb); clear hb
  go_wp2_with fail
  rcases getOp_code s n with hg | ⟨h0, hm, hp⟩
  · have HG := Aside0.mk hg; clear hg
    refine (get_z s n _ HS.out HG.out).mono ?_
    rintro e x1 ⟨A1, c1, B1, d1, rfl, hb⟩
    replace HB := Aside0.mk (below_step HB.out hb); clear hb
    go_wp2_with (first | (refine wpList_store_row rfl 29 _ _ rfl x1.heap.size _ rfl rfl 29 _ (heap_alloc_new x1 _) (by kernel_rfl) (by rfl) (by simp [Value.oneCell']) ?_; obtain ⟨q1, hoo⟩ : ∃ o, o = x1.heap.size := ⟨_, rfl⟩; have hNx := fun cs => new_row x1 cs; rw [← hoo] at hNx ⊢; generalize hWx : (x1.alloc (Obj.cells #[.int .i64 0, .int .i64 0, .int .i64 0, .slice none 0 0, .int .i64 0, .string ⟨#[]⟩, .string ⟨#[]⟩, .string ⟨#[]⟩, .string ⟨#[]⟩, .int .i64 0, .int .i64 0, .int .i64 0, .int .i64 0, .slice none 0 0] 29)).setRow q1 #[.int .i64 0, .int .i64 0, .int .i64 0, .slice A1 0 c1, .int .i64 0, .string ⟨#[]⟩, .string ⟨#[]⟩, .string ⟨#[]⟩, .string ⟨#[]⟩, .int .i64 0, .int .i64 0, .int .i64 0, .int .i64 0, .slice B1 0 d1] = x2; have hx4 := hNx #[.int .i64 0, .int .i64 0, .int .i64 0, .slice A1 0 c1, .int .i64 0, .string ⟨#[]⟩, .string ⟨#[]⟩, .string ⟨#[]⟩, .string ⟨#[]⟩, .int .i64 0, .int .i64 0, .int .i64 0, .int .i64 0, .slice B1 0 d1]; rw [hWx] at hx4; have hx42 : Below x1.heap.size x1 x2 := (by have := hx4.2; rwa [hoo] at this); have HP := Aside0.mk hx4.1; replace HB := Aside0.mk (below_step HB.out hx42); clear hNx hWx hx4 hx42 hoo) | fail "arm")
    refine (num_b 1100 _).mono ?_
    rintro e x3 ⟨rfl, hb⟩
    replace HB := Aside0.mk (below_step HB.out hb); replace HP := Aside0.mk (blk_below HP.out hb); clear hb
    have hq2 := (blk_cell HP.out 2).trans rfl
    have hq3 := (blk_cell HP.out 3).trans rfl
    go_wp2_with fail
    go_ret
    exact ⟨rfl, HB.out⟩
  · obtain ⟨o2, hg⟩ : ∃ o2, getOp s n = (o2, 0) := ⟨(getOp s n).1, Prod.ext rfl h0⟩
    rw [hg] at hm hp
    have hp2 : ba o2.put = s := by rw [hp]
    have HG := Aside0.mk hg; have HM := Aside0.mk hm; have HP2 := Aside0.mk hp2; clear hg hm hp hp2 h0
    refine (get_v s n _ HS.out HG.out).mono ?_
    rintro e x1 ⟨A1, c1, B1, d1, rfl, hL1, hb⟩
    have HLx := Aside0.mk hL1; replace HB := Aside0.mk (below_step HB.out hb); clear hb hL1
    go_wp2_with (first | (refine wpList_store_row rfl 29 _ _ rfl x1.heap.size _ rfl rfl 29 _ (heap_alloc_new x1 _) (by kernel_rfl) (by rfl) (by simp [Value.oneCell']) ?_; obtain ⟨q1, hoo⟩ : ∃ o, o = x1.heap.size := ⟨_, rfl⟩; have hNx := fun cs => new_row x1 cs; rw [← hoo] at hNx ⊢; generalize hWx : (x1.alloc (Obj.cells #[.int .i64 0, .int .i64 0, .int .i64 0, .slice none 0 0, .int .i64 0, .string ⟨#[]⟩, .string ⟨#[]⟩, .string ⟨#[]⟩, .string ⟨#[]⟩, .int .i64 0, .int .i64 0, .int .i64 0, .int .i64 0, .slice none 0 0] 29)).setRow q1 #[.int .i64 o2.d0, .int .i64 o2.d1, .int .i64 o2.t, .slice A1 o2.deps.length c1, .int .i64 o2.k, .string (ba o2.ty), .string (ba o2.id), .string (ba o2.fl), .string (ba o2.val), .int .i64 o2.n0, .int .i64 o2.n1, .int .i64 o2.r0, .int .i64 o2.r1, .slice B1 (dS o2.dots).length d1] = x2; have hx4 := hNx #[.int .i64 o2.d0, .int .i64 o2.d1, .int .i64 o2.t, .slice A1 o2.deps.length c1, .int .i64 o2.k, .string (ba o2.ty), .string (ba o2.id), .string (ba o2.fl), .string (ba o2.val), .int .i64 o2.n0, .int .i64 o2.n1, .int .i64 o2.r0, .int .i64 o2.r1, .slice B1 (dS o2.dots).length d1]; rw [hWx] at hx4; have hx42 : Below x1.heap.size x1 x2 := (by have := hx4.2; rwa [hoo] at this); have HP := Aside0.mk hx4.1; replace HLx := Aside0.mk (HLx.out.below hx42); replace HB := Aside0.mk (below_step HB.out hx42); clear hNx hWx hx4 hx42 hoo) | fail "arm")
    refine (num_b 0 _).mono ?_
    rintro e x3 ⟨rfl, hb⟩
    replace HB := Aside0.mk (below_step HB.out hb); replace HP := Aside0.mk (blk_below HP.out hb); replace HLx := Aside0.mk (HLx.out.below hb); clear hb
    go_wp2_with (refine wpList_load_row rfl 29 _ rfl q1 rfl 29 _ (0, 0) _ HP.out Try.underlying29 rfl (by kernel_rfl) ?_)
    have hput := putY (n := n) HLx.out HM.out
    rw [HP2.out] at hput
    refine hput.mono ?_
    clear hput
    rintro e x4 ⟨rfl, hb⟩
    replace HB := Aside0.mk (below_step HB.out hb); clear hb
    go_wp2_with fail
    refine (num_b 0 _).mono ?_
    rintro e x5 ⟨rfl, hb⟩
    replace HB := Aside0.mk (below_step HB.out hb); clear hb
    go_wp2_with fail
    go_ret
    exact ⟨by first | rfl | simp, HB.out⟩
theorem back_any (o : OpV) (A B : Option Addr) (c d : Nat) (s : ByteArray) (n cut : Int) (w : World) (hL : LO w o A c B d) (hs : s.size ≤ 140737488351232) :
    Calls Try.prog 3 #[.agg #[.int .i64 o.d0, .int .i64 o.d1, .int .i64 o.t, .slice A o.deps.length c, .int .i64 o.k, .string (ba o.ty), .string (ba o.id), .string (ba o.fl), .string (ba o.val), .int .i64 o.n0, .int .i64 o.n1, .int .i64 o.r0, .int .i64 o.r1, .slice B (dS o.dots).length d], .string s, .int .i64 n, .int .i64 cut] w fun e w' => e = .returned (.bool true) ∧ Below w.heap.size w w' := by
  cases h : o.may n with
  | false => exact back_false o A B c d s n cut w hL hs h
  | true => exact back_true o A B c d s n cut w hL hs h
end Go.Proofs.Ytaaaeonalomcgaa.Q
