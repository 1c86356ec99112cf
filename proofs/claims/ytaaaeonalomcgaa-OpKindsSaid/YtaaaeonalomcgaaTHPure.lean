/- What is written is read again, and what is read was written (plain law on operations and bytes). Condition: the operation may be. -/
import Derived.Test.YtaaaeonalomcgaaTHPut2
set_option linter.unusedVariables false
set_option linter.unusedSimpArgs false
namespace Go.Proofs.Ytaaaeonalomcgaa.Q
open Go.RowKit Go.Proofs.YtaaaeonalomcgaaW.PrintWords Go.Proofs.YtaaaeonalomcgaaW.PrintLast Go.Proofs.YtaaaeonalomcgaaW.PrintMore Sp
abbrev OpV.put (o : OpV) : List UInt8 := putP o.d0 o.d1 o.t o.deps o.k (ba o.ty) (ba o.id) (ba o.fl) (ba o.val) o.n0 o.n1 o.r0 o.r1 (dS o.dots)
theorem bs_ba (l : List UInt8) : bs (ba l) = l := rfl
theorem numS_pn {x : Int} (h : numOk x) (z : List UInt8) : numS (some (pn x.toNat ++ z)) = (x, some z) := by
  obtain ⟨n, rfl⟩ : ∃ n : Nat, x = n := ⟨x.toNat, by have := h.1; omega⟩
  have := h.2
  unfold numS; rw [Int.toNat_natCast]; simp only; rw [gn_pn n (by omega)]
theorem dotS_pn {a b : Int} (h1 : numOk a) (h2 : numOk b) (z : List UInt8) : dotS (some ((pn a.toNat ++ pn b.toNat) ++ z)) = ((a, b), some z) := by
  unfold dotS; rw [List.append_assoc, numS_pn h1]; simp only; rw [numS_pn h2]
theorem numsS_pns (n : Nat) : ∀ (xs : List Int), xs.length = n → (∀ x ∈ xs, numOk x) → ∀ z, numsS n (some (pns xs ++ z)) = (xs, some z) := by
  induction n with
  | zero => intro xs hl _ z; obtain rfl := List.length_eq_zero_iff.1 hl; simp [numsS, pns]
  | succ n ih =>
    intro xs hl hx z
    rcases List.eq_nil_or_concat xs with rfl | ⟨ys, x, rfl⟩
    · simp at hl
    · rw [List.concat_eq_append] at *
      have e : pns (ys ++ [x]) ++ z = pns ys ++ (pn x.toNat ++ z) := by simp [pns]
      have h1 := ih ys (by simpa using hl) (fun y hy => hx y (by simp [hy])) (pn x.toNat ++ z)
      simp only [numsS]; rw [e, h1]; simp only
      rw [numS_pn (hx x (by simp))]
theorem textS_pt {s : List UInt8} (h : s.length ≤ 65536) (z : List UInt8) : textS (some (pt s ++ z)) = (s, some z) := by unfold textS; simp only; rw [gt_pt s h]
theorem unz_zz (x : Int) : unz (zz x) = x := by unfold unz zz; split <;> split <;> omega
theorem zz_ok {x : Int} (h : -1099511627776 ≤ x ∧ x ≤ 1099511627776) : numOk (zz x) := by unfold zz numOk; split <;> omega
theorem foldS_zz {x : Int} (h : -1099511627776 ≤ x ∧ x ≤ 1099511627776) (z : List UInt8) : foldS (some (pn (zz x).toNat ++ z)) = (x, some z) := by
  unfold foldS; rw [numS_pn (zz_ok h)]; simp [unz_zz]
theorem dotsS_dpn (n : Nat) : ∀ (ds : List (Int × Int)), ds.length = n → (∀ d ∈ ds, numOk d.1 ∧ numOk d.2) → ∀ z, dotsS n (some ((dS ds).flatMap dpn ++ z)) = (ds, some z) := by
  induction n with
  | zero => intro xs hl _ z; obtain rfl := List.length_eq_zero_iff.1 hl; simp [dotsS, dS]
  | succ n ih =>
    intro xs hl hx z
    rcases List.eq_nil_or_concat xs with rfl | ⟨ys, x, rfl⟩
    · simp at hl
    · rw [List.concat_eq_append] at *
      have e : (dS (ys ++ [x])).flatMap dpn ++ z = (dS ys).flatMap dpn ++ ((pn x.1.toNat ++ pn x.2.toNat) ++ z) := by simp [dS, dpn]
      have h1 := ih ys (by simpa using hl) (fun y hy => hx y (by simp [hy])) ((pn x.1.toNat ++ pn x.2.toNat) ++ z)
      simp only [dotsS]; rw [e, h1]; simp only
      rw [dotS_pn (hx x (by simp)).1 (hx x (by simp)).2]
theorem ba_len (l : List UInt8) : (ba l).size = l.length := ba_size l
theorem ba_nil {l : List UInt8} (h : (ba l).toList.isEmpty = true) : l = [] := by
  rw [ByteArray.toList_eq] at h; simpa using h
theorem bare_of {k : Int} {val : ByteArray} {n0 n1 r0 r1 : Int} {nd : Nat} (h : bareB k val n0 n1 r0 r1 nd = true) :
    (k = 0 ∨ k = 2 ∨ k = 4 ∨ val.toList.isEmpty = true) ∧ (k = 1 ∨ n0 = 0 ∧ n1 = 0) ∧ (k = 4 ∨ k = 5 ∨ r0 = 0 ∧ r1 = 0) ∧ (k = 3 ∨ nd = 0) := by
  simp only [bareB, Bool.and_eq_true, Bool.or_eq_true, decide_eq_true_eq, beq_iff_eq] at h
  obtain ⟨⟨⟨b1, b2⟩, b3⟩, b4⟩ := h
  refine ⟨?_, b2, ?_, ?_⟩
  · rcases b1 with (h | h | h) | h
    · exact .inl h
    · exact .inr (.inl h)
    · exact .inr (.inr (.inl h))
    · exact .inr (.inr (.inr h))
  · rcases b3 with (h | h) | h
    · exact .inl h
    · exact .inr (.inl h)
    · exact .inr (.inr h)
  · rcases b4 with h | h
    · exact .inl h
    · exact .inr (by omega)
theorem may_bare {o : OpV} {n : Int} (h : o.may n = true) : bareB o.k (ba o.val) o.n0 o.n1 o.r0 o.r1 (dS o.dots).length = true := by
  unfold OpV.may mayB at h; simp only [Bool.and_eq_true] at h; exact h.2
theorem may_len {o : OpV} {n : Int} (h : o.may n = true) : (o.deps.length : Int) = n := by
  unfold OpV.may mayB vecMayB at h; simp only [Bool.and_eq_true, decide_eq_true_eq] at h; exact h.1.1.1.1.1.1.2.1.2
theorem nat_nok (n : Nat) (h : n ≤ 1000000) : numOk (n : Int) := ⟨by omega, by omega⟩
theorem raw_put {o : OpV} {n : Nat} (h : o.may n = true) (z : List UInt8) : rawS n (some (o.put ++ z)) = (o, some z) := by
  have sm := small_of (show mayB _ _ _ _ _ _ _ _ _ _ _ _ _ _ _ = true from h)
  have hb := bare_of (may_bare h)
  have hlen : o.deps.length = n := by have := may_len h; omega
  have hdl : (dS o.dots).length = o.dots.length := by simp [dS]
  have hty : o.ty.length ≤ 65536 := by have := sm.ty; rw [ba_len] at this; omega
  have hid : o.id.length ≤ 65536 := by have := sm.id; rw [ba_len] at this; omega
  have hfl : o.fl.length ≤ 65536 := by have := sm.fl; rw [ba_len] at this; omega
  have hval : o.val.length ≤ 65536 := by have := sm.val; rw [ba_len] at this; omega
  have hown : ownS o.k (some (ownP o.k (ba o.val) o.n0 o.n1 o.r0 o.r1 (dS o.dots) ++ z)) = { val := o.val, n0 := o.n0, n1 := o.n1, r0 := o.r0, r1 := o.r1, dots := o.dots, st := some z } := by
    have hk := sm.k
    by_cases h1 : o.k = 1
    · have e1 : o.val = [] := by rcases hb.1 with h | h | h | h; · omega
                                 · omega
                                 · omega
                                 · exact ba_nil h
      have e2 : o.r0 = 0 ∧ o.r1 = 0 := by rcases hb.2.2.1 with h | h | h; · omega
                                          · omega
                                          · exact h
      have e3 : o.dots = [] := List.length_eq_zero_iff.1 (by rcases hb.2.2.2 with h | h; · omega
                                                             · omega)
      unfold ownS ownP; rw [if_neg (by omega), if_pos h1, if_pos h1, List.append_assoc, foldS_zz ⟨sm.n.1, sm.n.2.1⟩]; simp only
      rw [foldS_zz sm.n.2.2, e1, e2.1, e2.2, e3]
    · have e4 : o.n0 = 0 ∧ o.n1 = 0 := by rcases hb.2.1 with h | h; · omega
                                          · exact h
      by_cases h3 : o.k = 3
      · have e1 : o.val = [] := by rcases hb.1 with h | h | h | h; · omega
                                   · omega
                                   · omega
                                   · exact ba_nil h
        have e2 : o.r0 = 0 ∧ o.r1 = 0 := by rcases hb.2.2.1 with h | h | h; · omega
                                            · omega
                                            · exact h
        have hsl := sm.sl
        have hds : ∀ d ∈ o.dots, numOk d.1 ∧ numOk d.2 := fun d hd => by
          have := sm.ds ⟨d.1, d.2⟩ (by unfold dS; exact List.mem_map.2 ⟨d, hd, rfl⟩)
          simp only at this
          exact ⟨⟨by omega, by omega⟩, ⟨by omega, by omega⟩⟩
        have hm : (min ((dS o.dots).length : Int) 65).toNat = o.dots.length := by omega
        have hn : numS (some (pn (dS o.dots).length ++ ((dS o.dots).flatMap dpn ++ z))) = (((dS o.dots).length : Int), some ((dS o.dots).flatMap dpn ++ z)) := by
          have := numS_pn (nat_nok (dS o.dots).length (by omega)) ((dS o.dots).flatMap dpn ++ z)
          rwa [Int.toNat_natCast] at this
        unfold ownS ownP; rw [if_neg (by omega), if_neg h1, if_neg h1, if_pos h3, if_pos h3, List.append_assoc, hn]; simp only
        rw [hm, dotsS_dpn _ o.dots rfl hds z, e1, e2.1, e2.2, e4.1, e4.2]
      · have e3 : o.dots = [] := List.length_eq_zero_iff.1 (by rcases hb.2.2.2 with h | h; · omega
                                                               · omega)
        have hr1 : numOk o.r0 := ⟨sm.r.1, by have := sm.r; omega⟩
        have hr2 : numOk o.r1 := ⟨sm.r.2.2.1, by have := sm.r; omega⟩
        by_cases h5 : o.k = 5
        · have e1 : o.val = [] := by rcases hb.1 with h | h | h | h; · omega
                                     · omega
                                     · omega
                                     · exact ba_nil h
          unfold ownS ownP; rw [if_neg (by omega), if_neg h1, if_neg h1, if_neg h3, if_neg h3, if_neg (by omega), if_pos h5, if_pos h5, dotS_pn hr1 hr2, e1, e3, e4.1, e4.2]
        · by_cases h4 : o.k = 4
          · unfold ownS ownP; rw [if_neg (by omega), if_neg h1, if_neg h1, if_neg h3, if_neg h3, if_pos h4, if_neg h5, if_pos h4, List.append_assoc, dotS_pn hr1 hr2]; simp only
            rw [bs_ba, textS_pt hval, e3, e4.1, e4.2]
          · have e2 : o.r0 = 0 ∧ o.r1 = 0 := by rcases hb.2.2.1 with h | h | h; · omega
                                                · omega
                                                · exact h
            unfold ownS ownP; rw [if_pos (by omega), if_neg h1, if_neg h3, if_neg h5, if_neg h4, bs_ba, textS_pt hval, e2.1, e2.2, e3, e4.1, e4.2]
  have e : o.put ++ z = (pn o.d0.toNat ++ pn o.d1.toNat) ++ (pn o.t.toNat ++ (pns o.deps ++ (pn o.k.toNat ++ (pt o.ty ++ (pt o.id ++ (pt o.fl ++ (ownP o.k (ba o.val) o.n0 o.n1 o.r0 o.r1 (dS o.dots) ++ z))))))) := by
    simp [OpV.put, putP, headP, pns, pts]
  unfold rawS
  rw [e, dotS_pn ⟨sm.d0.1, by have := sm.d0; omega⟩ ⟨by have := sm.d1; omega, by have := sm.d1; omega⟩]; simp only
  rw [numS_pn ⟨by have := sm.t; omega, by have := sm.t; omega⟩]; simp only
  rw [numsS_pns n o.deps hlen (fun x hx => ⟨(sm.deps x hx).1, by have := sm.deps x hx; omega⟩)]; simp only
  rw [numS_pn ⟨sm.k.1, by have := sm.k; omega⟩]; simp only
  rw [textS_pt hty]; simp only
  rw [textS_pt hid]; simp only
  rw [textS_pt hfl]; simp only
  rw [hown]
end Go.Proofs.Ytaaaeonalomcgaa.Q
