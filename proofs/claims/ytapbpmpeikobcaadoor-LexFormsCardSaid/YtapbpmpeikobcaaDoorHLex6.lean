/- What the lexer's text leaves: one token more, or an error. Condition: a text of at most 70000 bytes. -/
import Derived.Test.YtapbpmpeikobcaaDoorHLex5
import Derived.Test.YtapbpmpeikobcaaDoorHScope
import Derived.WalkMore
set_option linter.unusedVariables false
set_option linter.unusedSimpArgs false
namespace Go.Proofs.YtapbpmpeikobcaaDoor.Q
open Go.RowKit Go.Proofs.YtapbpmpeikobcaaDoorW.PrintWords Go.Proofs.YtapbpmpeikobcaaDoorW.PrintLast Go.Proofs.YtapbpmpeikobcaaDoorW.PrintMore

def ext (out : List UInt8) (d : Nat) : Option (List UInt8 × Nat) → Option (List UInt8 × Nat)
  | none => none
  | some (o, k) => some (out ++ o, d + k)
theorem ext_ext (a b : List UInt8) (m n : Nat) (r : Option (List UInt8 × Nat)) : ext a m (ext b n r) = ext (a ++ b) (m + n) r := by
  cases r with
  | none => rfl
  | some q => obtain ⟨o, k⟩ := q; simp [ext]; omega
theorem unesc_nil : Lx.unesc [] = none := rfl
theorem unesc_end {c : UInt8} {r : List UInt8} (h : c.toNat = 34) : Lx.unesc (c :: r) = some ([], 1) := by unfold Lx.unesc; rw [if_pos h]
theorem unesc_ten {c : UInt8} {r : List UInt8} (h : c.toNat = 10) : Lx.unesc (c :: r) = none := by unfold Lx.unesc; rw [if_neg (by omega), if_pos h]
theorem unesc_one {c : UInt8} {r : List UInt8} (h1 : ¬ c.toNat = 34) (h2 : ¬ c.toNat = 10) (h3 : ¬ c.toNat = 92) : Lx.unesc (c :: r) = ext [c] 1 (Lx.unesc r) := by
  conv => lhs; unfold Lx.unesc
  rw [if_neg h1, if_neg h2, if_neg h3]
  cases Lx.unesc r with
  | none => rfl
  | some q => obtain ⟨o, k⟩ := q; simp [ext]; omega
theorem unesc_lone {c : UInt8} (h3 : c.toNat = 92) : Lx.unesc [c] = none := by unfold Lx.unesc; rw [if_neg (by omega), if_neg (by omega), if_pos h3]
theorem unesc_bad {c d : UInt8} {r : List UInt8} (h3 : c.toNat = 92) (h : Lx.esc d = none) : Lx.unesc (c :: d :: r) = none := by unfold Lx.unesc; rw [if_neg (by omega), if_neg (by omega), if_pos h3]; simp only [h]
theorem unesc_two {c d x : UInt8} {r : List UInt8} (h3 : c.toNat = 92) (h : Lx.esc d = some x) : Lx.unesc (c :: d :: r) = ext [x] 2 (Lx.unesc r) := by
  conv => lhs; unfold Lx.unesc
  rw [if_neg (by omega), if_neg (by omega), if_pos h3]
  simp only [h]
  cases Lx.unesc r with
  | none => rfl
  | some q => obtain ⟨o, k⟩ := q; simp [ext]; omega
/-- What the text leaves, by what stands behind its quote. -/
def TextPost (B : Nat) (w : World) (g : Nat) (s : ByteArray) (p : Nat) (ts : List Lx.Tok) (u : Option (List UInt8 × Nat)) : Ending → World → Prop := fun e w' =>
  match u with
  | none => LxErr B w 1301 e w'
  | some (o, k) => if o.length ≤ 256 then LxPost B w g s (p + 1 + k) (ts ++ [⟨2, o, 0, p⟩]) e w' else LxErr B w 1301 e w'
theorem post_none {B : Nat} {w : World} {g : Nat} {s : ByteArray} {p : Nat} {ts : List Lx.Tok} {u : Option (List UInt8 × Nat)} (hu : u = none) {e : Ending} {w' : World} (h : LxErr B w 1301 e w') : TextPost B w g s p ts u e w' := by subst hu; exact h
theorem post_long {B : Nat} {w : World} {g : Nat} {s : ByteArray} {p d : Nat} {ts : List Lx.Tok} {u r : Option (List UInt8 × Nat)} {out : List UInt8} (hu : u = ext out d r) (hl : 256 < out.length) {e : Ending} {w' : World} (h : LxErr B w 1301 e w') : TextPost B w g s p ts u e w' := by
  subst hu
  cases r with
  | none => exact h
  | some q => obtain ⟨o, k⟩ := q; simp only [TextPost, ext]; rw [if_neg (by simp; omega)]; exact h
theorem post_ok {B : Nat} {w : World} {g : Nat} {s : ByteArray} {p m : Nat} {ts : List Lx.Tok} {u : Option (List UInt8 × Nat)} {out : List UInt8} {k : Nat} (hu : u = some (out, k)) (hl : out.length ≤ 256) (hm : p + 1 + k = m) {e : Ending} {w' : World} (h : LxPost B w g s m (ts ++ [⟨2, out, 0, p⟩]) e w') : TextPost B w g s p ts u e w' := by
  subst hu; subst hm
  simp only [TextPost]; rw [if_pos hl]; exact h
/-- What holds at a label: the text read so far lies in the builder. -/
def TextAt (w : World) (g : Nat) (s : ByteArray) (p : Nat) (l i : Nat) (out : List UInt8) (wr : World) : Prop :=
  p + 1 ≤ i ∧ i ≤ s.size ∧ Lx.unesc ((bs s).drop (p + 1)) = ext out (i - (p + 1)) (Lx.unesc ((bs s).drop i)) ∧ out.length ≤ i ∧ Below w.heap.size w wr ∧ Lib.IsBuilder 62 5 w.heap.size w.heap.size (Lib.byteCells out) wr
    ∧ (l = 1 → out.length ≤ 256 ∧ ∃ h : i < s.size, (s[i]).toNat = 92)
theorem fr_text {i : Int} {g0 b0 : Nat} {q : ByteArray} (a : Act) (h : a = { tmps := #[.pointer (some ⟨g0, 0, none⟩), undef, .int .i64 0, .pointer (some ⟨b0, 0, none⟩), .string q, .int .i64 i, a.tmps.getD 6 undef, a.tmps.getD 7 undef, a.tmps.getD 8 undef, a.tmps.getD 9 undef, a.tmps.getD 10 undef, a.tmps.getD 11 undef, a.tmps.getD 12 undef, a.tmps.getD 13 undef, a.tmps.getD 14 undef, a.tmps.getD 15 undef, a.tmps.getD 16 undef, a.tmps.getD 17 undef, a.tmps.getD 18 undef, a.tmps.getD 19 undef, a.tmps.getD 20 undef, a.tmps.getD 21 undef, a.tmps.getD 22 undef, a.tmps.getD 23 undef, a.tmps.getD 24 undef, a.tmps.getD 25 undef, a.tmps.getD 26 undef, a.tmps.getD 27 undef, a.tmps.getD 28 undef, a.tmps.getD 29 undef, a.tmps.getD 30 undef, a.tmps.getD 31 undef, a.tmps.getD 32 undef, a.tmps.getD 33 undef, a.tmps.getD 34 undef, a.tmps.getD 35 undef, a.tmps.getD 36 undef, a.tmps.getD 37 undef, a.tmps.getD 38 undef, a.tmps.getD 39 undef, a.tmps.getD 40 undef, a.tmps.getD 41 undef, a.tmps.getD 42 undef, a.tmps.getD 43 undef, a.tmps.getD 44 undef, a.tmps.getD 45 undef, a.tmps.getD 46 undef, a.tmps.getD 47 undef, a.tmps.getD 48 undef, a.tmps.getD 49 undef, a.tmps.getD 50 undef, a.tmps.getD 51 undef, a.tmps.getD 52 undef, a.tmps.getD 53 undef, a.tmps.getD 54 undef, a.tmps.getD 55 undef, a.tmps.getD 56 undef, a.tmps.getD 57 undef, a.tmps.getD 58 undef, a.tmps.getD 59 undef, a.tmps.getD 60 undef, a.tmps.getD 61 undef, a.tmps.getD 62 undef, a.tmps.getD 63 undef, a.tmps.getD 64 undef, a.tmps.getD 65 undef, a.tmps.getD 66 undef, a.tmps.getD 67 undef, a.tmps.getD 68 undef, a.tmps.getD 69 undef, a.tmps.getD 70 undef, a.tmps.getD 71 undef, a.tmps.getD 72 undef, a.tmps.getD 73 undef, a.tmps.getD 74 undef, a.tmps.getD 75 undef, a.tmps.getD 76 undef, a.tmps.getD 77 undef, a.tmps.getD 78 undef, a.tmps.getD 79 undef, a.tmps.getD 80 undef, a.tmps.getD 81 undef], defers := [] }) : ∃ u : Nat → Value, a = { tmps := #[.pointer (some ⟨g0, 0, none⟩), undef, .int .i64 0, .pointer (some ⟨b0, 0, none⟩), .string q, .int .i64 i, u 6, u 7, u 8, u 9, u 10, u 11, u 12, u 13, u 14, u 15, u 16, u 17, u 18, u 19, u 20, u 21, u 22, u 23, u 24, u 25, u 26, u 27, u 28, u 29, u 30, u 31, u 32, u 33, u 34, u 35, u 36, u 37, u 38, u 39, u 40, u 41, u 42, u 43, u 44, u 45, u 46, u 47, u 48, u 49, u 50, u 51, u 52, u 53, u 54, u 55, u 56, u 57, u 58, u 59, u 60, u 61, u 62, u 63, u 64, u 65, u 66, u 67, u 68, u 69, u 70, u 71, u 72, u 73, u 74, u 75, u 76, u 77, u 78, u 79, u 80, u 81], defers := [] } := ⟨fun k => a.tmps.getD k undef, h⟩
theorem builder_below {T e : TypeId} {B b : Nat} {bs : List Value} {w w1 : World} (h : Lib.IsBuilder T e B b bs w) (hb : Below w.heap.size w w1) : Lib.IsBuilder T e B b bs w1 := by
  have one : ∀ p, Lib.BuilderAt T e B b p bs w → Lib.BuilderAt T e B b p bs w1 := by
    rintro p ⟨h1, v, h2, h3, h4⟩
    exact ⟨h1, v, (hb.block b (blk_lt h2)).trans h2, pw_own_below h3 hb, h4⟩
  rcases h with h | h
  · exact .inl (one _ h)
  · exact .inr (one _ h)
set_option maxRecDepth 100000 in
set_option maxHeartbeats 4000000 in
theorem text_any (B g : Nat) (s : ByteArray) (p : Nat) (ts : List Lx.Tok) (w : World) (hs : s.size ≤ 70000) (h : LxSt B w g s p ts) (hl : ts.length ≤ 70000) (hp : p < s.size) :
    Calls Tryd.prog 31 #[.pointer (some ⟨g, 0, none⟩)] w (TextPost B w g s p ts (Lx.unesc ((bs s).drop (p + 1)))) := by
  have HSt := Aside0.mk h
  obtain ⟨v, hI, hBg, hO⟩ := h
  obtain ⟨hc0, hc1, hc2, hf1, hf2⟩ := hI.cells
  have hg : g < w.heap.size := blk_lt hI
  have HI := Aside0.mk hI; clear hI hO
  obtain ⟨U, hU⟩ : ∃ U, Lx.unesc ((bs s).drop (p + 1)) = U := ⟨_, rfl⟩
  rw [hU]
  have HUU := Aside0.mk hU; clear hU
  go_enter Tryd.func31, Tryd.ntmps31
  go_wp2_with fail
  refine wp_scope_two (fun l a' wr => ∃ (i : Nat) (q : ByteArray) (out : List UInt8), (∃ u : Nat → Value, a' = { tmps := #[.pointer (some ⟨g, 0, none⟩), undef, .int .i64 0, .pointer (some ⟨w.heap.size, 0, none⟩), .string q, .int .i64 i, u 6, u 7, u 8, u 9, u 10, u 11, u 12, u 13, u 14, u 15, u 16, u 17, u 18, u 19, u 20, u 21, u 22, u 23, u 24, u 25, u 26, u 27, u 28, u 29, u 30, u 31, u 32, u 33, u 34, u 35, u 36, u 37, u 38, u 39, u 40, u 41, u 42, u 43, u 44, u 45, u 46, u 47, u 48, u 49, u 50, u 51, u 52, u 53, u 54, u 55, u 56, u 57, u 58, u 59, u 60, u 61, u 62, u 63, u 64, u 65, u 66, u 67, u 68, u 69, u 70, u 71, u 72, u 73, u 74, u 75, u 76, u 77, u 78, u 79, u 80, u 81], defers := [] }) ∧ Aside0 (TextAt w g s p l i out wr)) (fun l a' _ => 2 * (s.size - (intOf (a'.tmps.getD 5 undef)).toNat) + 1 - l) rfl rfl ?_ ?_ ?_
  · intro HP
    have HP := Aside0.mk HP
    go_wp2_with fail
    go_step3
    simp only [Exit.then]
    refine (‹∀ (a : Act) (w : World), Code.wp _ _ _ a w → _› _ _ ?_)
    refine HP.out _ _ ?_
    refine ⟨p + 1, ⟨#[]⟩, [], fr_text _ rfl, ⟨?_⟩⟩
    refine ⟨Nat.le_refl _, hp, ?_, by simp, (Below.refl _ _).alloc (Nat.le_refl _) _, Lib.fresh_isBuilder _ _ w, by simp⟩
    rw [Nat.sub_self]; cases Lx.unesc ((bs s).drop (p + 1)) with
    | none => rfl
    | some q => simp [ext]
  · clear hc0 hc1 hc2 hf1 hf2
    rintro a' wr ⟨i, q, out, ⟨u, rfl⟩, hT⟩
    have HT := Aside0.mk hT.out; clear hT
    obtain ⟨hi1, hi2, hu, ho, hb, hB, h1⟩ := HT.out
    clear HT
    have hIr : IsLx wr g s p v := blk_below HI.out hb
    obtain ⟨hc0, hc1, hc2, hf1, hf2⟩ := hIr.cells
    have hlr : w.heap.size ≤ wr.heap.size := hb.size
    have hBL : Below B w wr := hb.mono HSt.out.lt
    have hlen := Tryd.Builder_Len w.heap.size w.heap.size (Lib.byteCells out) wr hB
    rw [Lib.byteCells_length] at hlen
    have hlen := hlen.mono (fun e w' (h : _ ∧ _) => (⟨h.1, h.2.symm⟩ : e = .returned (.int .i64 out.length) ∧ wr = w'))
    have HL := Aside0.mk hlen; have HB := Aside0.mk hB; have HU := Aside0.mk hu; have HBe := Aside0.mk hb; have HBL := Aside0.mk hBL; have HIr := Aside0.mk hIr; clear hlen hB hu hb hBL hIr
    clear h1
    by_cases hlt : i < s.size
    · have hd := bs_drop s i hlt
      by_cases h10 : (s[i]).toNat = 10
      · have hn : U = none := by rw [← HUU.out, HU.out, hd, unesc_ten h10]; rfl
        have HN := Aside0.mk hn; clear hd hn
        have e1 : (((s[i]).toNat : Int) == 10) = true := by simp; omega
        clear h10
        go_wp2_with fail
        try simp only [jumps]
        go_ret
        exact post_none HN.out ⟨rfl, HBL.out⟩
      · have e1 : (((s[i]).toNat : Int) == 10) = false := by simp; omega
        by_cases h256 : 256 < out.length
        · have hx : ∀ e w', LxErr B w 1301 e w' → TextPost B w g s p ts U e w' := fun e w' h => post_long (HUU.out.symm.trans HU.out) h256 h
          have HX := Aside0.mk hx; clear hx hd h10
          go_wp2_with (go_at_call 39; refine (HL.out).mono ?_; rintro e w' ⟨rfl, rfl⟩)
          try simp only [jumps]
          go_ret
          exact HX.out _ _ ⟨rfl, HBL.out⟩
        · by_cases h34 : (s[i]).toNat = 34
          · have hn : U = some (out, i - (p + 1) + 1) := by rw [← HUU.out, HU.out, hd, unesc_end h34]; simp [ext]
            have HN := Aside0.mk hn; clear hd hn h10
            have e2 : (((s[i]).toNat : Int) == 34) = true := by simp; omega
            clear h34
            go_wp2_with (go_at_call 39; refine (HL.out).mono ?_; rintro e w' ⟨rfl, rfl⟩)
            refine (Tryd.Builder_String_any w.heap.size w.heap.size out wr HB.out hlr).mono ?_
            rintro e w2 ⟨rfl, hb2⟩
            have hb3 : Below w.heap.size w w2 := HBe.out.trans hb2
            have hadd := add_any B g s p ts 2 out 0 0 (i + 1) w2 (HSt.out.below hb3) hl
            simp only [Int.natCast_add, Int.natCast_one] at hadd
            have HAdd := Aside0.mk hadd; have HB3 := Aside0.mk hb3; clear hadd hb2 hb3
            go_wp2_with fail
            refine (HAdd.out).mono ?_
            rintro e w4 ⟨rfl, h4, b4⟩
            have H4 := Aside0.mk h4; have B4 := Aside0.mk b4; clear h4 b4
            go_wp2_with fail
            try simp only [jumps]
            go_ret
            exact post_ok (m := i + 1) HN.out (by omega) (by omega) ⟨rfl, H4.out, (HB3.out.mono HSt.out.lt).trans B4.out⟩
          · have e2 : (((s[i]).toNat : Int) == 34) = false := by simp; omega
            by_cases h92 : (s[i]).toNat = 92
            · have e3 : (((s[i]).toNat : Int) == 92) = true := by simp; omega
              have hJ : TextAt w g s p 1 i out wr := ⟨hi1, hi2, HU.out, ho, HBe.out, HB.out, fun _ => ⟨by omega, hlt, h92⟩⟩
              have HJ := Aside0.mk hJ; clear hJ hd h10 h34 h92
              go_wp2_with (go_at_call 39; refine (HL.out).mono ?_; rintro e w' ⟨rfl, rfl⟩)
              try go_step3
              refine ⟨.inr rfl, ⟨i, q, out, fr_text _ rfl, HJ⟩, ?_⟩
              simp [intOf]; try omega
            · have e3 : (((s[i]).toNat : Int) == 92) = false := by simp; omega
              have hn : Lx.unesc ((bs s).drop (p + 1)) = ext (out ++ [s[i]]) (i + 1 - (p + 1)) (Lx.unesc ((bs s).drop (i + 1))) := by rw [HU.out, hd, unesc_one h34 h10 h92, ext_ext, show i - (p + 1) + 1 = i + 1 - (p + 1) from by omega]
              have HN := Aside0.mk hn; clear hn hd h10 h34 h92
              go_wp2_with (go_at_call 39; refine (HL.out).mono ?_; rintro e w' ⟨rfl, rfl⟩)
              refine (lib_WriteByte w.heap.size w.heap.size (Lib.byteCells out) _ wr HB.out (by rw [Lib.byteCells_length]; omega) hlr).mono ?_
              rintro e w2 ⟨rfl, hB2, hb2⟩
              have hJ : TextAt w g s p 0 (i + 1) (out ++ [s[i]]) w2 := ⟨by omega, hlt, HN.out, by simp; omega, HBe.out.trans hb2, by rw [Lib.byteCells_append]; exact hB2, fun h => by cases h⟩
              have HJ := Aside0.mk hJ; clear hJ hB2 hb2
              go_wp2_with fail
              try go_step3
              refine ⟨.inl rfl, ⟨i + 1, q, out ++ [s[i]], ?_, HJ⟩, ?_⟩
              · exact fr_text _ rfl
              · simp [intOf]; omega
    · have hn : U = none := by rw [← HUU.out, HU.out, List.drop_of_length_le (by rw [bs_length]; omega), unesc_nil]; rfl
      have HN := Aside0.mk hn; clear hn
      go_wp2_with fail
      try simp only [jumps]
      go_ret
      exact post_none HN.out ⟨rfl, HBL.out⟩
  · clear hc0 hc1 hc2 hf1 hf2
    rintro a' wr ⟨i, q, out, ⟨u, rfl⟩, hT⟩
    have HT := Aside0.mk hT.out; clear hT
    obtain ⟨hi1, hi2, hu, ho, hb, hB, h1⟩ := HT.out
    clear HT
    have hIr : IsLx wr g s p v := blk_below HI.out hb
    obtain ⟨hc0, hc1, hc2, hf1, hf2⟩ := hIr.cells
    have hlr : w.heap.size ≤ wr.heap.size := hb.size
    have hBL : Below B w wr := hb.mono HSt.out.lt
    have hlen := Tryd.Builder_Len w.heap.size w.heap.size (Lib.byteCells out) wr hB
    rw [Lib.byteCells_length] at hlen
    have hlen := hlen.mono (fun e w' (h : _ ∧ _) => (⟨h.1, h.2.symm⟩ : e = .returned (.int .i64 out.length) ∧ wr = w'))
    have HL := Aside0.mk hlen; have HB := Aside0.mk hB; have HU := Aside0.mk hu; have HBe := Aside0.mk hb; have HBL := Aside0.mk hBL; have HIr := Aside0.mk hIr; clear hlen hB hu hb hBL hIr
    obtain ⟨ho2, hlt, h92⟩ := h1 rfl
    clear h1
    have hd := bs_drop s i hlt
    by_cases hlt2 : i + 1 < s.size
    · have hd2 := bs_drop s (i + 1) hlt2
      have hsg := sign_any s[i + 1] wr
      unfold escT at hsg
      cases hq : Lx.esc s[i + 1] with
      | none =>
        have hn : U = none := by rw [← HUU.out, HU.out, hd, hd2, unesc_bad h92 hq]; rfl
        rw [hq] at hsg
        have HN := Aside0.mk hn; have HS := Aside0.mk hsg; clear hn hd hd2 hq hsg h92
        go_wp2_with fail
        refine (HS.out).mono ?_
        rintro e w2 ⟨rfl, hb2⟩
        have hB2 : Below B w w2 := HBL.out.trans (hb2.mono (by have := HSt.out.lt; omega))
        have HB2 := Aside0.mk hB2; clear hb2 hB2
        have e5 : (ba ([] : List UInt8)).toList = [] := by rw [toList_bs, bs_ba]
        go_wp2_with fail
        try simp only [jumps]
        go_ret
        exact post_none HN.out ⟨rfl, HB2.out⟩
      | some x =>
        have hn : Lx.unesc ((bs s).drop (p + 1)) = ext (out ++ [x]) (i + 2 - (p + 1)) (Lx.unesc ((bs s).drop (i + 2))) := by rw [HU.out, hd, hd2, unesc_two h92 hq, ext_ext, show i - (p + 1) + 2 = i + 2 - (p + 1) from by omega]
        rw [hq] at hsg
        have HN := Aside0.mk hn; have HS := Aside0.mk hsg; clear hn hd hd2 hq hsg h92
        go_wp2_with fail
        refine (HS.out).mono ?_
        rintro e w2 ⟨rfl, hb2⟩
        have hb3 : Below w.heap.size wr w2 := hb2.mono hlr
        have hB2 : Lib.IsBuilder 62 5 w.heap.size w.heap.size (Lib.byteCells out) w2 := builder_below HB.out hb2
        have hl2 : w.heap.size ≤ w2.heap.size := Nat.le_trans hlr hb2.size
        have HB3 := Aside0.mk hb3; have HB2 := Aside0.mk hB2; clear hb2 hb3 hB2
        have e5 : ((ba [x]).toList == []) = false := by rw [toList_bs, bs_ba]; rfl
        have e6 : ¬ (ba [x]).toList = [] := by rw [toList_bs, bs_ba]; simp
        go_wp2_with fail
        refine (lib_WriteString w.heap.size w.heap.size (Lib.byteCells out) (ba [x]) w2 HB2.out (by rw [Lib.byteCells_length, ba_size]; simp; omega) hl2).mono ?_
        rintro e w3 ⟨rfl, hB4, hb4⟩
        have hJ : TextAt w g s p 0 (i + 2) (out ++ [x]) w3 := ⟨by omega, hlt2, HN.out, by simp; omega, (HBe.out.trans HB3.out).trans hb4, by rw [Lib.byteCells_append]; exact hB4, fun h => by cases h⟩
        have HJ := Aside0.mk hJ; clear hJ hB4 hb4
        go_wp2_with fail
        try go_step3
        refine ⟨.inl rfl, ⟨i + 2, ba [x], out ++ [x], ?_, HJ⟩, ?_⟩
        · exact fr_text _ rfl
        · simp [intOf]; omega
    · have hn : U = none := by rw [← HUU.out, HU.out, hd, List.drop_of_length_le (by rw [bs_length]; omega), unesc_lone h92]; rfl
      have HN := Aside0.mk hn; clear hn hd h92
      go_wp2_with fail
      try simp only [jumps]
      go_ret
      exact post_none HN.out ⟨rfl, HBL.out⟩
end Go.Proofs.YtapbpmpeikobcaaDoor.Q
