/- The printed functions that write answer as plain ones. Conditions: numbers from 0 on, all sizes below 2 to the 46. -/
import Derived.Test.YtaaaeonalomcgaaUHVar
import Derived.Test.YtaaaeonalomcgaaUQ7
set_option linter.unusedVariables false
set_option linter.unusedSimpArgs false
namespace Go.Proofs.Ytaaaeonalomcgaa.Q
open Go.RowKit Go.Proofs.YtaaaeonalomcgaaW.PrintWords Go.Proofs.YtaaaeonalomcgaaW.PrintLast Go.Proofs.YtaaaeonalomcgaaW.PrintMore Sp
set_option maxRecDepth 10000 in
theorem or128_all : ∀ a : Fin 256, (a.val ||| 128) = a.val % 128 + 128 := by decide
theorem or128 (x : Nat) : Go.bits .or .u8 ((x : Int) % 256) 128 = ((x % 128 + 128 : Nat) : Int) := by
  have h1 : (x : Int) % 256 = ((x % 256 : Nat) : Int) := by omega
  rw [h1]
  have := (bits_nat .u8 8 (by decide) wraps_u8 (x % 256) 128 (by omega) (by decide)).2
  have h2 := or128_all ⟨x % 256, by omega⟩
  simp only at h2
  refine this.trans ?_
  rw [h2]; omega
theorem pn_len (x : Nat) : ∀ n, x < 128 ^ n → 0 < n → (pn x).length ≤ n := by
  induction x using Nat.strongRecOn with
  | _ x ih =>
    intro n hn hp
    by_cases h : x < 128
    · rw [pn_small h]; simp; omega
    · rw [pn_big h]
      obtain ⟨m, rfl⟩ : ∃ m, n = m + 1 := ⟨n - 1, by omega⟩
      cases m with
      | zero => simp at hn; omega
      | succ m =>
        have := ih (x / 128) (by omega) (m + 1) (by rw [Nat.pow_succ] at hn; omega) (by omega)
        simp only [List.length_cons]; omega
theorem pn_len9 (x : Nat) (h : x < 9223372036854775808) : (pn x).length ≤ 9 := pn_len x 9 (by omega) (by decide)
theorem strOf (acc : List UInt8) : strOfNums (acc.map fun b => (b.toNat : Int)) = ⟨acc.toArray⟩ := by
  unfold strOfNums; congr 1; congr 1; rw [List.map_map]
  conv => rhs; rw [← List.map_id acc]
  apply List.map_congr_left; intro b _; simp
theorem putLoop_ev (x : Nat) (hx : x < 9223372036854775808) : ∀ (n : Nat) (acc : List UInt8), x < 128 ^ n → 0 < n → acc.length + n ≤ 1000 →
    Ev (fun k => varint_Put.l0 k (x : Int) (acc.map fun b => (b.toNat : Int))) (⟨(acc ++ pn x).toArray⟩, 0) := by
  induction x using Nat.strongRecOn with
  | _ x ih =>
    intro n acc hn hp hl
    by_cases h : x < 128
    · refine Ev.step (f := fun _ => some (⟨(acc ++ pn x).toArray⟩, 0)) (fun k => ?_) (Ev.now _)
      simp only [varint_Put.l0]
      rw [if_neg (by omega), if_pos (by simp; omega), pn_small h]
      congr 2
      have := strOf (acc ++ [UInt8.ofNat x])
      rw [List.map_append] at this
      simp only [List.map_cons, List.map_nil, u8_ofNat_toNat (show x < 256 by omega)] at this
      rw [← this, show (x : Int) % 256 = x from by omega]
    · obtain ⟨m, rfl⟩ : ∃ m, n = m + 1 := ⟨n - 1, by omega⟩
      have hm : 0 < m := by rcases Nat.eq_zero_or_pos m with h0 | h0; · subst h0; simp at hn; omega
                            · exact h0
      have hih := ih (x / 128) (by omega) (by omega) m (acc ++ [UInt8.ofNat (x % 128 + 128)]) (by rw [Nat.pow_succ] at hn; omega) hm (by simp; omega)
      refine Ev.step (f := fun k => varint_Put.l0 k ((x / 128 : Nat) : Int) ((acc ++ [UInt8.ofNat (x % 128 + 128)]).map fun b => (b.toNat : Int))) (fun k => ?_) ?_
      · simp only [varint_Put.l0]
        rw [if_pos (by omega), if_pos (by simp; omega), or128]
        rw [List.map_append]; simp only [List.map_cons, List.map_nil, u8_ofNat_toNat (show x % 128 + 128 < 256 by omega)]
        congr 1
      · rw [pn_big h]; simpa using hih
theorem put_ev (x : Nat) (hx : x < 9223372036854775808) : Ev (fun k => varint_Put.f k (x : Int)) (⟨(pn x).toArray⟩, 0) := by
  unfold varint_Put.f
  refine Ev.congr (fun k => if_neg (by omega)) ?_
  simpa using putLoop_ev x hx 9 [] (by omega) (by decide) (by decide)
theorem ba_append (a b : List UInt8) : (⟨a.toArray⟩ : ByteArray) ++ ⟨b.toArray⟩ = ⟨(a ++ b).toArray⟩ := by
  apply ByteArray.ext; simp
theorem ba_size (a : List UInt8) : (⟨a.toArray⟩ : ByteArray).size = a.length := by simp [ByteArray.size]
theorem putText_ev (s : ByteArray) (hs : s.size ≤ 65536) : Ev (fun k => varint_PutText.f k s) (⟨(pt (bs s)).toArray⟩, 0) := by
  unfold varint_PutText.f
  refine Ev.congr (fun k => if_neg (by omega)) ?_
  refine Ev.bind (put_ev s.size (by omega)) ?_
  have h9 := pn_len9 s.size (by omega)
  refine Ev.congr (fun k => if_pos (by simp only [ba_size]; omega)) ?_
  have e : (⟨(pn s.size).toArray⟩ : ByteArray) ++ s = ⟨(pt (bs s)).toArray⟩ := by
    unfold pt; rw [bs_length]
    rw [← ba_append]
  simp only [e]; exact Ev.now _
def pns (xs : List Int) : List UInt8 := xs.flatMap fun x => pn x.toNat
def numOk (x : Int) : Prop := 0 ≤ x ∧ x ≤ 9223372036854775807
theorem pns_drop (xs : List Int) (i : Nat) (h : i < xs.length) : pns (xs.drop i) = pn (xs.getD i 0).toNat ++ pns (xs.drop (i + 1)) := by
  have : xs.drop i = xs.getD i 0 :: xs.drop (i + 1) := by rw [List.drop_eq_getElem_cons h, List.getD_eq_getElem?_getD, List.getElem?_eq_getElem h]; rfl
  rw [this]; rfl
theorem numLoop_ev (xs : List Int) (hx : ∀ x ∈ xs, numOk x) (hl : xs.length ≤ 1000000) (d : Nat) : ∀ (i : Nat) (acc : List UInt8), i + d = xs.length → acc.length + 9 * d ≤ 1000000000 →
    Ev (fun k => op_writer_num.l0 k xs (xs.length : Int) i ⟨acc.toArray⟩) ⟨(acc ++ pns (xs.drop i)).toArray⟩ := by
  induction d with
  | zero =>
    intro i acc hi hc
    refine Ev.step (f := fun _ => some ⟨acc.toArray⟩) (fun k => ?_) (by rw [List.drop_of_length_le (by omega)]; simpa [pns] using Ev.now _)
    simp only [op_writer_num.l0]; rw [if_neg (by omega)]
  | succ d ih =>
    intro i acc hi hc
    have hi' : i < xs.length := by omega
    have hg := hx (xs.getD i 0) (by rw [List.getD_eq_getElem?_getD, List.getElem?_eq_getElem hi']; exact List.getElem_mem hi')
    obtain ⟨n, hn⟩ : ∃ n : Nat, xs.getD i 0 = n := ⟨(xs.getD i 0).toNat, by have := hg.1; omega⟩
    have hn2 : n < 9223372036854775808 := by have := hg.2; omega
    have h9 := pn_len9 n hn2
    rw [pns_drop xs i hi', hn, Int.toNat_natCast]
    refine Ev.step (f := fun k => (varint_Put.f k (n : Int)).bind fun b => if (⟨acc.toArray⟩ : ByteArray).size + b.1.size ≤ 9223372036854775807 then op_writer_num.l0 k xs (xs.length : Int) ((i + 1 : Nat) : Int) (⟨acc.toArray⟩ ++ b.1) else none) (fun k => ?_) ?_
    · simp only [op_writer_num.l0]
      rw [if_pos (by omega), if_pos (by omega), if_pos (by omega), show rd xs i = n from by unfold rd; rw [Int.toNat_natCast]; exact hn, w64 (by omega) (by omega)]; rfl
    · refine Ev.bind (f := fun k b => if (⟨acc.toArray⟩ : ByteArray).size + b.1.size ≤ 9223372036854775807 then op_writer_num.l0 k xs (xs.length : Int) ((i + 1 : Nat) : Int) (⟨acc.toArray⟩ ++ b.1) else none) (put_ev n hn2) ?_
      refine Ev.congr (fun k => if_pos (by simp only [ba_size]; omega)) ?_
      simp only [ba_append]
      have := ih (i + 1) (acc ++ pn n) (by omega) (by simp; omega)
      simpa [List.append_assoc] using this
theorem num_ev (xs : List Int) (acc : List UInt8) (hx : ∀ x ∈ xs, numOk x) (hl : xs.length ≤ 1000000) (hc : acc.length + 9 * xs.length ≤ 1000000000) :
    Ev (fun k => op_writer_num.f k ⟨acc.toArray⟩ xs) ⟨(acc ++ pns xs).toArray⟩ := by
  unfold op_writer_num.f; simpa using numLoop_ev xs hx hl xs.length 0 acc (by omega) hc
theorem dotw_ev (a b : Int) (acc : List UInt8) (ha : numOk a) (hb : numOk b) (hc : acc.length ≤ 900000000) :
    Ev (fun k => op_writer_dot.f k ⟨acc.toArray⟩ a b) ⟨(acc ++ (pn a.toNat ++ pn b.toNat)).toArray⟩ := by
  unfold op_writer_dot.f
  refine Ev.bind (f := fun _ t => some t) (num_ev [a, b] acc (by intro x hx; simp at hx; rcases hx with rfl | rfl <;> assumption) (by simp) (by simp; omega)) ?_
  simpa [pns] using Ev.now _
def pts (ss : List ByteArray) : List UInt8 := ss.flatMap fun s => pt (bs s)
theorem textLoop_ev (xs : List ByteArray) (hx : ∀ x ∈ xs, x.size ≤ 65536) (hl : xs.length ≤ 1000) (d : Nat) : ∀ (i : Nat) (acc : List UInt8), i + d = xs.length → acc.length + 70000 * d ≤ 1000000000 →
    Ev (fun k => op_writer_text.l0 k xs (xs.length : Int) i ⟨acc.toArray⟩) ⟨(acc ++ pts (xs.drop i)).toArray⟩ := by
  induction d with
  | zero =>
    intro i acc hi hc
    refine Ev.step (f := fun _ => some ⟨acc.toArray⟩) (fun k => ?_) (by rw [List.drop_of_length_le (by omega)]; simpa [pts] using Ev.now _)
    simp only [op_writer_text.l0]; rw [if_neg (by omega)]
  | succ d ih =>
    intro i acc hi hc
    have hi' : i < xs.length := by omega
    have hdr : xs.drop i = xs.getD i ByteArray.empty :: xs.drop (i + 1) := by rw [List.drop_eq_getElem_cons hi', List.getD_eq_getElem?_getD, List.getElem?_eq_getElem hi']; rfl
    have hg := hx (xs.getD i ByteArray.empty) (by rw [List.getD_eq_getElem?_getD, List.getElem?_eq_getElem hi']; exact List.getElem_mem hi')
    obtain ⟨y, hy⟩ : ∃ y, y = xs.getD i ByteArray.empty := ⟨_, rfl⟩
    rw [← hy] at hg hdr
    have h9 := pn_len9 y.size (by omega)
    have hpl : (pt (bs y)).length ≤ 65545 := by unfold pt; rw [List.length_append, bs_length]; omega
    rw [hdr, show pts (y :: xs.drop (i + 1)) = pt (bs y) ++ pts (xs.drop (i + 1)) from rfl]
    refine Ev.step (f := fun k => (varint_PutText.f k y).bind fun b => if (⟨acc.toArray⟩ : ByteArray).size + b.1.size ≤ 9223372036854775807 then op_writer_text.l0 k xs (xs.length : Int) ((i + 1 : Nat) : Int) (⟨acc.toArray⟩ ++ b.1) else none) (fun k => ?_) ?_
    · simp only [op_writer_text.l0]
      rw [if_pos (by omega), if_pos (by omega), if_pos (by omega), show rdOf ByteArray.empty xs i = y from by unfold rdOf; rw [Int.toNat_natCast, hy], w64 (by omega) (by omega)]; rfl
    · refine Ev.bind (f := fun k b => if (⟨acc.toArray⟩ : ByteArray).size + b.1.size ≤ 9223372036854775807 then op_writer_text.l0 k xs (xs.length : Int) ((i + 1 : Nat) : Int) (⟨acc.toArray⟩ ++ b.1) else none) (putText_ev y hg) ?_
      refine Ev.congr (fun k => if_pos (by simp only [ba_size]; omega)) ?_
      simp only [ba_append]
      have := ih (i + 1) (acc ++ pt (bs y)) (by omega) (by simp; omega)
      simpa [List.append_assoc] using this
theorem text_ev (xs : List ByteArray) (acc : List UInt8) (hx : ∀ x ∈ xs, x.size ≤ 65536) (hl : xs.length ≤ 1000) (hc : acc.length + 70000 * xs.length ≤ 1000000000) :
    Ev (fun k => op_writer_text.f k ⟨acc.toArray⟩ xs) ⟨(acc ++ pts xs).toArray⟩ := by
  unfold op_writer_text.f; simpa using textLoop_ev xs hx hl xs.length 0 acc (by omega) hc
def zz (x : Int) : Int := if x < 0 then -2 * x - 1 else 2 * x
theorem fold_ev (a b : Int) (acc : List UInt8) (ha : -1099511627776 ≤ a ∧ a ≤ 1099511627776) (hb : -1099511627776 ≤ b ∧ b ≤ 1099511627776) (hc : acc.length ≤ 900000000) :
    Ev (fun k => op_writer_fold.f k ⟨acc.toArray⟩ [a, b]) ⟨(acc ++ (pn (zz a).toNat ++ pn (zz b).toNat)).toArray⟩ := by
  have hz : ∀ x : Int, -1099511627776 ≤ x ∧ x ≤ 1099511627776 → numOk (zz x) := by intro x hx; unfold zz numOk; split <;> omega
  have one : ∀ (x : Int), -1099511627776 ≤ x ∧ x ≤ 1099511627776 → ∀ (acc : List UInt8), acc.length ≤ 900000100 → Ev (fun k => op_writer_num.f k ⟨acc.toArray⟩ [zz x]) ⟨(acc ++ pn (zz x).toNat).toArray⟩ := by
    intro x hx acc hc
    have := num_ev [zz x] acc (by intro y hy; simp at hy; subst hy; exact hz x hx) (by simp) (by simp; omega)
    simpa [pns] using this
  have step : ∀ (i : Nat) (x : Int), (i = 0 ∧ x = a ∨ i = 1 ∧ x = b) → (-1099511627776 ≤ x ∧ x ≤ 1099511627776) → ∀ (acc : List UInt8) (k : Nat),
      op_writer_fold.l0 (k + 1) [a, b] 2 i ⟨acc.toArray⟩ = (op_writer_num.f k ⟨acc.toArray⟩ [zz x]).bind fun t => op_writer_fold.l0 k [a, b] 2 ((i + 1 : Nat) : Int) t := by
    intro i x hi hx acc k
    simp only [op_writer_fold.l0]
    have hrd : rd [a, b] i = x := by rcases hi with ⟨rfl, rfl⟩ | ⟨rfl, rfl⟩ <;> rfl
    rw [if_pos (by omega), if_pos (by omega), if_pos (by simp; omega), hrd]
    unfold zz
    split
    · rw [w64 (x := -2 * x) (by omega) (by omega), w64 (x := -2 * x - 1) (by omega) (by omega), w64 (by omega) (by omega)]; rfl
    · rw [w64 (x := 2 * x) (by omega) (by omega), w64 (by omega) (by omega)]; rfl
  have h9a := pn_len9 (zz a).toNat (by have := (hz a ha).2; have := (hz a ha).1; omega)
  unfold op_writer_fold.f
  show Ev (fun k => op_writer_fold.l0 k [a, b] 2 ((0 : Nat) : Int) ⟨acc.toArray⟩) _
  refine Ev.step (step 0 a (.inl ⟨rfl, rfl⟩) ha acc) ?_
  refine Ev.bind (f := fun k t => op_writer_fold.l0 k [a, b] 2 ((0 + 1 : Nat) : Int) t) (one a ha acc (by omega)) ?_
  refine Ev.step (step 1 b (.inr ⟨rfl, rfl⟩) hb _) ?_
  refine Ev.bind (f := fun k t => op_writer_fold.l0 k [a, b] 2 ((1 + 1 : Nat) : Int) t) (one b hb (acc ++ pn (zz a).toNat) (by simp; omega)) ?_
  refine Ev.step (f := fun _ => some ⟨(acc ++ pn (zz a).toNat ++ pn (zz b).toNat).toArray⟩) (fun k => ?_) (by simpa [List.append_assoc] using Ev.now _)
  simp only [op_writer_fold.l0]; rw [if_neg (by omega)]
end Go.Proofs.Ytaaaeonalomcgaa.Q
