/- What op.Put answers: an operation's bytes, or an error. No condition. -/
import Derived.Test.YtaaaeonalomcgaaUHGet
import Derived.Test.YtaaaeonalomcgaaUHWrite
set_option linter.unusedVariables false
set_option linter.unusedSimpArgs false
namespace Go.Proofs.Ytaaaeonalomcgaa.Q
open Go.RowKit Go.Proofs.YtaaaeonalomcgaaW.PrintWords Go.Proofs.YtaaaeonalomcgaaW.PrintLast Go.Proofs.YtaaaeonalomcgaaW.PrintMore Sp
def dpn (d : S23) : List UInt8 := pn d.f0.toNat ++ pn d.f1.toNat
def ownP (k : Int) (val : ByteArray) (n0 n1 r0 r1 : Int) (ds : List S23) : List UInt8 :=
  if k = 1 then pn (zz n0).toNat ++ pn (zz n1).toNat
  else if k = 3 then pn ds.length ++ ds.flatMap dpn
  else if k = 5 then pn r0.toNat ++ pn r1.toNat
  else if k = 4 then (pn r0.toNat ++ pn r1.toNat) ++ pt (bs val)
  else pt (bs val)
def headP (d0 d1 t : Int) (deps : List Int) (k : Int) (ty id fl : ByteArray) : List UInt8 :=
  (pn d0.toNat ++ pn d1.toNat) ++ pns [t] ++ pns deps ++ pns [k] ++ pts [ty, id, fl]
def putP (d0 d1 t : Int) (deps : List Int) (k : Int) (ty id fl val : ByteArray) (n0 n1 r0 r1 : Int) (ds : List S23) : List UInt8 := headP d0 d1 t deps k ty id fl ++ ownP k val n0 n1 r0 r1 ds
structure Small (d0 d1 t : Int) (deps : List Int) (k : Int) (ty id fl val : ByteArray) (n0 n1 r0 r1 : Int) (ds : List S23) : Prop where
  d0 : 0 ≤ d0 ∧ d0 ≤ 15
  d1 : 1 ≤ d1 ∧ d1 ≤ 1048575
  t : 1 ≤ t ∧ t ≤ 16777215
  dl : deps.length ≤ 16
  deps : ∀ x ∈ deps, 0 ≤ x ∧ x ≤ 1048575
  k : 0 ≤ k ∧ k ≤ 5
  ty : ty.size ≤ 32
  id : id.size ≤ 256
  fl : fl.size ≤ 32
  val : val.size ≤ 256
  n : -1099511627776 ≤ n0 ∧ n0 ≤ 1099511627776 ∧ -1099511627776 ≤ n1 ∧ n1 ≤ 1099511627776
  r : 0 ≤ r0 ∧ r0 ≤ 15 ∧ 0 ≤ r1 ∧ r1 ≤ 1048575
  sl : ds.length ≤ 64
  ds : ∀ d ∈ ds, 0 ≤ d.f0 ∧ d.f0 ≤ 15 ∧ 1 ≤ d.f1 ∧ d.f1 ≤ 1048575
theorem has_range {v : List Int} (hl : v.length ≤ 16) (hv : ∀ x ∈ v, 0 ≤ x ∧ x ≤ 1048575) {a b : Int} (h : hasB v a b = true) : 0 ≤ a ∧ a ≤ 15 ∧ 1 ≤ b ∧ b ≤ 1048575 := by
  simp only [hasB, decide_eq_true_eq] at h
  have hi : a.toNat < v.length := by omega
  have := hv (rd v a) (by unfold rd; rw [List.getD_eq_getElem?_getD, List.getElem?_eq_getElem hi]; exact List.getElem_mem hi)
  omega
theorem small_of {d0 d1 t : Int} {deps : List Int} {k : Int} {ty id fl val : ByteArray} {n0 n1 r0 r1 : Int} {ds : List S23} {n : Int} (h : mayB d0 d1 t deps k ty id fl val n0 n1 r0 r1 ds n = true) : Small d0 d1 t deps k ty id fl val n0 n1 r0 r1 ds := by
  simp only [mayB, dotMayB, vecMayB, nodesB, timeB, nameB, idB, Bool.and_eq_true, decide_eq_true_eq, beq_iff_eq] at h
  obtain ⟨⟨⟨⟨⟨⟨⟨⟨⟨hn, hd⟩, ht⟩, ⟨⟨_, hlen⟩, hall⟩⟩, hx⟩, ⟨⟨hty, _⟩, _⟩⟩, ⟨⟨hfl, _⟩, _⟩⟩, ⟨_, hid⟩⟩, hown⟩, hbare⟩ := h
  have hl : deps.length ≤ 16 := by omega
  have hv : ∀ x ∈ deps, 0 ≤ x ∧ x ≤ 1048575 := fun x hx => by have := List.all_eq_true.1 hall x hx; simpa [seqB] using this
  simp only [bareB, Bool.and_eq_true, Bool.or_eq_true, decide_eq_true_eq, beq_iff_eq] at hbare
  obtain ⟨⟨⟨b1, b2⟩, b3⟩, b4⟩ := hbare
  have hval0 : val.toList.isEmpty = true → val.size = 0 := fun h => by
    have h1 : val.toList = [] := by simpa using h
    have := congrArg List.length h1
    rwa [ByteArray.toList_eq, Array.length_toList] at this
  unfold ownB at hown
  have hkk : k = 0 ∨ k = 1 ∨ k = 2 ∨ k = 3 ∨ k = 4 ∨ k = 5 := by
    by_cases h02 : k = 0 ∨ k = 2
    · omega
    · rw [if_neg h02] at hown
      by_cases h1 : k = 1
      · omega
      · rw [if_neg h1] at hown
        by_cases h3 : k = 3
        · omega
        · rw [if_neg h3] at hown
          by_cases h4 : k = 4
          · omega
          · rw [if_neg h4] at hown
            by_cases h5 : k = 5
            · omega
            · rw [if_neg h5] at hown; simp at hown
  have hds0 : k ≠ 3 → ds = [] := fun h => List.length_eq_zero_iff.1 (by rcases b4 with b4 | b4 <;> omega)
  have hr0 : k ≠ 4 → k ≠ 5 → r0 = 0 ∧ r1 = 0 := fun h4 h5 => b3.elim (fun h => h.elim (fun h => absurd h h4) (fun h => absurd h h5)) (fun h => h)
  have hn0 : k ≠ 1 → n0 = 0 ∧ n1 = 0 := fun h => b2.elim (fun h1 => absurd h1 h) (fun h => h)
  have hval : k ≠ 0 → k ≠ 2 → k ≠ 4 → val.size ≤ 256 := fun h0 h2 h4 => by
    rcases b1 with b1 | b1
    · omega
    · rw [hval0 b1]; omega
  rcases hkk with rfl | rfl | rfl | rfl | rfl | rfl
  · simp at hown
    obtain ⟨rfl, rfl⟩ := hn0 (by decide); obtain ⟨rfl, rfl⟩ := hr0 (by decide) (by decide); obtain rfl := hds0 (by decide)
    exact ⟨by omega, by omega, by omega, hl, hv, by omega, by omega, by omega, by omega, hown, by omega, by omega, by simp, by simp⟩
  · simp [numB] at hown
    obtain ⟨rfl, rfl⟩ := hr0 (by decide) (by decide); obtain rfl := hds0 (by decide)
    exact ⟨by omega, by omega, by omega, hl, hv, by omega, by omega, by omega, by omega, hval (by decide) (by decide) (by decide), by omega, by omega, by simp, by simp⟩
  · simp at hown
    obtain ⟨rfl, rfl⟩ := hn0 (by decide); obtain ⟨rfl, rfl⟩ := hr0 (by decide) (by decide); obtain rfl := hds0 (by decide)
    exact ⟨by omega, by omega, by omega, hl, hv, by omega, by omega, by omega, by omega, hown, by omega, by omega, by simp, by simp⟩
  · simp only [show ¬ ((3 : Int) = 0 ∨ (3 : Int) = 2) by decide, show ¬ (3 : Int) = 1 by decide, if_false, if_true, dotsB, Bool.and_eq_true, decide_eq_true_eq] at hown
    obtain ⟨rfl, rfl⟩ := hn0 (by decide); obtain ⟨rfl, rfl⟩ := hr0 (by decide) (by decide)
    exact ⟨by omega, by omega, by omega, hl, hv, by omega, by omega, by omega, by omega, hval (by decide) (by decide) (by decide), by omega, by omega, hown.2, fun d hd => has_range hl hv (List.all_eq_true.1 hown.1.1 d hd)⟩
  · simp only [show ¬ ((4 : Int) = 0 ∨ (4 : Int) = 2) by decide, show ¬ (4 : Int) = 1 by decide, show ¬ (4 : Int) = 3 by decide, if_false, if_true, Bool.and_eq_true, Bool.or_eq_true, decide_eq_true_eq, beq_iff_eq] at hown
    obtain ⟨rfl, rfl⟩ := hn0 (by decide); obtain rfl := hds0 (by decide)
    have hr : 0 ≤ r0 ∧ r0 ≤ 15 ∧ 0 ≤ r1 ∧ r1 ≤ 1048575 := by
      rcases hown.2 with ⟨rfl, rfl⟩ | h
      · omega
      · have := has_range hl hv h; omega
    exact ⟨by omega, by omega, by omega, hl, hv, by omega, by omega, by omega, by omega, hown.1, by omega, hr, by simp, by simp⟩
  · simp only [show ¬ ((5 : Int) = 0 ∨ (5 : Int) = 2) by decide, show ¬ (5 : Int) = 1 by decide, show ¬ (5 : Int) = 3 by decide, show ¬ (5 : Int) = 4 by decide, if_false, if_true] at hown
    obtain ⟨rfl, rfl⟩ := hn0 (by decide); obtain rfl := hds0 (by decide)
    have hr := has_range hl hv hown
    exact ⟨by omega, by omega, by omega, hl, hv, by omega, by omega, by omega, by omega, hval (by decide) (by decide) (by decide), by omega, by omega, by simp, by simp⟩
def Wr (W : World) (g : Nat) (acc : List UInt8) : Prop := W.heap[g]? = some (.cells #[.string ⟨acc.toArray⟩] 47 (0, 0))
def WrPost (w : World) (g : Nat) (acc : List UInt8) : Ending → World → Prop := fun e w' => e = .returned (.tuple #[]) ∧ Wr w' g acc ∧ Chg (· = g) w w'
section
variable {w0 w : World} {g : Nat} {acc : List UInt8} {A : Option Addr} {c : Nat}
theorem wr_post {e : Ending} {w' : World} {acc' : List UInt8} (hB : Below w0.heap.size w0 w) (h : e = .returned (.tuple #[]) ∧ IsS47 w0 w' g ⟨acc'.toArray⟩ ∧ Below w0.heap.size w0 w' ∧ KeepBut w w' g none) : WrPost w g acc' e w' :=
  ⟨h.1, h.2.1.1, ⟨h.2.2.1.os.trans hB.os.symm, h.2.2.1.tape.trans hB.tape.symm, h.2.2.1.output.trans hB.output.symm, h.2.2.2.1, fun k hk hn => h.2.2.2.2 k hk hn (by simp)⟩⟩
theorem wr_num {xs : List Int} (hB : Below w0.heap.size w0 w) (hg : w0.heap.size ≤ g) (hW : Wr w g acc) (hC : Kd.C (Kd.int .i64) w A xs.length xs) (hc : xs.length ≤ c) (hf : ∀ ad, A = some ad → 0 < xs.length → ad.block ≠ g)
    (hx : ∀ x ∈ xs, numOk x) (hl : xs.length ≤ 1000) (ha : acc.length ≤ 1000000) : Calls Try.prog 16 #[.pointer (some ⟨g, 0, none⟩), .slice A xs.length c] w (WrPost w g (acc ++ pns xs)) := by
  obtain ⟨k, hk⟩ := (num_ev xs acc hx (by omega) (by omega)).rounds
  exact (op_writer_num.calls k g _ A c xs _ w0 w ⟨hW, hg⟩ hB hC hc hf hk).mono fun _ _ h => wr_post hB h
theorem wr_dot {a b : Int} (hB : Below w0.heap.size w0 w) (hg : w0.heap.size ≤ g) (hW : Wr w g acc) (h1 : numOk a) (h2 : numOk b) (ha : acc.length ≤ 1000000) :
    Calls Try.prog 15 #[.pointer (some ⟨g, 0, none⟩), .agg #[.int .i64 a, .int .i64 b]] w (WrPost w g (acc ++ (pn a.toNat ++ pn b.toNat))) := by
  obtain ⟨k, hk⟩ := (dotw_ev a b acc h1 h2 (by omega)).rounds
  exact (op_writer_dot.calls k g _ a b _ w0 w ⟨hW, hg⟩ hB hk).mono fun _ _ h => wr_post hB h
theorem wr_text {xs : List ByteArray} (hB : Below w0.heap.size w0 w) (hg : w0.heap.size ≤ g) (hW : Wr w g acc) (hC : Kd.C Kd.string w A xs.length xs) (hc : xs.length ≤ c) (hf : ∀ ad, A = some ad → 0 < xs.length → ad.block ≠ g)
    (hx : ∀ x ∈ xs, x.size ≤ 65536) (hl : xs.length ≤ 1000) (ha : acc.length ≤ 1000000) : Calls Try.prog 17 #[.pointer (some ⟨g, 0, none⟩), .slice A xs.length c] w (WrPost w g (acc ++ pts xs)) := by
  obtain ⟨k, hk⟩ := (text_ev xs acc hx hl (by omega)).rounds
  exact (op_writer_text.calls k g _ A c xs _ w0 w ⟨hW, hg⟩ hB hC hc hf hk).mono fun _ _ h => wr_post hB h
theorem wr_fold {a b : Int} (hB : Below w0.heap.size w0 w) (hg : w0.heap.size ≤ g) (hW : Wr w g acc) (hC : Kd.C (Kd.int .i64) w A 2 [a, b]) (hc : 2 ≤ c) (hf : ∀ ad, A = some ad → 0 < 2 → ad.block ≠ g)
    (h1 : -1099511627776 ≤ a ∧ a ≤ 1099511627776) (h2 : -1099511627776 ≤ b ∧ b ≤ 1099511627776) (ha : acc.length ≤ 1000000) :
    Calls Try.prog 18 #[.pointer (some ⟨g, 0, none⟩), .slice A 2 c] w (WrPost w g (acc ++ (pn (zz a).toNat ++ pn (zz b).toNat))) := by
  obtain ⟨k, hk⟩ := (fold_ev a b acc h1 h2 (by omega)).rounds
  exact (op_writer_fold.calls k g _ A c [a, b] _ w0 w ⟨hW, hg⟩ hB hC hc hf hk).mono fun _ _ h => wr_post hB h
theorem C_ints {b e : Nat} {xs : List Int} {cs : Array Value} {fr : Nat × Nat} (h : w.heap[b]? = some (.cells cs e fr)) (hcs : cs.toList = nums .i64 xs) (hl : xs.length ≤ 1000) : Kd.C (Kd.int .i64) w (some ⟨b, 0, none⟩) xs.length xs := by
  refine ⟨rfl, by omega, fun _ => ⟨⟨b, 0, none⟩, rfl, fun j p hj => ⟨[.int .i64 p], rfl, rfl, fun i u hu => ?_⟩⟩⟩
  have hi : i = 0 ∧ u = .int .i64 p := by cases i with | zero => exact ⟨rfl, by simpa using hu.symm⟩ | succ i => simp at hu
  obtain ⟨rfl, rfl⟩ := hi
  have hn : cs.toList[j * 1 + 0]? = some (.int .i64 p) := by rw [hcs]; unfold nums; rw [List.getElem?_map, Nat.mul_one, Nat.add_zero, hj]; rfl
  exact World.news_of_block h (j * 1 + 0) _ hn
theorem C_strs {b e : Nat} {xs : List ByteArray} {cs : Array Value} {fr : Nat × Nat} (h : w.heap[b]? = some (.cells cs e fr)) (hcs : cs.toList = xs.map .string) (hl : xs.length ≤ 1000) : Kd.C Kd.string w (some ⟨b, 0, none⟩) xs.length xs := by
  refine ⟨rfl, by omega, fun _ => ⟨⟨b, 0, none⟩, rfl, fun j p hj => ⟨[.string p], rfl, rfl, fun i u hu => ?_⟩⟩⟩
  have hi : i = 0 ∧ u = .string p := by cases i with | zero => exact ⟨rfl, by simpa using hu.symm⟩ | succ i => simp at hu
  obtain ⟨rfl, rfl⟩ := hi
  have hn : cs.toList[j * 1 + 0]? = some (.string p) := by rw [hcs, List.getElem?_map, Nat.mul_one, Nat.add_zero, hj]; rfl
  exact World.news_of_block h (j * 1 + 0) _ hn
theorem C_lt {xs : List Int} (h : Kd.C (Kd.int .i64) w A xs.length xs) : ∀ ad, A = some ad → 0 < xs.length → ad.block < w.heap.size := by
  intro ad hA hl
  obtain ⟨ad', e, hc⟩ := Kd.at_int h 0 (by omega) (by omega)
  rw [hA] at e; cases e
  have := World.block_lt_of_cell? w _ hc
  unfold Addr.add at this; split at this <;> simpa using this
end
end Go.Proofs.Ytaaaeonalomcgaa.Q
