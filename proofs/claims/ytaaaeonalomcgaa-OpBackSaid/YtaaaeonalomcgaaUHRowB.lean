/- Opening an operation that is an argument. No condition. -/
import Derived.Test.YtaaaeonalomcgaaUHBackW
import Derived.WalkKit
import Derived.ProofKit
import Derived.OpenShut
import Derived.ShutString
import Derived.ChangeOld
import Derived.Below
import Derived.SizedLaws
import Derived.Carry
import Derived.Deep.Slices
import Derived.Deep.Fields
import Derived.ChangeSame
set_option linter.unusedVariables false
set_option linter.unusedSimpArgs false
namespace Go.Proofs.Ytaaaeonalomcgaa.Q
open Go.RowKit Go.Proofs.YtaaaeonalomcgaaW.PrintWords Go.Proofs.YtaaaeonalomcgaaW.PrintLast Go.Proofs.YtaaaeonalomcgaaW.PrintMore Sp
open Go.ChangeShapes Go.WideShapes Go.ChangeAt Go.Deep
section
variable {H : Type} {enc : TypeId × Value → H} {W : World}
theorem k3 : Try.prog.cellsOf 3 = 1 := by kernel_rfl
theorem k9 : Try.prog.cellsOf 9 = 1 := by kernel_rfl
theorem kk23 : Try.prog.cellsOf 23 = 2 := by kernel_rfl
theorem k24 : Try.prog.cellsOf 24 = 1 := by kernel_rfl
theorem k26 : Try.prog.cellsOf 26 = 2 := by kernel_rfl
theorem k27 : Try.prog.cellsOf 27 = 1 := by kernel_rfl
theorem k29 : Try.prog.cellsOf 29 = 14 := by kernel_rfl
theorem open_int1 {n : Nat} {c : Value} {y : DataW H × List MemPlace} (h : DataW.trod enc Try.prog W 0 (fun _ => true) true n 3 [c] = some y) : ∃ x : Int, c = .int .i64 x := by
  obtain ⟨x, hc, _⟩ := DataW.trod_int Try.underlying3 h
  exact ⟨x, by simpa using hc⟩
theorem open_str1 {n : Nat} {c : Value} {y : DataW H × List MemPlace} (h : DataW.trod enc Try.prog W 0 (fun _ => true) true n 9 [c] = some y) : ∃ s : ByteArray, c = .string s := by
  obtain ⟨x, hc, _⟩ := DataW.trod_string Try.underlying9 h
  exact ⟨x, by simpa using hc⟩
theorem open_two {n : Nat} {t : TypeId} {f0 f1 : Field} (ht : Try.prog.underlying t = some (.struct #[f0, f1])) (h0 : f0.type = 3 ∧ f0.offset = 0) (h1 : f1.type = 3 ∧ f1.offset = 1) {c0 c1 : Value} {y : DataW H × List MemPlace}
    (h : DataW.trod enc Try.prog W 0 (fun _ => true) true n t [c0, c1] = some y) : ∃ a b : Int, c0 = .int .i64 a ∧ c1 = .int .i64 b := by
  obtain ⟨xs, m, _, _, _, hlen, hg⟩ := DataW.trod_struct ht h
  match xs, hlen with
  | [y0, y1], _ =>
    have g0 := hg 0 f0 rfl
    have g1 := hg 1 f1 rfl
    rw [h0.1, h0.2, k3] at g0
    rw [h1.1, h1.2, k3] at g1
    obtain ⟨a, ha⟩ := open_int1 (y := y0) (by simpa using g0)
    obtain ⟨b, hb⟩ := open_int1 (y := y1) (by simpa using g1)
    exact ⟨a, b, ha, hb⟩
theorem open_deps {n : Nat} {c : Value} {y : DataW H × List MemPlace} (h : DataW.trod enc Try.prog W 0 (fun _ => true) true n 24 [c] = some y) :
    ∃ (A : Option Addr) (l : List Int) (cap : Nat), c = .slice A l.length cap ∧ Kd.C (Kd.int .i64) W A l.length l ∧ l.length ≤ cap := by
  rcases open_ints Try.underlying24 Try.underlying3 k3 h with ⟨hcs, _⟩ | ⟨x, l, cp, zs, hcs, _, hl, hm, hz, _, hcell, hwz⟩
  · exact ⟨none, [], 0, by simpa using hcs, ⟨rfl, by simp, fun h => absurd h (Nat.lt_irrefl 0)⟩, Nat.le_refl _⟩
  · have hz' : zs.length = cp := by simpa using hz
    obtain ⟨l', e, h1, h2, h3, h4⟩ := ReadsInt.ofRowC (k := .i64) (w := W) (a := some x) (len := l) (cap := cp) (zs := zs) (.inr ⟨_, rfl, hl, hm, hz', hcell, hwz⟩)
    subst e
    exact ⟨some x, l', cp, by simpa using hcs, Kd.C_of_reads (d := (0 : Int)) (h1 := fun _ => rfl) h1, h4⟩
theorem open_dots {n : Nat} {c : Value} {y : DataW H × List MemPlace} (h : DataW.trod enc Try.prog W 0 (fun _ => true) true n 27 [c] = some y) :
    ∃ (B : Option Addr) (l : List (Int × Int)) (cap : Nat), c = .slice B (dS l).length cap ∧ Kd.C k23 W B (dS l).length (dS l) ∧ (dS l).length ≤ cap := by
  rcases open_slice Try.underlying27 h with ⟨hcs, _⟩ | ⟨x, len, cp, m, n', D, Pl, hcs, _, hl, hm, hmm, _, hel⟩
  · exact ⟨none, [], 0, by simpa [dS] using hcs, ⟨rfl, by simp [dS], fun h => absurd h (Nat.lt_irrefl 0)⟩, Nat.le_refl _⟩
  · have hmm' : m = cp := by simpa using hmm
    have hp : ∀ i, i < len → ∃ p : Int × Int, W.cell? (x.add (i * 2)) = some (.int .i64 p.1) ∧ W.cell? (x.add (i * 2 + 1)) = some (.int .i64 p.2) := by
      intro i hi
      obtain ⟨cs', hc, ht⟩ := hel i (by omega)
      rw [kk23] at hc
      obtain ⟨_, hcl, hat⟩ := World.cells?_some hc
      match cs', hcl with
      | [v0, v1], _ =>
        obtain ⟨a, b, rfl, rfl⟩ := open_two Try.underlying23 ⟨rfl, rfl⟩ ⟨rfl, rfl⟩ ht
        have q0 := hat 0 (by omega)
        have q1 := hat 1 (by omega)
        rw [Go.Deep.add_add] at q0 q1
        exact ⟨(a, b), by simpa using q0, by simpa using q1⟩
    have hlen : (dS ((List.range len).map fun i => if hi : i < len then (hp i hi).choose else (0, 0))).length = len := by simp [dS]
    refine ⟨some x, (List.range len).map fun i => if hi : i < len then (hp i hi).choose else (0, 0), cp, by rw [hlen]; simpa using hcs, ?_, by rw [hlen]; exact hl⟩
    refine ⟨rfl, by rw [hlen]; have : cp ≤ 9223372036854775807 := by simpa [maxLen] using hm
                    omega, fun _ => ⟨x, rfl, fun j p hj => ?_⟩⟩
    have hjl : j < len := by have := (List.getElem?_eq_some_iff.1 hj).1; omega
    have hs := (hp j hjl).choose_spec
    have hpp : p = ⟨(hp j hjl).choose.1, (hp j hjl).choose.2⟩ := by
      simp only [dS, List.map_map, List.getElem?_map, List.getElem?_range hjl] at hj
      simp [hjl] at hj
      exact hj.symm
    subst hpp
    refine ⟨_, rfl, Kd.K_of_M _ (k23_mkM W 0 (fun _ => True) _), fun i u hu => ?_⟩
    match i, hu with
    | 0, hu => cases hu; exact hs.1
    | 1, hu => cases hu; exact hs.2
    | i + 2, hu => simp at hu
theorem open_op {b0 : Nat} {v : Value} {d : DataW H} {ps : List MemPlace} (hv : Value.okWide Try.prog W .any b0 29 v) (h : DataW.Trod enc Try.prog W 0 (fun _ => true) true 29 v d ps) :
    ∃ (o : OpV) (A : Option Addr) (c : Nat) (B : Option Addr) (e : Nat), v = .agg #[.int .i64 o.d0, .int .i64 o.d1, .int .i64 o.t, .slice A o.deps.length c, .int .i64 o.k, .string (ba o.ty), .string (ba o.id), .string (ba o.fl), .string (ba o.val), .int .i64 o.n0, .int .i64 o.n1, .int .i64 o.r0, .int .i64 o.r1, .slice B (dS o.dots).length e] ∧ LO W o A c B e := by
  obtain ⟨cs, rfl, hsz⟩ := okWide_struct Try.underlying29 hv
  obtain ⟨l⟩ := cs
  match l, hsz.trans k29 with
  | [c0, c1, c2, c3, c4, c5, c6, c7, c8, c9, c10, c11, c12, c13], _ =>
    obtain ⟨fuel, hf⟩ := h
    obtain ⟨xs, n, _, _, _, hlen, hg⟩ := DataW.trod_struct Try.underlying29 hf
    match xs, hlen with
    | [y0, y1, y2, y3, y4, y5, y6, y7, y8, y9, y10], _ =>
      have g0 : DataW.trod enc Try.prog W 0 (fun _ => true) true n 23 [c0, c1] = some y0 := by simpa [Value.cells, k3, k9, kk23, k24, k26, k27] using hg 0 _ rfl
      have g1 : DataW.trod enc Try.prog W 0 (fun _ => true) true n 3 [c2] = some y1 := by simpa [Value.cells, k3, k9, kk23, k24, k26, k27] using hg 1 _ rfl
      have g2 : DataW.trod enc Try.prog W 0 (fun _ => true) true n 24 [c3] = some y2 := by simpa [Value.cells, k3, k9, kk23, k24, k26, k27] using hg 2 _ rfl
      have g3 : DataW.trod enc Try.prog W 0 (fun _ => true) true n 3 [c4] = some y3 := by simpa [Value.cells, k3, k9, kk23, k24, k26, k27] using hg 3 _ rfl
      have g4 : DataW.trod enc Try.prog W 0 (fun _ => true) true n 9 [c5] = some y4 := by simpa [Value.cells, k3, k9, kk23, k24, k26, k27] using hg 4 _ rfl
      have g5 : DataW.trod enc Try.prog W 0 (fun _ => true) true n 9 [c6] = some y5 := by simpa [Value.cells, k3, k9, kk23, k24, k26, k27] using hg 5 _ rfl
      have g6 : DataW.trod enc Try.prog W 0 (fun _ => true) true n 9 [c7] = some y6 := by simpa [Value.cells, k3, k9, kk23, k24, k26, k27] using hg 6 _ rfl
      have g7 : DataW.trod enc Try.prog W 0 (fun _ => true) true n 9 [c8] = some y7 := by simpa [Value.cells, k3, k9, kk23, k24, k26, k27] using hg 7 _ rfl
      have g8 : DataW.trod enc Try.prog W 0 (fun _ => true) true n 26 [c9, c10] = some y8 := by simpa [Value.cells, k3, k9, kk23, k24, k26, k27] using hg 8 _ rfl
      have g9 : DataW.trod enc Try.prog W 0 (fun _ => true) true n 23 [c11, c12] = some y9 := by simpa [Value.cells, k3, k9, kk23, k24, k26, k27] using hg 9 _ rfl
      have g10 : DataW.trod enc Try.prog W 0 (fun _ => true) true n 27 [c13] = some y10 := by simpa [Value.cells, k3, k9, kk23, k24, k26, k27] using hg 10 _ rfl
      obtain ⟨a0, a1, rfl, rfl⟩ := open_two Try.underlying23 ⟨rfl, rfl⟩ ⟨rfl, rfl⟩ g0
      obtain ⟨a2, rfl⟩ := open_int1 g1
      obtain ⟨A, l3, c, rfl, hC, hc⟩ := open_deps g2
      obtain ⟨a4, rfl⟩ := open_int1 g3
      obtain ⟨s5, rfl⟩ := open_str1 g4
      obtain ⟨s6, rfl⟩ := open_str1 g5
      obtain ⟨s7, rfl⟩ := open_str1 g6
      obtain ⟨s8, rfl⟩ := open_str1 g7
      obtain ⟨a9, a10, rfl, rfl⟩ := open_two Try.underlying26 ⟨rfl, rfl⟩ ⟨rfl, rfl⟩ g8
      obtain ⟨a11, a12, rfl, rfl⟩ := open_two Try.underlying23 ⟨rfl, rfl⟩ ⟨rfl, rfl⟩ g9
      obtain ⟨B, l13, e, rfl, hC', hc'⟩ := open_dots g10
      exact ⟨{ d0 := a0, d1 := a1, t := a2, deps := l3, k := a4, ty := bs s5, id := bs s6, fl := bs s7, val := bs s8, n0 := a9, n1 := a10, r0 := a11, r1 := a12, dots := l13 }, A, c, B, e, rfl, ⟨⟨rfl, rfl⟩, ⟨hC, hc⟩, ⟨hC', hc'⟩⟩⟩
end
end Go.Proofs.Ytaaaeonalomcgaa.Q
