/- What OpParts answers: true, whatever it is given. No condition. -/
import Derived.Test.YtaaaeonalomcgaaUHForms
import Derived.BigRegion
set_option linter.unusedVariables false
set_option linter.unusedSimpArgs false
namespace Go.Proofs.Ytaaaeonalomcgaa.Q
open Go.RowKit Go.Proofs.YtaaaeonalomcgaaW.PrintWords Go.Proofs.YtaaaeonalomcgaaW.PrintLast Go.Proofs.YtaaaeonalomcgaaW.PrintMore Sp

theorem bad_bare {d0 d1 t : Int} {deps : List Int} {k : Int} {ty id_ fl val : ByteArray} {n0 n1 r0 r1 : Int} {ds : List S23} {n : Int} (h : bareB k val n0 n1 r0 r1 ds.length = false) : mayB d0 d1 t deps k ty id_ fl val n0 n1 r0 r1 ds n = false := by unfold mayB; simp [h]
theorem oneK_any (k : Int) (w : World) : Calls Try.prog 13 #[.int .i64 k] w fun e w' => ∃ (A : Option Addr) (c : Nat) (B : Option Addr) (d : Nat), e = .returned (.agg #[.int .i64 (oneV k).d0, .int .i64 (oneV k).d1, .int .i64 (oneV k).t, .slice A (oneV k).deps.length c, .int .i64 (oneV k).k, .string (ba (oneV k).ty), .string (ba (oneV k).id), .string (ba (oneV k).fl), .string (ba (oneV k).val), .int .i64 (oneV k).n0, .int .i64 (oneV k).n1, .int .i64 (oneV k).r0, .int .i64 (oneV k).r1, .slice B (dS (oneV k).dots).length d]) ∧
    Kd.R (Kd.int .i64) 3 w' w.heap.size (fun _ => True) (.slice A (oneV k).deps.length c) (oneV k).deps ∧ Kd.R k23 23 w' w.heap.size (fun _ => True) (.slice B (dS (oneV k).dots).length d) (dS (oneV k).dots) ∧ Below w.heap.size w w' :=
  (one_any k w).mono fun e w' ⟨v3, v13, he, h3, h13, hb⟩ => by
    obtain ⟨A, c, rfl, hl, hC⟩ := Kd.R_reads h3
    obtain ⟨B, d, rfl, hl', hC'⟩ := Kd.R_reads h13
    exact ⟨A, c, B, d, he, h3, h13, hb⟩
theorem lists_R {w : World} {base base' : Nat} {ok ok' : Nat → Prop} {A B : Option Addr} {n m c d : Nat} {deps : List Int} {ds : List S23} (hn : n = deps.length) (hm : m = ds.length)
    (h3 : Kd.R (Kd.int .i64) 3 w base ok (.slice A n c) deps) (h13 : Kd.R k23 23 w base' ok' (.slice B m d) ds) : Lists w A n c deps B m d ds := by
  subst hn hm
  obtain ⟨A', c', he, hl, hC⟩ := Kd.R_reads h3
  obtain ⟨B', d', he', hl', hC'⟩ := Kd.R_reads h13
  cases he; cases he'
  exact ⟨⟨rfl, rfl⟩, ⟨hC, hl⟩, ⟨hC', hl'⟩⟩
theorem oneV_may (k : Int) (h0 : 0 ≤ k) (h5 : k ≤ 5) : (oneV k).may 2 = true := by
  obtain rfl | rfl | rfl | rfl | rfl | rfl : k = 0 ∨ k = 1 ∨ k = 2 ∨ k = 3 ∨ k = 4 ∨ k = 5 := by omega
  all_goals decide +kernel
theorem rest12 (a : Int) : 0 ≤ (IntKind.u64.wrap a).tmod 12 ∧ (IntKind.u64.wrap a).tmod 12 < 12 := by
  have e : Int.tmod (IntKind.u64.wrap a) 12 = (IntKind.u64.wrap a) % 12 := by rw [IntKind.wrap_u64]; exact tmod_of_emod _ _
  rw [e]; omega
abbrev kindsL : List Int := [4, 4, 4, 5, 5, 1, 3, 3, 0, 3, 3, 2]
theorem kinds_at (w : World) (m : Int) (h0 : 0 ≤ m) (h1 : m < 12) : (w.alloc (.cells #[.int .i64 4, .int .i64 4, .int .i64 4, .int .i64 5, .int .i64 5, .int .i64 1, .int .i64 3, .int .i64 3, .int .i64 0, .int .i64 3, .int .i64 3, .int .i64 2] 3)).cell? ⟨w.heap.size, m.toNat, none⟩ = some (.int .i64 (rd kindsL m)) ∧ 0 ≤ rd kindsL m ∧ rd kindsL m ≤ 5 := by
  have hb := heap_alloc_new w (.cells #[.int .i64 4, .int .i64 4, .int .i64 4, .int .i64 5, .int .i64 5, .int .i64 1, .int .i64 3, .int .i64 3, .int .i64 0, .int .i64 3, .int .i64 3, .int .i64 2] 3)
  obtain rfl | rfl | rfl | rfl | rfl | rfl | rfl | rfl | rfl | rfl | rfl | rfl : m = 0 ∨ m = 1 ∨ m = 2 ∨ m = 3 ∨ m = 4 ∨ m = 5 ∨ m = 6 ∨ m = 7 ∨ m = 8 ∨ m = 9 ∨ m = 10 ∨ m = 11 := by omega
  all_goals exact ⟨(blk_cell hb _).trans rfl, by decide, by decide⟩
theorem dots2_C {w : World} {g : Nat} {a b x y : Int} (h0 : w.cell? ⟨g, 0, none⟩ = some (.int .i64 a)) (h1 : w.cell? ⟨g, 1, none⟩ = some (.int .i64 b)) (h2 : w.cell? ⟨g, 2, none⟩ = some (.int .i64 x)) (h3 : w.cell? ⟨g, 3, none⟩ = some (.int .i64 y)) :
    Kd.C k23 w (some ⟨g, 0, none⟩) 2 [⟨a, b⟩, ⟨x, y⟩] := by
  refine ⟨rfl, by decide, fun _ => ⟨_, rfl, fun j p hp => ?_⟩⟩
  match j, hp with
  | 0, hp =>
    cases hp
    refine ⟨[.int .i64 a, .int .i64 b], rfl, Kd.K_of_M _ (k23_mkM w 0 (fun _ => True) ⟨a, b⟩), fun i u hu => ?_⟩
    match i, hu with
    | 0, hu => cases hu; exact h0
    | 1, hu => cases hu; exact h1
    | i + 2, hu => simp at hu
  | 1, hp =>
    cases hp
    refine ⟨[.int .i64 x, .int .i64 y], rfl, Kd.K_of_M _ (k23_mkM w 0 (fun _ => True) ⟨x, y⟩), fun i u hu => ?_⟩
    match i, hu with
    | 0, hu => cases hu; exact h2
    | 1, hu => cases hu; exact h3
    | i + 2, hu => simp at hu
  | j + 2, hp => simp at hp
theorem dots2_own {w : World} {base : Nat} {ok : Nat → Prop} {B : Option Addr} {dd : Nat} (h : Kd.R k23 23 w base ok (.slice B 2 dd) [⟨0, 4⟩, ⟨1, 2⟩]) :
    ∃ g cur, B = some ⟨g, 0, none⟩ ∧ base ≤ g ∧ w.heap[g]? = some (.cells cur 23 (0, 0)) ∧ 2 ≤ dd ∧ cur[0]? = some (.int .i64 0) ∧ cur[1]? = some (.int .i64 4) ∧ cur[2]? = some (.int .i64 1) ∧ cur[3]? = some (.int .i64 2) := by
  obtain ⟨_, inner, ho, hr⟩ := h
  have hi : inner = [.int .i64 0, .int .i64 4, .int .i64 1, .int .i64 2] := by
    have q0 := hr.2 0 _ rfl
    have q1 := hr.2 1 _ rfl
    have q0' := k23_openM q0
    have q1' := k23_openM q1
    have hl : inner.length = 4 := hr.1
    match inner, hl with
    | [x0, x1, x2, x3], _ => simp [k23, Kd.iso, Kd.pair, Kd.int, Kd.scalar] at q0' q1'; simp [q0', q1']
  subst hi
  rcases ho.2 with ⟨he, h0⟩ | ⟨g, cap, cur, he, hb, hh, h1, _, _, ht⟩
  · cases he
  · cases he
    refine ⟨g, cur, rfl, hb, hh, h1, ?_, ?_, ?_, ?_⟩
    all_goals
      rw [← Array.getElem?_toList]
      have ht' : List.take 4 cur.toList = _ := ht
    · have := congrArg (fun l => l[0]?) ht'; simpa using this
    · have := congrArg (fun l => l[1]?) ht'; simpa using this
    · have := congrArg (fun l => l[2]?) ht'; simpa using this
    · have := congrArg (fun l => l[3]?) ht'; simpa using this
theorem dots_zero (m : Nat) (hm : 0 < m) (v : List Int) : dotsB (List.replicate m (⟨0, 0⟩ : S23)) v = false := by
  cases m with
  | zero => omega
  | succ m =>
    have h : hasB v 0 0 = false := decide_eq_false (by omega)
    unfold dotsB
    rw [List.replicate_succ, List.all_cons]
    simp [h]
theorem own3 {val : ByteArray} {n0 n1 r0 r1 : Int} {ds : List S23} {deps : List Int} (h : dotsB ds deps = false) : ownB 3 val n0 n1 r0 r1 ds deps = false := by
  unfold ownB; rw [if_neg (by decide), if_neg (by decide), if_pos rfl]; exact h
theorem R3_set {w : World} {base : Nat} {ok : Nat → Prop} {v : Value} {xs : List Int} (h : Kd.R (Kd.int .i64) 3 w base ok v xs) {o : Nat} {cells : Array Value} (hb : w.heap[o]? = some (.cells cells 29 (0, 0))) (i : Nat) (u : Value) : Kd.R (Kd.int .i64) 3 (w.setCell ⟨o, i, none⟩ u) base ok v xs :=
  Kd.R_set h hb (by intro q hq; simp [Kd.int, Kd.scalar] at hq; omega) i u
theorem R23_set {w : World} {base : Nat} {ok : Nat → Prop} {v : Value} {xs : List S23} (h : Kd.R k23 23 w base ok v xs) {o : Nat} {cells : Array Value} (hb : w.heap[o]? = some (.cells cells 29 (0, 0))) (i : Nat) (u : Value) : Kd.R k23 23 (w.setCell ⟨o, i, none⟩ u) base ok v xs :=
  Kd.R_set h hb (by intro q hq; simp [k23, Kd.iso, Kd.pair, Kd.int, Kd.scalar] at hq; omega) i u

set_option maxHeartbeats 8000000 in
set_option maxRecDepth 100000 in
theorem parts_any (a0 a1 : Int) (w : World) : Calls Try.prog 6 #[.int .i64 a0, .int .i64 a1] w fun e w' => e = .returned (.bool true) ∧ Below w.heap.size w w' := by
  go_enter Try.func6, Try.ntmps6
  go_wp2_with fail
  refine (awake_any _).mono ?_
  rintro e w1 ⟨rfl, hb1⟩
  have BB1 := Aside0.mk hb1; clear hb1
  go_upto_region 6 with fail
  obtain ⟨hm0, hm1⟩ := rest12 a0
  obtain ⟨hb0, hb1⟩ := mask63 a1
  have hw1 : wrap64 (1 + Go.bits .and .i64 a1 63) = 1 + Go.bits .and .i64 a1 63 := w64 (by omega) (by omega)
  have hw2 : wrap64 ((IntKind.u64.wrap a0).tmod 12) = (IntKind.u64.wrap a0).tmod 12 := w64 (by omega) (by omega)
  (try rw [hw1])
  (try rw [hw2])
  clear hw1 hw2
  obtain ⟨d, hd⟩ : ∃ d, d = 1 + Go.bits .and .i64 a1 63 := ⟨_, rfl⟩
  rw [← hd]
  have hd1 : 1 ≤ d := by omega
  have hd2 : d ≤ 64 := by omega
  clear hd
  generalize Go.bits .and .i64 a1 63 = b
  generalize (IntKind.u64.wrap a0).tmod 12 = m at hm0 hm1 ⊢
  clear hb0 hb1
  obtain ⟨hcell, hk0, hk5⟩ := kinds_at w1 m hm0 hm1
  obtain ⟨kk, hkk⟩ : ∃ kk, kk = rd kindsL m := ⟨_, rfl⟩
  rw [← hkk] at hcell hk0 hk5
  have hmay := oneV_may kk hk0 hk5
  have HKK := Aside0.mk hkk; have HMAY := Aside0.mk hmay; clear hkk hmay hk0 hk5
  have hb2 := below_alloc BB1.out (.cells #[.int .i64 4, .int .i64 4, .int .i64 4, .int .i64 5, .int .i64 5, .int .i64 1, .int .i64 3, .int .i64 3, .int .i64 0, .int .i64 3, .int .i64 3, .int .i64 2] 3)
  generalize w1.alloc (.cells #[.int .i64 4, .int .i64 4, .int .i64 4, .int .i64 5, .int .i64 5, .int .i64 1, .int .i64 3, .int .i64 3, .int .i64 0, .int .i64 3, .int .i64 3, .int .i64 2] 3) = w2 at hcell hb2 ⊢
  generalize w1.heap.size = bk at hcell ⊢
  have BB2 := Aside0.mk hb2; clear hb2 BB1
  go_wp2_with fail
  refine (oneK_any kk _).mono ?_
  rintro e w3 ⟨A, c, B, dd, rfl, h3, h13, hb3⟩
  have BB3 := Aside0.mk (below_step BB2.out hb3); have R3 := Aside0.mk (Kd.R_lower h3 BB2.out.size); have R13 := Aside0.mk (Kd.R_lower h13 BB2.out.size); clear h3 h13 hb3 hcell
  have GO' : Aside0 (w.heap.size ≤ w3.heap.size) := ⟨BB3.out.size⟩
  go_wp2_with (first | (refine wpList_store_row rfl 29 _ _ rfl w3.heap.size _ rfl rfl 29 _ (heap_alloc_new w3 _) (by kernel_rfl) (by rfl) (by simp [Value.oneCell']) ?_; obtain ⟨o, ho⟩ : ∃ o, o = w3.heap.size := ⟨_, rfl⟩; rw [← ho] at GO'; have hN4 := fun cs => new_row w3 cs; rw [← ho] at hN4 ⊢; generalize hW4 : (w3.alloc (Obj.cells #[.int .i64 0, .int .i64 0, .int .i64 0, .slice none 0 0, .int .i64 0, .string ⟨#[]⟩, .string ⟨#[]⟩, .string ⟨#[]⟩, .string ⟨#[]⟩, .int .i64 0, .int .i64 0, .int .i64 0, .int .i64 0, .slice none 0 0] 29)).setRow o #[.int .i64 (oneV kk).d0, .int .i64 (oneV kk).d1, .int .i64 (oneV kk).t, .slice A (oneV kk).deps.length c, .int .i64 (oneV kk).k, .string (ba (oneV kk).ty), .string (ba (oneV kk).id), .string (ba (oneV kk).fl), .string (ba (oneV kk).val), .int .i64 (oneV kk).n0, .int .i64 (oneV kk).n1, .int .i64 (oneV kk).r0, .int .i64 (oneV kk).r1, .slice B (dS (oneV kk).dots).length dd] = w4; have h4 := hN4 #[.int .i64 (oneV kk).d0, .int .i64 (oneV kk).d1, .int .i64 (oneV kk).t, .slice A (oneV kk).deps.length c, .int .i64 (oneV kk).k, .string (ba (oneV kk).ty), .string (ba (oneV kk).id), .string (ba (oneV kk).fl), .string (ba (oneV kk).val), .int .i64 (oneV kk).n0, .int .i64 (oneV kk).n1, .int .i64 (oneV kk).r0, .int .i64 (oneV kk).r1, .slice B (dS (oneV kk).dots).length dd]; rw [hW4] at h4; have h42 : Below w3.heap.size w3 w4 := (by have := h4.2; rwa [ho] at this); have P4 : Aside0 (IsOp w4 o (oneV kk).d0 (oneV kk).d1 (oneV kk).t (.slice A (oneV kk).deps.length c) (oneV kk).k (ba (oneV kk).ty) (ba (oneV kk).id) (ba (oneV kk).fl) (ba (oneV kk).val) (oneV kk).n0 (oneV kk).n1 (oneV kk).r0 (oneV kk).r1 (.slice B (dS (oneV kk).dots).length dd)) := ⟨h4.1⟩; have BB4 := Aside0.mk (below_step BB3.out h42); have R34 := Aside0.mk (Kd.R_below R3.out h42); have R134 := Aside0.mk (Kd.R_below R13.out h42); have GO := GO'; clear hN4 hW4 h4 h42 ho GO' R3 R13) | (refine wpList_load_row rfl 29 _ rfl o rfl 29 _ (0, 0) _ P4.out Try.underlying29 rfl (by kernel_rfl) ?_) | fail "arm")
  refine (may_at (b := true) (ds := dS (oneV kk).dots) (lists_R rfl rfl R34.out R134.out) HMAY.out).mono ?_
  rintro e w5 ⟨rfl, hb5⟩
  have P5 := Aside0.mk (blk_below P4.out hb5); have BB5 := Aside0.mk (below_step BB4.out hb5); have R35 := Aside0.mk (Kd.R_below R34.out hb5); have R135 := Aside0.mk (Kd.R_below R134.out hb5)
  clear hb5 P4 BB4 R34 R134 BB3 BB2
  go_upto_block 0 with fail
  go_cut [] (fun wx => Aside0 (BadAt wx o) ∧ Aside0 (Below w.heap.size w wx))
  case first =>
    have hm : m = 0 ∨ m = 1 ∨ m = 2 ∨ m = 3 ∨ m = 4 ∨ m = 5 ∨ m = 6 ∨ m = 7 ∨ m = 8 ∨ m = 9 ∨ m = 10 ∨ m = 11 := by omega
    clear hm0 hm1
    rcases hm with rfl | rfl | rfl | rfl | rfl | rfl | rfl | rfl | rfl | rfl | rfl | rfl
    · obtain rfl : kk = 4 := HKK.out
      have P6 : Aside0 (IsOp w5 o 1 3 9 (.slice A 2 c) 4 ⟨#[84]⟩ ⟨#[105]⟩ ⟨#[102]⟩ ⟨#[118]⟩ 0 0 0 1 (.slice B 0 dd)) := ⟨P5.out⟩
      have R3 : Aside0 (Kd.R (Kd.int .i64) 3 w5 w.heap.size (fun _ => True) (.slice A 2 c) [4, 2]) := ⟨R35.out⟩
      have R13 : Aside0 (Kd.R k23 23 w5 w.heap.size (fun _ => True) (.slice B 0 dd) []) := ⟨R135.out⟩
      clear P5 R35 R135 HKK HMAY
      have hf9 := blk_frozen P6.out 9
      have hc9 := (blk_cell P6.out 9).trans rfl
      go_wp2_with fail
      go_meet
      case rel => exact ⟨⟨1, 3, 9, A, 2, c, [4, 2], 4, ⟨#[84]⟩, ⟨#[105]⟩, ⟨#[102]⟩, ⟨#[118]⟩, d, 0, 0, 1, B, 0, dd, [], (blk_put P6.out 9 _ rfl), lists_R rfl rfl (R3_set R3.out P6.out 9 _) (R23_set R13.out P6.out 9 _), bad_bare (by simp [bareB]; omega)⟩, ⟨(Below.setCell BB5.out (p := ⟨o, 9, none⟩) GO.out _)⟩⟩
    · obtain rfl : kk = 4 := HKK.out
      have P6 : Aside0 (IsOp w5 o 1 3 9 (.slice A 2 c) 4 ⟨#[84]⟩ ⟨#[105]⟩ ⟨#[102]⟩ ⟨#[118]⟩ 0 0 0 1 (.slice B 0 dd)) := ⟨P5.out⟩
      have R3 : Aside0 (Kd.R (Kd.int .i64) 3 w5 w.heap.size (fun _ => True) (.slice A 2 c) [4, 2]) := ⟨R35.out⟩
      have R13 : Aside0 (Kd.R k23 23 w5 w.heap.size (fun _ => True) (.slice B 0 dd) []) := ⟨R135.out⟩
      clear P5 R35 R135 HKK HMAY
      go_wp2_with (first | ((with_reducible refine gate_dst (N := 42) rfl ?_); refine Kd.R_lit k23 (w0 := w5) w5.heap.size 23 ?hg (N := 42) ?hd (xs := ([(⟨0, 1⟩ : S23)] : List S23)) (inner := [.int .i64 0, .int .i64 1]) (ok := fun _ => True) (okp := fun _ => True) ?hr ?hp (fun _ hk => hk) trivial (Below.refl _ _) (Nat.le_refl _) (by simp) ?_; (case hd => rfl); (case hg => rfl); (case hr => first | (go_simp; done) | (go_simp; rfl)); (case hp => exact (Reps.c2 (show Kd.M k23 _ _ _ (⟨0, 1⟩ : S23) [.int .i64 0, .int .i64 1] from (k23_mkM _ _ _ _)) (Reps.none _ _))); intro v6 w6 ho6 hb6 hg6 hat6; obtain ⟨A6, c6, rfl, hl6, hC6⟩ := Kd.R_reads ho6; (try rw [List.length_replicate] at ho6); have hP7 := blk_below P6.out hb6; have hf := blk_frozen hP7 13; have hc := (blk_cell hP7 13).trans rfl; have P7 := Aside0.mk hP7; have R36 := Aside0.mk (Kd.R_below R3.out hb6); have R136 := Aside0.mk ho6; have BB6 := Aside0.mk (below_step BB5.out hb6); clear hP7 ho6 hb6 hg6 hat6 hl6 hC6) | fail "arm")
      go_meet
      case rel => exact ⟨⟨1, 3, 9, A, 2, c, [4, 2], 4, ⟨#[84]⟩, ⟨#[105]⟩, ⟨#[102]⟩, ⟨#[118]⟩, 0, 0, 0, 1, A6, 1, c6, [(⟨0, 1⟩ : S23)], blk_put P7.out 13 _ rfl, lists_R rfl (by simp) (R3_set R36.out P7.out 13 _) (R23_set R136.out P7.out 13 _), bad_bare (by decide +kernel)⟩, ⟨Below.setCell BB6.out (p := ⟨o, 13, none⟩) GO.out _⟩⟩
    · obtain rfl : kk = 4 := HKK.out
      have P6 : Aside0 (IsOp w5 o 1 3 9 (.slice A 2 c) 4 ⟨#[84]⟩ ⟨#[105]⟩ ⟨#[102]⟩ ⟨#[118]⟩ 0 0 0 1 (.slice B 0 dd)) := ⟨P5.out⟩
      have R3 : Aside0 (Kd.R (Kd.int .i64) 3 w5 w.heap.size (fun _ => True) (.slice A 2 c) [4, 2]) := ⟨R35.out⟩
      have R13 : Aside0 (Kd.R k23 23 w5 w.heap.size (fun _ => True) (.slice B 0 dd) []) := ⟨R135.out⟩
      clear P5 R35 R135 HKK HMAY
      have hf11 := blk_frozen P6.out 11
      have hc11 := (blk_cell P6.out 11).trans rfl
      have hf12 := blk_frozen P6.out 12
      have hc12 := (blk_cell P6.out 12).trans rfl
      go_wp2_with fail
      go_meet
      case rel => exact ⟨⟨1, 3, 9, A, 2, c, [4, 2], 4, ⟨#[84]⟩, ⟨#[105]⟩, ⟨#[102]⟩, ⟨#[118]⟩, 0, 0, 0, (4 + d), B, 0, dd, [], (blk_put (blk_put P6.out 11 _ rfl) 12 _ rfl), lists_R rfl rfl (R3_set (R3_set R3.out P6.out 11 _) (blk_put P6.out 11 _ rfl) 12 _) (R23_set (R23_set R13.out P6.out 11 _) (blk_put P6.out 11 _ rfl) 12 _), bad_own (by simp [ownB, hasB, rd]; omega)⟩, ⟨(Below.setCell (Below.setCell BB5.out (p := ⟨o, 11, none⟩) GO.out _) (p := ⟨o, 12, none⟩) GO.out _)⟩⟩
    · obtain rfl : kk = 5 := HKK.out
      have P6 : Aside0 (IsOp w5 o 1 3 9 (.slice A 2 c) 5 ⟨#[84]⟩ ⟨#[105]⟩ ⟨#[102]⟩ ⟨#[]⟩ 0 0 0 1 (.slice B 0 dd)) := ⟨P5.out⟩
      have R3 : Aside0 (Kd.R (Kd.int .i64) 3 w5 w.heap.size (fun _ => True) (.slice A 2 c) [4, 2]) := ⟨R35.out⟩
      have R13 : Aside0 (Kd.R k23 23 w5 w.heap.size (fun _ => True) (.slice B 0 dd) []) := ⟨R135.out⟩
      clear P5 R35 R135 HKK HMAY
      have hf11 := blk_frozen P6.out 11
      have hc11 := (blk_cell P6.out 11).trans rfl
      have hf12 := blk_frozen P6.out 12
      have hc12 := (blk_cell P6.out 12).trans rfl
      go_wp2_with fail
      go_meet
      case rel => exact ⟨⟨1, 3, 9, A, 2, c, [4, 2], 5, ⟨#[84]⟩, ⟨#[105]⟩, ⟨#[102]⟩, ⟨#[]⟩, 0, 0, 0, 0, B, 0, dd, [], (blk_put (blk_put P6.out 11 _ rfl) 12 _ rfl), lists_R rfl rfl (R3_set (R3_set R3.out P6.out 11 _) (blk_put P6.out 11 _ rfl) 12 _) (R23_set (R23_set R13.out P6.out 11 _) (blk_put P6.out 11 _ rfl) 12 _), bad_own (by decide +kernel)⟩, ⟨(Below.setCell (Below.setCell BB5.out (p := ⟨o, 11, none⟩) GO.out _) (p := ⟨o, 12, none⟩) GO.out _)⟩⟩
    · obtain rfl : kk = 5 := HKK.out
      have P6 : Aside0 (IsOp w5 o 1 3 9 (.slice A 2 c) 5 ⟨#[84]⟩ ⟨#[105]⟩ ⟨#[102]⟩ ⟨#[]⟩ 0 0 0 1 (.slice B 0 dd)) := ⟨P5.out⟩
      have R3 : Aside0 (Kd.R (Kd.int .i64) 3 w5 w.heap.size (fun _ => True) (.slice A 2 c) [4, 2]) := ⟨R35.out⟩
      have R13 : Aside0 (Kd.R k23 23 w5 w.heap.size (fun _ => True) (.slice B 0 dd) []) := ⟨R135.out⟩
      clear P5 R35 R135 HKK HMAY
      have hf8 := blk_frozen P6.out 8
      have hc8 := (blk_cell P6.out 8).trans rfl
      go_wp2_with fail
      go_meet
      case rel => exact ⟨⟨1, 3, 9, A, 2, c, [4, 2], 5, ⟨#[84]⟩, ⟨#[105]⟩, ⟨#[102]⟩, ⟨#[120]⟩, 0, 0, 0, 1, B, 0, dd, [], (blk_put P6.out 8 _ rfl), lists_R rfl rfl (R3_set R3.out P6.out 8 _) (R23_set R13.out P6.out 8 _), bad_bare (by decide +kernel)⟩, ⟨(Below.setCell BB5.out (p := ⟨o, 8, none⟩) GO.out _)⟩⟩
    · obtain rfl : kk = 1 := HKK.out
      have P6 : Aside0 (IsOp w5 o 1 3 9 (.slice A 2 c) 1 ⟨#[84]⟩ ⟨#[105]⟩ ⟨#[102]⟩ ⟨#[]⟩ (-2) 3 0 0 (.slice B 0 dd)) := ⟨P5.out⟩
      have R3 : Aside0 (Kd.R (Kd.int .i64) 3 w5 w.heap.size (fun _ => True) (.slice A 2 c) [4, 2]) := ⟨R35.out⟩
      have R13 : Aside0 (Kd.R k23 23 w5 w.heap.size (fun _ => True) (.slice B 0 dd) []) := ⟨R135.out⟩
      clear P5 R35 R135 HKK HMAY
      have hf10 := blk_frozen P6.out 10
      have hc10 := (blk_cell P6.out 10).trans rfl
      go_wp2_with fail
      go_meet
      case rel => exact ⟨⟨1, 3, 9, A, 2, c, [4, 2], 1, ⟨#[84]⟩, ⟨#[105]⟩, ⟨#[102]⟩, ⟨#[]⟩, (-2), (1099511627776 + d), 0, 0, B, 0, dd, [], (blk_put P6.out 10 _ rfl), lists_R rfl rfl (R3_set R3.out P6.out 10 _) (R23_set R13.out P6.out 10 _), bad_own (by simp [ownB, numB]; omega)⟩, ⟨(Below.setCell BB5.out (p := ⟨o, 10, none⟩) GO.out _)⟩⟩
    · obtain rfl : kk = 3 := HKK.out
      have P6 : Aside0 (IsOp w5 o 1 3 9 (.slice A 2 c) 3 ⟨#[84]⟩ ⟨#[105]⟩ ⟨#[102]⟩ ⟨#[]⟩ 0 0 0 0 (.slice B 2 dd)) := ⟨P5.out⟩
      have R3 : Aside0 (Kd.R (Kd.int .i64) 3 w5 w.heap.size (fun _ => True) (.slice A 2 c) [4, 2]) := ⟨R35.out⟩
      have R13 : Aside0 (Kd.R k23 23 w5 w.heap.size (fun _ => True) (.slice B 2 dd) [⟨0, 4⟩, ⟨1, 2⟩]) := ⟨R135.out⟩
      clear P5 R35 R135 HKK HMAY
      obtain ⟨g, cur, rfl, hbg, hh, hdd, q0, q1, q2, q3⟩ := dots2_own R13.out
      have hng : g ≠ o := fun e => by subst e; have := hh.symm.trans P6.out; simp at this
      have hc := (blk_cell P6.out 13).trans rfl
      have hf2 := blk_frozen hh 2
      have hf3 := blk_frozen hh 3
      have hc0 := (blk_cell hh 0).trans q0
      have hc1 := (blk_cell hh 1).trans q1
      have hc2 := (blk_cell hh 2).trans q2
      have hc3 := (blk_cell hh 3).trans q3
      have HH := Aside0.mk hh; have HQ0 := Aside0.mk q0; have HQ1 := Aside0.mk q1; have HQ2 := Aside0.mk q2; have HQ3 := Aside0.mk q3; have HNG := Aside0.mk hng; have HBG := Aside0.mk hbg; clear hh q0 q1 q2 q3 hng hbg
      go_upto_region 23 with fail
      go_region
      go_wp2
      go_meet
      case rel =>
        have hh1 := blk_put HH.out 2 (.int .i64 0) rfl
        have hh2 := blk_put hh1 3 (.int .i64 4) rfl
        have s3 := (Array.getElem?_eq_some_iff.1 HQ3.out).1
        have s2 := (Array.getElem?_eq_some_iff.1 HQ2.out).1
        have hC : Kd.C k23 ((w5.setCell ⟨g, 2, none⟩ (.int .i64 0)).setCell ⟨g, 3, none⟩ (.int .i64 4)) (some ⟨g, 0, none⟩) 2 [⟨0, 4⟩, ⟨0, 4⟩] :=
          dots2_C ((blk_cell hh2 0).trans (by simp [Array.getElem?_setIfInBounds, HQ0.out])) ((blk_cell hh2 1).trans (by simp [Array.getElem?_setIfInBounds, HQ1.out])) ((blk_cell hh2 2).trans (by simp [Array.getElem?_setIfInBounds, s2])) ((blk_cell hh2 3).trans (by simp [Array.getElem?_setIfInBounds, s3]))
        obtain ⟨A', c', he', hl', hC'⟩ := Kd.R_reads (Kd.R_set (Kd.R_set R3.out HH.out (by intro q hq; simp [Kd.int, Kd.scalar] at hq; omega) 2 (.int .i64 0)) hh1 (by intro q hq; simp [Kd.int, Kd.scalar] at hq; omega) 3 (.int .i64 4))
        cases he'
        exact ⟨⟨1, 3, 9, A, 2, c, [4, 2], 3, ⟨#[84]⟩, ⟨#[105]⟩, ⟨#[102]⟩, ⟨#[]⟩, 0, 0, 0, 0, (some ⟨g, 0, none⟩), 2, dd, [⟨0, 4⟩, ⟨0, 4⟩], blk_drew (blk_far (blk_far P6.out (p := ⟨g, 2, none⟩) (fun e => HNG.out e.symm) _) (p := ⟨g, 3, none⟩) (fun e => HNG.out e.symm) _), ⟨⟨rfl, rfl⟩, ⟨Kd.C_below hC' (Below.refl _ _).drew, hl'⟩, ⟨Kd.C_below hC (Below.refl _ _).drew, hdd⟩⟩, bad_own (own3 (by decide +kernel))⟩, ⟨(Below.setCell (Below.setCell BB5.out (p := ⟨g, 2, none⟩) HBG.out _) (p := ⟨g, 3, none⟩) HBG.out _).drew⟩⟩
    · obtain rfl : kk = 3 := HKK.out
      have P6 : Aside0 (IsOp w5 o 1 3 9 (.slice A 2 c) 3 ⟨#[84]⟩ ⟨#[105]⟩ ⟨#[102]⟩ ⟨#[]⟩ 0 0 0 0 (.slice B 2 dd)) := ⟨P5.out⟩
      have R3 : Aside0 (Kd.R (Kd.int .i64) 3 w5 w.heap.size (fun _ => True) (.slice A 2 c) [4, 2]) := ⟨R35.out⟩
      have R13 : Aside0 (Kd.R k23 23 w5 w.heap.size (fun _ => True) (.slice B 2 dd) [⟨0, 4⟩, ⟨1, 2⟩]) := ⟨R135.out⟩
      clear P5 R35 R135 HKK HMAY
      obtain ⟨g, cur, rfl, hbg, hh, hdd, q0, q1, q2, q3⟩ := dots2_own R13.out
      have hng : g ≠ o := fun e => by subst e; have := hh.symm.trans P6.out; simp at this
      have hc := (blk_cell P6.out 13).trans rfl
      have hf1 := blk_frozen hh 1
      have hc1 := (blk_cell hh 1).trans q1
      have HH := Aside0.mk hh; have HQ0 := Aside0.mk q0; have HQ1 := Aside0.mk q1; have HQ2 := Aside0.mk q2; have HQ3 := Aside0.mk q3; have HNG := Aside0.mk hng; have HBG := Aside0.mk hbg; clear hh q0 q1 q2 q3 hng hbg
      go_wp2_with fail
      go_meet
      case rel =>
        have hh2 := blk_put HH.out 1 (.int .i64 (4 + d)) rfl
        have hC : Kd.C k23 (w5.setCell ⟨g, 1, none⟩ (.int .i64 (4 + d))) (some ⟨g, 0, none⟩) 2 [⟨0, 4 + d⟩, ⟨1, 2⟩] :=
          dots2_C ((blk_cell hh2 0).trans (by simp [Array.getElem?_setIfInBounds, HQ0.out])) ((blk_cell hh2 1).trans (by have hs := (Array.getElem?_eq_some_iff.1 HQ1.out).1; simp [Array.getElem?_setIfInBounds, hs])) ((blk_cell hh2 2).trans (by simp [Array.getElem?_setIfInBounds, HQ2.out])) ((blk_cell hh2 3).trans (by simp [Array.getElem?_setIfInBounds, HQ3.out]))
        obtain ⟨A', c', he', hl', hC'⟩ := Kd.R_reads (Kd.R_set R3.out HH.out (by intro q hq; simp [Kd.int, Kd.scalar] at hq; omega) 1 (.int .i64 (4 + d)))
        cases he'
        exact ⟨⟨1, 3, 9, A, 2, c, [4, 2], 3, ⟨#[84]⟩, ⟨#[105]⟩, ⟨#[102]⟩, ⟨#[]⟩, 0, 0, 0, 0, (some ⟨g, 0, none⟩), 2, dd, [⟨0, 4 + d⟩, ⟨1, 2⟩], blk_far P6.out (p := ⟨g, 1, none⟩) (fun e => HNG.out e.symm) _, ⟨⟨rfl, rfl⟩, ⟨hC', hl'⟩, ⟨hC, hdd⟩⟩, bad_own (own3 (by simp [dotsB, hasB, rd]; omega))⟩, ⟨Below.setCell BB5.out (p := ⟨g, 1, none⟩) HBG.out _⟩⟩
    · obtain rfl : kk = 0 := HKK.out
      have P6 : Aside0 (IsOp w5 o 1 3 9 (.slice A 2 c) 0 ⟨#[84]⟩ ⟨#[105]⟩ ⟨#[102]⟩ ⟨#[118]⟩ 0 0 0 0 (.slice B 0 dd)) := ⟨P5.out⟩
      have R3 : Aside0 (Kd.R (Kd.int .i64) 3 w5 w.heap.size (fun _ => True) (.slice A 2 c) [4, 2]) := ⟨R35.out⟩
      have R13 : Aside0 (Kd.R k23 23 w5 w.heap.size (fun _ => True) (.slice B 0 dd) []) := ⟨R135.out⟩
      clear P5 R35 R135 HKK HMAY
      have hf11 := blk_frozen P6.out 11
      have hc11 := (blk_cell P6.out 11).trans rfl
      have hf12 := blk_frozen P6.out 12
      have hc12 := (blk_cell P6.out 12).trans rfl
      go_wp2_with fail
      go_meet
      case rel => exact ⟨⟨1, 3, 9, A, 2, c, [4, 2], 0, ⟨#[84]⟩, ⟨#[105]⟩, ⟨#[102]⟩, ⟨#[118]⟩, 0, 0, 0, 1, B, 0, dd, [], (blk_put (blk_put P6.out 11 _ rfl) 12 _ rfl), lists_R rfl rfl (R3_set (R3_set R3.out P6.out 11 _) (blk_put P6.out 11 _ rfl) 12 _) (R23_set (R23_set R13.out P6.out 11 _) (blk_put P6.out 11 _ rfl) 12 _), bad_bare (by decide +kernel)⟩, ⟨(Below.setCell (Below.setCell BB5.out (p := ⟨o, 11, none⟩) GO.out _) (p := ⟨o, 12, none⟩) GO.out _)⟩⟩
    · obtain rfl : kk = 3 := HKK.out
      have P6 : Aside0 (IsOp w5 o 1 3 9 (.slice A 2 c) 3 ⟨#[84]⟩ ⟨#[105]⟩ ⟨#[102]⟩ ⟨#[]⟩ 0 0 0 0 (.slice B 2 dd)) := ⟨P5.out⟩
      have R3 : Aside0 (Kd.R (Kd.int .i64) 3 w5 w.heap.size (fun _ => True) (.slice A 2 c) [4, 2]) := ⟨R35.out⟩
      have R13 : Aside0 (Kd.R k23 23 w5 w.heap.size (fun _ => True) (.slice B 2 dd) [⟨0, 4⟩, ⟨1, 2⟩]) := ⟨R135.out⟩
      clear P5 R35 R135 HKK HMAY
      have hf8 := blk_frozen P6.out 8
      have hc8 := (blk_cell P6.out 8).trans rfl
      go_wp2_with fail
      go_meet
      case rel => exact ⟨⟨1, 3, 9, A, 2, c, [4, 2], 3, ⟨#[84]⟩, ⟨#[105]⟩, ⟨#[102]⟩, ⟨#[120]⟩, 0, 0, 0, 0, B, 2, dd, [⟨0, 4⟩, ⟨1, 2⟩], (blk_put P6.out 8 _ rfl), lists_R rfl rfl (R3_set R3.out P6.out 8 _) (R23_set R13.out P6.out 8 _), bad_bare (by decide +kernel)⟩, ⟨(Below.setCell BB5.out (p := ⟨o, 8, none⟩) GO.out _)⟩⟩
    · obtain rfl : kk = 3 := HKK.out
      have P6 : Aside0 (IsOp w5 o 1 3 9 (.slice A 2 c) 3 ⟨#[84]⟩ ⟨#[105]⟩ ⟨#[102]⟩ ⟨#[]⟩ 0 0 0 0 (.slice B 2 dd)) := ⟨P5.out⟩
      have R3 : Aside0 (Kd.R (Kd.int .i64) 3 w5 w.heap.size (fun _ => True) (.slice A 2 c) [4, 2]) := ⟨R35.out⟩
      have R13 : Aside0 (Kd.R k23 23 w5 w.heap.size (fun _ => True) (.slice B 2 dd) [⟨0, 4⟩, ⟨1, 2⟩]) := ⟨R135.out⟩
      clear P5 R35 R135 HKK HMAY
      go_wp2_with (first | ((with_reducible refine gate_dst (N := 91) rfl ?_); refine Kd.R_make k23 (w0 := w5) w5.heap.size 23 rfl (N := 91) rfl 27 (.tmp 90) (.tmp 90) rfl (64 + d) (by rfl) (by rfl) Try.underlying27 (.agg #[.int .i64 0, .int .i64 0]) 16 info23 rfl (by decide) (by decide) (⟨0, 0⟩ : S23) (ok := fun _ => True) (okp := fun _ => True) ?hz (fun _ hk => hk) trivial (by omega) (by omega) (Below.refl _ _) (Nat.le_refl _) ?_; (case hz => exact k23_mkM _ _ _ _); intro v6 w6 ho6 hb6 hg6 hat6; obtain ⟨A6, c6, rfl, hl6, hC6⟩ := Kd.R_reads ho6; (try rw [List.length_replicate] at ho6); have hP7 := blk_below P6.out hb6; have hf := blk_frozen hP7 13; have hc := (blk_cell hP7 13).trans rfl; have P7 := Aside0.mk hP7; have R36 := Aside0.mk (Kd.R_below R3.out hb6); have R136 := Aside0.mk ho6; have BB6 := Aside0.mk (below_step BB5.out hb6); clear hP7 ho6 hb6 hg6 hat6 hl6 hC6) | fail "arm")
      go_meet
      case rel => exact ⟨⟨1, 3, 9, A, 2, c, [4, 2], 3, ⟨#[84]⟩, ⟨#[105]⟩, ⟨#[102]⟩, ⟨#[]⟩, 0, 0, 0, 0, A6, (64 + d).toNat, c6, (List.replicate (64 + d).toNat (⟨0, 0⟩ : S23)), blk_put P7.out 13 _ rfl, lists_R rfl (by simp) (R3_set R36.out P7.out 13 _) (R23_set R136.out P7.out 13 _), bad_own (own3 (dots_zero _ (by omega) _))⟩, ⟨Below.setCell BB6.out (p := ⟨o, 13, none⟩) GO.out _⟩⟩
    · obtain rfl : kk = 2 := HKK.out
      have P6 : Aside0 (IsOp w5 o 1 3 9 (.slice A 2 c) 2 ⟨#[84]⟩ ⟨#[105]⟩ ⟨#[102]⟩ ⟨#[118]⟩ 0 0 0 0 (.slice B 0 dd)) := ⟨P5.out⟩
      have R3 : Aside0 (Kd.R (Kd.int .i64) 3 w5 w.heap.size (fun _ => True) (.slice A 2 c) [4, 2]) := ⟨R35.out⟩
      have R13 : Aside0 (Kd.R k23 23 w5 w.heap.size (fun _ => True) (.slice B 0 dd) []) := ⟨R135.out⟩
      clear P5 R35 R135 HKK HMAY
      have hf10 := blk_frozen P6.out 10
      have hc10 := (blk_cell P6.out 10).trans rfl
      go_wp2_with fail
      go_meet
      case rel => exact ⟨⟨1, 3, 9, A, 2, c, [4, 2], 2, ⟨#[84]⟩, ⟨#[105]⟩, ⟨#[102]⟩, ⟨#[118]⟩, 0, (-d), 0, 0, B, 0, dd, [], (blk_put P6.out 10 _ rfl), lists_R rfl rfl (R3_set R3.out P6.out 10 _) (R23_set R13.out P6.out 10 _), bad_bare (by simp [bareB]; omega)⟩, ⟨(Below.setCell BB5.out (p := ⟨o, 10, none⟩) GO.out _)⟩⟩
  case rest =>
    clear hm0 hm1 hd1 hd2 P5 R35 R135 HKK HMAY GO BB5
    obtain ⟨⟨d0, d1, t, A, n, c, deps, k, ty, id_, fl, val, n0, n1, r0, r1, B, m', e', ds, hOp, hL, hbad⟩⟩ := hcut.1
    have HB5 := hcut.2
    have HOP5 := Aside0.mk hOp; have HL5 := Aside0.mk hL; have HBAD := Aside0.mk hbad; clear hOp hL hbad hcut
    go_wp2_with (refine wpList_load_row rfl 29 _ rfl o rfl 29 _ (0, 0) _ HOP5.out Try.underlying29 rfl (by kernel_rfl) ?_)
    refine (putBad_at HL5.out HBAD.out).mono ?_
    rintro e w6 ⟨rfl, hb6⟩
    have HL6 := Aside0.mk (HL5.out.below hb6); have HB6 := Aside0.mk (below_step HB5.out hb6); have HOP6 := Aside0.mk (blk_below HOP5.out hb6)
    clear hb6 HL5 HB5 HOP5
    have hq0 := (blk_cell HOP6.out 0).trans rfl
    have hq1 := (blk_cell HOP6.out 1).trans rfl
    have hq2 := (blk_cell HOP6.out 2).trans rfl
    have hq3 := (blk_cell HOP6.out 3).trans rfl
    have hq4 := (blk_cell HOP6.out 4).trans rfl
    have hq5 := (blk_cell HOP6.out 5).trans rfl
    have hq6 := (blk_cell HOP6.out 6).trans rfl
    have hq7 := (blk_cell HOP6.out 7).trans rfl
    have hq8 := (blk_cell HOP6.out 8).trans rfl
    have hq9 := (blk_cell HOP6.out 9).trans rfl
    have hq10 := (blk_cell HOP6.out 10).trans rfl
    have hq11 := (blk_cell HOP6.out 11).trans rfl
    have hq12 := (blk_cell HOP6.out 12).trans rfl
    have hq13 := (blk_cell HOP6.out 13).trans rfl
    go_wp2_with fail
    clear hq0 hq1 hq2 hq3 hq4 hq5 hq6 hq7 hq8 hq9 hq10 hq11 hq12 hq13
    refine (may_at (b := false) HL6.out HBAD.out).mono ?_
    rintro e w7 ⟨rfl, hb7⟩
    have HL7 := Aside0.mk (HL6.out.below hb7); have HB7 := Aside0.mk (below_step HB6.out hb7); have HOP7 := Aside0.mk (blk_below HOP6.out hb7)
    clear hb7 HL6 HB6 HOP6
    go_wp2_with fail
    refine (num_b 1100 _).mono ?_
    rintro e w8 ⟨rfl, hb8⟩
    have HL8 := Aside0.mk (HL7.out.below hb8); have HB8 := Aside0.mk (below_step HB7.out hb8); have HOP8 := Aside0.mk (blk_below HOP7.out hb8)
    clear hb8 HL7 HB7 HOP7
    go_wp2_with fail
    go_ret
    exact ⟨rfl, HB8.out⟩
end Go.Proofs.Ytaaaeonalomcgaa.Q
