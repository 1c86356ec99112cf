/- One relation on worlds for all walks by hand: what may have turned lies in blocks of S, or is new. -/
import Derived.Test.YtapbpmpeikobcaaDoorWMore
import Derived.Test.YtapbpmpeikobcaaDoorWWords
import Derived.Test.YtapbpmpeikobcaaDoorWKept
import Derived.Laws.Tables
set_option linter.unusedVariables false
namespace Go.Proofs.YtapbpmpeikobcaaDoor.Q
open Go.RowKit Go.Proofs.YtapbpmpeikobcaaDoorW.PrintWords

/-- From w to w' blocks of S may have turned, and new ones have come; no other. -/
structure Chg (S : Nat → Prop) (w w' : World) : Prop where
  os : w'.os = w.os
  tape : w'.tape = w.tape
  output : w'.output = w.output
  size : w.heap.size ≤ w'.heap.size
  block : ∀ k, k < w.heap.size → ¬ S k → w'.heap[k]? = w.heap[k]?
namespace Chg
variable {S T : Nat → Prop} {w w1 w2 : World}
theorem refl (S : Nat → Prop) (w : World) : Chg S w w := ⟨rfl, rfl, rfl, Nat.le_refl _, fun _ _ _ => rfl⟩
/-- A step behind another: what it turns is of S, or new since w. -/
theorem trans' (h : Chg S w w1) (k : Chg T w1 w2) (hs : ∀ k, T k → S k ∨ w.heap.size ≤ k) : Chg S w w2 :=
  ⟨k.os.trans h.os, k.tape.trans h.tape, k.output.trans h.output, Nat.le_trans h.size k.size, fun i hi hn =>
    (k.block i (Nat.lt_of_lt_of_le hi h.size) (fun h2 => (hs i h2).elim hn (fun h3 => by omega))).trans (h.block i hi hn)⟩
theorem trans (h : Chg S w w1) (k : Chg S w1 w2) : Chg S w w2 := h.trans' k (fun _ h => .inl h)
theorem mono (h : Chg S w w1) (hs : ∀ k, S k → T k ∨ w.heap.size ≤ k) : Chg T w w1 := (refl T w).trans' h hs
theorem of_below (h : Below w.heap.size w w1) : Chg S w w1 := ⟨h.os, h.tape, h.output, h.size, fun k hk _ => h.block k hk⟩
theorem below_ (h : Chg S w w1) (k : Below w1.heap.size w1 w2) : Chg S w w2 := h.trans (of_below k)
theorem of_grown {row : Option Nat} (hg : w.grownBy w1 row) (hr : ∀ k, row = some k → S k) : Chg S w w1 := ⟨hg.os, hg.tape, hg.output, hg.size, fun i hi hn => hg.block i hi (fun e => hn (hr i e.symm))⟩
theorem drew (h : Chg S w w1) : Chg S w w1.drew := ⟨h.os, h.tape, h.output, h.size, h.block⟩
theorem of_drew (h : Below w.drew.heap.size w.drew w1) : Chg S w w1 := ((refl S w).drew).below_ h
theorem drewN (h : Chg S w w1) (n : Nat) : Chg S w (w1.drewN n) := ⟨h.os, h.tape, h.output, h.size, h.block⟩
theorem alloc (h : Chg S w w1) (o : Obj) : Chg S w (w1.alloc o) := h.below_ (below_alloc (Below.refl _ _) o)
theorem set (h : Chg S w w1) {p : Addr} (hp : S p.block ∨ w.heap.size ≤ p.block) (u : Value) : Chg S w (w1.setCell p u) :=
  h.trans' (T := fun k => k = p.block) ⟨rfl, rfl, rfl, by simp [World.setCell], fun i _ hn => Below.heap_setCell w1 p u i hn⟩ (fun k hk => by rw [hk]; exact hp)
theorem seti {g : Nat} (h : Chg (· = g) w w1) (i : Nat) (u : Value) : Chg (· = g) w (w1.setCell ⟨g, i, none⟩ u) := h.set (.inl rfl) u
theorem to_below (h : Chg S w w1) (hs : ∀ k, S k → w.heap.size ≤ k) : Below w.heap.size w w1 := ⟨h.os, h.tape, h.output, h.size, fun k hk => h.block k hk (fun h2 => by have := hs k h2; omega)⟩
theorem blk (h : Chg S w w1) {g : Nat} {o : Obj} (hb : w.heap[g]? = some o) (hg : ¬ S g) : w1.heap[g]? = some o := (h.block g (blk_lt hb) hg).trans hb
theorem own (h : Chg S w w1) {base : Nat} {e : TypeId} {size n : Nat} {v : Value} {xs : List Value} (ho : w.ownsRow base e size v n xs) (hk : ∀ k, v.ownBlock = some k → ¬ S k) : w1.ownsRow base e size v n xs :=
  own_move ho (fun k e => h.block k (own_lt ho k e) (hk k e))
theorem C (h : Chg S w w1) {α : Type} {d : Kd α} {A : Option Addr} {n : Nat} {xs : List α} (hs : ∀ k, S k → w.heap.size ≤ k) (hc : d.C w A n xs) : d.C w1 A n xs := Kd.C_below hc (h.to_below hs)
theorem le (h : Chg S w w1) : w.heap.size ≤ w1.heap.size := h.size
end Chg
theorem heap_setRow (w : World) (g k : Nat) (cs : Array Value) (h : ¬ k = g) : (w.setRow g cs).heap[k]? = w.heap[k]? := by
  unfold World.setRow; rw [Array.getElem?_modify, if_neg (fun e => h e.symm)]
/-- A whole block written. -/
theorem Chg.row {S : Nat → Prop} {w w1 : World} (h : Chg S w w1) (g : Nat) (cs : Array Value) (hp : S g ∨ w.heap.size ≤ g) : Chg S w (w1.setRow g cs) :=
  h.trans' (T := (· = g)) ⟨rfl, rfl, rfl, by unfold World.setRow; simp, fun i _ hn => heap_setRow w1 g i cs hn⟩ (fun k hk => by rw [hk]; exact hp)
theorem row_blk {w : World} {g t : Nat} {cs : Array Value} (h : w.heap[g]? = some (.cells cs t (0, 0))) (cs' : Array Value) : (w.setRow g cs').heap[g]? = some (.cells cs' t (0, 0)) := setRow_heap w g cs cs' t (0, 0) h
/-- A row's block is none of another type. -/
theorem own_far {w : World} {base : Nat} {e : TypeId} {size n : Nat} {v : Value} {xs : List Value} (h : w.ownsRow base e size v n xs) {g t : Nat} {cs : Array Value} (hb : w.heap[g]? = some (.cells cs t (0, 0))) (ht : e ≠ t) : ∀ k, v.ownBlock = some k → ¬ k = g := by
  rintro k hk rfl
  obtain ⟨c, hc⟩ := own_typed h k hk
  rw [hc] at hb; injection hb with hb; injection hb with _ hb; exact ht hb
/-- Behind an append to a row v of the call's own. -/
theorem Chg.append {S : Nat → Prop} {w0 w w1 : World} {v : Value} (h : Chg S w0 w) (hg : w.grownBy w1 v.ownBlock) (hb : ∀ k, v.ownBlock = some k → w0.heap.size ≤ k) : Chg S w0 w1 :=
  h.trans' (T := fun k => v.ownBlock = some k) (Chg.of_grown hg (fun k e => e)) (fun k hk => .inr (hb k hk))
/-- One element (its cells: news) appended to a row of the call's own: the element lies in a block that has just been made. -/
theorem step_app {P : Program} {w : World} {ops : Array Oper} {o : Oper} {a : Act} {K : Act → World → Prop} {Q : Exit → Act → World → Prop} {E : Prop} (hgd : o.guard = none) (s x : Operand) (t : TypeId)
    (ho : o.op = .call { callee := .builtin .append, args := #[s, x], argTypes := #[t, t] })
    (base : Nat) (e : TypeId) (z : Value) (size bytes : Nat) (ht : P.underlying t = some (.slice e)) (hi : (P.info? e).map (fun i => (i.zero, i.size, i.bytes)) = some (some z, size, bytes)) (hzs : z.cells.size = size) (hsz : 0 < size)
    (v : Value) (n : Nat) (xs : List Value) (hs : a.eval s = v) (news : Array Value) (hown : w.ownsRow base e size v n xs) (hbase : base ≤ w.heap.size)
    (hx : a.eval x = .slice (some ⟨w.heap.size, 0, none⟩) 1 1) (hl : news.size = size) (h1 : news.toList.all (·.oneCell') = true)
    (h63 : n + 1 ≤ maxLen) (hbytes : (n + 1) * bytes ≤ 140737488355328)
    (h : ∀ g cap w', w'.ownsRow base e size (.slice (some ⟨g, 0, none⟩) (n + 1 : Nat) cap) (n + 1) (xs ++ news.toList) → (w.alloc (.cells news e)).grownBy w' v.ownBlock → K (a.put o.dst (.slice (some ⟨g, 0, none⟩) (n + 1 : Nat) cap)) w') :
    if Region.wanted o (yielded ops a.tmps) = true then Oper.wp P o a (w.alloc (.cells news e)) K Q else E := by
  obtain ⟨i0, hi', hzz⟩ := Option.map_eq_some_iff.1 hi
  simp only [Prod.mk.injEq] at hzz
  obtain ⟨hz0, hz1, hz2⟩ := hzz
  exact step_append_lies (w := w.alloc (.cells news e)) hgd s x t ho base e i0 z size bytes ht hi' hz0 hz1 hz2 hzs hsz v n xs hs (hown.alloc _) ⟨w.heap.size, 0, none⟩ 1 1 news.toList hx (by simp [hl])
    (World.news_of_block (fr := (0, 0)) (heap_alloc_new w _)) (fun u hu => List.all_eq_true.1 h1 u hu) (by omega) h63 hbytes (Nat.le_trans hbase (by simp)) _ rfl (fun g cap w' q1 q2 _ _ => h g cap w' q1 q2)
end Go.Proofs.YtapbpmpeikobcaaDoor.Q
