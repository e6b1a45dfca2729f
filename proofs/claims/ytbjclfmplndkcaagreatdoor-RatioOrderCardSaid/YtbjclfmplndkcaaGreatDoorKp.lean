/-
  WHAT A CALL KEEPS: blocks known whole, slices of words in fresh memory.
-/
import Derived.Test.YtbjclfmplndkcaaGreatDoorRd
set_option linter.unusedVariables false
set_option linter.unusedSimpArgs false
set_option linter.unnecessarySimpa false
namespace Go.Proofs.YtbjclfmplndkcaaGreatDoor
open Go.RowKit Pl

/-- Nothing older than w has turned; these blocks are known whole; these slices are in memory that is newer than w's. -/
structure Kp (w : World) (bs : List (Nat × TypeId × Array Value)) (os : List (Option Addr × Nat × List Int)) (W : World) : Prop where
  low : Below w.heap.size w W
  blk : ∀ x ∈ bs, Blk W x.1 x.2.1 x.2.2
  own : ∀ x ∈ os, Ow W w.heap.size x.1 x.2.1 x.2.2
section
variable {w W W' : World} {bs : List (Nat × TypeId × Array Value)} {os : List (Option Addr × Nat × List Int)}
theorem Kp.start (w : World) : Kp w [] [] w := ⟨Below.refl _ _, (fun _ h => by cases h), (fun _ h => by cases h)⟩
theorem Kp.below (h : Kp w bs os W) (hb : Below W.heap.size W W') : Kp w bs os W' :=
  ⟨below_trans h.low hb, fun x hx => (h.blk x hx).below hb (h.blk x hx).lt, fun x hx => (h.own x hx).below hb⟩
theorem Kp.drewN (h : Kp w bs os W) (n : Nat) : Kp w bs os (W.drewN n) := ⟨below_drewN h.low n, h.blk, h.own⟩
theorem Kp.drew (h : Kp w bs os W) : Kp w bs os W.drew := ⟨h.low.drew, h.blk, h.own⟩
/-- a new slice -/
theorem Kp.add (h : Kp w bs os W) {b c : Nat} {A : Option Addr} {l : List Int} (ho : Ow W b A c l) (hb : w.heap.size ≤ b) : Kp w bs (os ++ [(A, c, l)]) W :=
  ⟨h.low, h.blk, fun x hx => by
    rcases List.mem_append.1 hx with hx | hx
    · exact h.own x hx
    · rw [List.mem_singleton] at hx; subst hx; exact ho.mono hb⟩
/-- a new block -/
theorem Kp.alloc (h : Kp w bs os W) (t : TypeId) (cs : Array Value) : Kp w (bs ++ [(W.heap.size, t, cs)]) os (W.alloc (.cells cs t)) :=
  ⟨h.low.alloc h.low.size _, fun x hx => by
    rcases List.mem_append.1 hx with hx | hx
    · exact (h.blk x hx).alloc _
    · rw [List.mem_singleton] at hx; subst hx; exact Blk.new W t cs, fun x hx => (h.own x hx).below ((Below.refl _ _).alloc (Nat.le_refl _) _)⟩
theorem Kp.size (h : Kp w bs os W) : w.heap.size ≤ W.heap.size := h.low.size
theorem Kp.b0 {g : Nat} {t : TypeId} {cs : Array Value} {r : List (Nat × TypeId × Array Value)} (h : Kp w ((g, t, cs) :: r) os W) : Blk W g t cs := h.blk _ (List.mem_cons_self)
theorem Kp.b1 {g : Nat} {t : TypeId} {cs : Array Value} {p : Nat × TypeId × Array Value} {r : List (Nat × TypeId × Array Value)} (h : Kp w (p :: (g, t, cs) :: r) os W) : Blk W g t cs := h.blk (g, t, cs) (by simp)
theorem Kp.b2 {g : Nat} {t : TypeId} {cs : Array Value} {p q : Nat × TypeId × Array Value} {r : List (Nat × TypeId × Array Value)} (h : Kp w (p :: q :: (g, t, cs) :: r) os W) : Blk W g t cs := h.blk (g, t, cs) (by simp)
theorem Kp.o0 {A : Option Addr} {c : Nat} {l : List Int} {r : List (Option Addr × Nat × List Int)} (h : Kp w bs ((A, c, l) :: r) W) : Ow W w.heap.size A c l := h.own _ (List.mem_cons_self)
theorem Kp.o1 {A : Option Addr} {c : Nat} {l : List Int} {p : Option Addr × Nat × List Int} {r : List (Option Addr × Nat × List Int)} (h : Kp w bs (p :: (A, c, l) :: r) W) : Ow W w.heap.size A c l := h.own (A, c, l) (by simp)
theorem Kp.o2 {A : Option Addr} {c : Nat} {l : List Int} {p q : Option Addr × Nat × List Int} {r : List (Option Addr × Nat × List Int)} (h : Kp w bs (p :: q :: (A, c, l) :: r) W) : Ow W w.heap.size A c l := h.own (A, c, l) (by simp)
end
/-- two structs of three cells -/
theorem Kp.six {w W : World} {g g' : Nat} {t t' : TypeId} {a b c d e f : Value} {r : List (Nat × TypeId × Array Value)} {os : List (Option Addr × Nat × List Int)} (h : Kp w ((g, t, #[a, b, c]) :: (g', t', #[d, e, f]) :: r) os W) :
    Kp w ((g, t, #[a, b, c]) :: (g', t', #[d, e, f]) :: r) os W ∧ W.cell? ⟨g, 0, none⟩ = some a ∧ W.cell? ⟨g, 1, none⟩ = some b ∧ W.cell? ⟨g, 2, none⟩ = some c ∧ W.cell? ⟨g', 0, none⟩ = some d ∧ W.cell? ⟨g', 1, none⟩ = some e ∧ W.cell? ⟨g', 2, none⟩ = some f :=
  ⟨h, h.b0.cell 0, h.b0.cell 1, h.b0.cell 2, h.b1.cell 0, h.b1.cell 1, h.b1.cell 2⟩
/-- struct parameters and a struct result of three cells, boxed one behind the other -/
theorem kp1 (w : World) (t : TypeId) (a b c : Value) :
    ∃ w0, w0 = w.alloc (.cells #[a, b, c] t) ∧ Kp w [(w.heap.size, t, #[a, b, c])] [] w0 := ⟨_, rfl, (Kp.start w).alloc t _⟩
theorem kp2 (w : World) (t u : TypeId) (cs ds : Array Value) :
    ∃ w0, w0 = (w.alloc (.cells cs t)).alloc (.cells ds u) ∧ Kp w [(w.heap.size, t, cs), (w.heap.size + 1, u, ds)] [] w0 := by
  refine ⟨_, rfl, ?_⟩
  have h := ((Kp.start w).alloc t cs).alloc u ds
  have e1 : (w.alloc (.cells cs t)).heap.size = w.heap.size + 1 := by show (w.heap.push _).size = _; simp
  rw [e1] at h; exact h
theorem kp3 (w : World) (t u v : TypeId) (cs ds es : Array Value) :
    ∃ w0, w0 = ((w.alloc (.cells cs t)).alloc (.cells ds u)).alloc (.cells es v) ∧ Kp w [(w.heap.size, t, cs), (w.heap.size + 1, u, ds), (w.heap.size + 2, v, es)] [] w0 := by
  refine ⟨_, rfl, ?_⟩
  have h := (((Kp.start w).alloc t cs).alloc u ds).alloc v es
  have e1 : (w.alloc (.cells cs t)).heap.size = w.heap.size + 1 := by show (w.heap.push _).size = _; simp
  have e2 : ((w.alloc (.cells cs t)).alloc (.cells ds u)).heap.size = w.heap.size + 2 := by show ((w.heap.push _).push _).size = _; simp
  rw [e2, e1] at h; exact h
end Go.Proofs.YtbjclfmplndkcaaGreatDoor
