/-
  Stable texts joined: Rd, Kp.
-/
import Derived.Test.YtolbafckppafkaaGreatDoorProg
import Derived.Test.YtolbafckppafkaaGreatDoorPl
import Derived.WalkKit
import Derived.WalkSpells
import Derived.WalkLawsBesides
import Derived.Deep.Draws
import Derived.Laws.Rows
import Derived.Lib.Hide
/-
  WHAT THE WALKS SAY OF MEMORY: a slice that reads as words; a block that is known whole; the world behind a call.
-/
set_option linter.unusedVariables false
set_option linter.unusedSimpArgs false
set_option linter.unnecessarySimpa false
namespace Go.Proofs.YtolbafckppafkaaGreatDoor
open Go.RowKit Pl

theorem block_of_add (a : Addr) (n : Nat) : (a.add n).block = a.block := by unfold Addr.add; split <;> rfl
theorem add_of_add (a : Addr) (i j : Nat) : (a.add i).add j = a.add (i + j) := by
  unfold Addr.add
  by_cases hi : i = 0 <;> by_cases hj : j = 0 <;> simp [hi, hj, Nat.add_assoc]

/-- The address leads to the words l (nothing is asked of it where there are none). -/
structure Rd (w : World) (A : Option Addr) (l : List Int) : Prop where
  inr : InR l
  len : l.length ≤ 9223372036854775807
  cells : 0 < l.length → ∃ ad, A = some ad ∧ ∀ j, j < l.length → w.cell? (ad.add j) = some (.int .u32 (l.getD j 0))

theorem Rd.nil (w : World) (A : Option Addr) : Rd w A [] := ⟨InR.nil, by simp, fun h => by simp at h⟩
theorem Rd.at_ {w : World} {A : Option Addr} {l : List Int} (h : Rd w A l) {i : Nat} (hi : i < l.length) :
    ∃ ad, A = some ad ∧ w.cell? (ad.add i) = some (.int .u32 (l.getD i 0)) := by
  obtain ⟨ad, e, hc⟩ := h.cells (by omega)
  exact ⟨ad, e, hc i hi⟩
theorem Rd.some_ {w : World} {A : Option Addr} {l : List Int} (h : Rd w A l) (hi : 0 < l.length) :
    ∃ ad, A = some ad ∧ ∀ j, j < l.length → w.cell? (ad.add j) = some (.int .u32 (l.getD j 0)) := h.cells hi
theorem Rd.keep {w w' : World} {A : Option Addr} {l : List Int} (h : Rd w A l) (hk : ∀ p v, w.cell? p = some v → w'.cell? p = some v) : Rd w' A l :=
  ⟨h.inr, h.len, fun hl => by
    obtain ⟨ad, e, hc⟩ := h.cells hl
    exact ⟨ad, e, fun j hj => hk _ _ (hc j hj)⟩⟩
theorem Rd.below {w w' : World} {A : Option Addr} {l : List Int} (h : Rd w A l) (hb : Below w.heap.size w w') : Rd w' A l :=
  h.keep fun p v hc => (hb.cell (World.block_lt_of_cell? w p hc)).trans hc
theorem Rd.take {w : World} {A : Option Addr} {l : List Int} (h : Rd w A l) (k : Nat) : Rd w A (l.take k) :=
  ⟨h.inr.take k, by have := h.len; rw [List.length_take]; omega, fun hl => by
    rw [List.length_take] at hl
    obtain ⟨ad, e, hc⟩ := h.cells (by omega)
    refine ⟨ad, e, fun j hj => ?_⟩
    rw [List.length_take] at hj
    rw [hc j (by omega)]
    have : (l.take k).getD j 0 = l.getD j 0 := by
      rw [List.getD_eq_getElem?_getD, List.getD_eq_getElem?_getD, List.getElem?_take_of_lt (by omega)]
    rw [this]⟩

/-- What every call does to the world that only makes memory. -/
theorem bcell {W w1 : World} (hb : Below W.heap.size W w1) : (∀ b o, b < W.heap.size → w1.cell? ⟨b, o, none⟩ = W.cell? ⟨b, o, none⟩) ∧ (∀ b o, b < W.heap.size → w1.frozen? ⟨b, o, none⟩ = W.frozen? ⟨b, o, none⟩) :=
  ⟨fun b o h => hb.cell (p := ⟨b, o, none⟩) h, fun b o h => hb.frozen (p := ⟨b, o, none⟩) h⟩
theorem below_drewN {B : Nat} {a w : World} (h : Below B a w) (n : Nat) : Below B a (w.drewN n) := ⟨h.os, h.tape, h.output, h.size, h.block⟩
theorem below_trans {w w1 w2 : World} (h : Below w.heap.size w w1) (k : Below w1.heap.size w1 w2) : Below w.heap.size w w2 :=
  h.trans (k.mono h.size)

/-- a block that is known whole -/
def Blk (w : World) (g : Nat) (t : TypeId) (cs : Array Value) : Prop := w.heap[g]? = some (.cells cs t (0, 0))
section
variable {w w' : World} {g : Nat} {t : TypeId} {cs : Array Value}
theorem Blk.lt (h : Blk w g t cs) : g < w.heap.size := by
  rcases Nat.lt_or_ge g w.heap.size with hlt | hge
  · exact hlt
  · unfold Blk at h; rw [Array.getElem?_eq_none hge] at h; cases h
theorem Blk.cell (h : Blk w g t cs) (i : Nat) : w.cell? ⟨g, i, none⟩ = cs[i]? := cell_of_row w g i cs t (0, 0) h
theorem Blk.frozen (h : Blk w g t cs) (i : Nat) : w.frozen? ⟨g, i, none⟩ = false := by
  unfold Blk at h
  simp [World.frozen?, h]
theorem Blk.new (w : World) (t : TypeId) (cs : Array Value) : Blk (w.alloc (.cells cs t)) w.heap.size t cs := heap_alloc_new w _
theorem Blk.drew (h : Blk w g t cs) : Blk w.drew g t cs := h
theorem Blk.drewN (h : Blk w g t cs) (n : Nat) : Blk (w.drewN n) g t cs := h
theorem Blk.alloc (h : Blk w g t cs) (o : Obj) : Blk (w.alloc o) g t cs := (Below.heap_alloc w o g h.lt).trans h
theorem Blk.set_ (h : Blk w g t cs) (i : Nat) (u : Value) : Blk (w.setCell ⟨g, i, none⟩ u) g t (cs.setIfInBounds i u) := by
  unfold Blk at h ⊢
  simp [World.setCell, Array.getElem?_modify, h]
theorem Blk.far (h : Blk w g t cs) {p : Addr} (hp : g ≠ p.block) (u : Value) : Blk (w.setCell p u) g t cs := (Below.heap_setCell w p u g hp).trans h
theorem Blk.below {B : Nat} (h : Blk w g t cs) (hb : Below B w w') (hg : g < B) : Blk w' g t cs := (hb.block g hg).trans h
theorem Blk.grown {row : Option Nat} (h : Blk w g t cs) (hb : w.grownBy w' row) (hg : some g ≠ row) : Blk w' g t cs := (hb.block g h.lt hg).trans h
end

/-- A block of words of a call's own, of c cells, of which the first hold l. -/
def Bw (w : World) (g c : Nat) (l : List Int) : Prop :=
  ∃ cs, Blk w g 43 cs ∧ cs.size = c ∧ l.length ≤ c ∧ InR l ∧ c ≤ 9223372036854775807 ∧ ∀ j, j < l.length → cs[j]? = some (.int .u32 (l.getD j 0))
/-- A slice of words that a call made: a block of its own from base on (or nothing). -/
def Ow (w : World) (base : Nat) (A : Option Addr) (c : Nat) (l : List Int) : Prop :=
  (A = none ∧ l = [] ∧ c = 0) ∨ ∃ g, A = some ⟨g, 0, none⟩ ∧ base ≤ g ∧ Bw w g c l
theorem getD_set_ne (l : List Int) (i j : Nat) (x : Int) (h : i ≠ j) : (l.set i x).getD j 0 = l.getD j 0 := by
  rw [List.getD_eq_getElem?_getD, List.getD_eq_getElem?_getD, List.getElem?_set_ne h]
theorem getD_set_eq (l : List Int) (i : Nat) (x : Int) (h : i < l.length) : (l.set i x).getD i 0 = x := by
  rw [List.getD_eq_getElem?_getD, List.getElem?_set_self h]; rfl
section
variable {w w' : World} {g c : Nat} {l : List Int}
theorem Bw.lt (h : Bw w g c l) : g < w.heap.size := by obtain ⟨cs, hk, _⟩ := h; exact hk.lt
theorem Bw.le (h : Bw w g c l) : l.length ≤ c := by obtain ⟨cs, hk, hs, hl, _⟩ := h; exact hl
theorem Bw.inr (h : Bw w g c l) : InR l := by obtain ⟨cs, hk, hs, hl, hr, _⟩ := h; exact hr
theorem Bw.max (h : Bw w g c l) : c ≤ 9223372036854775807 := by obtain ⟨cs, hk, hs, hl, hr, hm, _⟩ := h; exact hm
theorem Bw.cell (h : Bw w g c l) {j : Nat} (hj : j < l.length) : w.cell? ⟨g, j, none⟩ = some (.int .u32 (l.getD j 0)) := by
  obtain ⟨cs, hk, hs, hl, hr, hm, hc⟩ := h
  rw [hk.cell]; exact hc j hj
theorem Bw.frozen (h : Bw w g c l) (j : Nat) : w.frozen? ⟨g, j, none⟩ = false := by obtain ⟨cs, hk, _⟩ := h; exact hk.frozen j
theorem Bw.drewN (h : Bw w g c l) (n : Nat) : Bw (w.drewN n) g c l := h
theorem Bw.drew (h : Bw w g c l) : Bw w.drew g c l := h
theorem Bw.alloc (h : Bw w g c l) (o : Obj) : Bw (w.alloc o) g c l := by obtain ⟨cs, hk, hr⟩ := h; exact ⟨cs, hk.alloc o, hr⟩
theorem Bw.set (h : Bw w g c l) (i : Nat) {x : Int} (h0 : 0 ≤ x) (h1 : x < 4294967296) : Bw (w.setCell ⟨g, i, none⟩ (.int .u32 x)) g c (l.set i x) := by
  obtain ⟨cs, hk, hs, hl, hr, hm, hc⟩ := h
  refine ⟨cs.setIfInBounds i (.int .u32 x), hk.set_ i _, by simp [hs], by simp; exact hl, hr.set i h0 h1, hm, fun j hj => ?_⟩
  simp only [List.length_set] at hj
  by_cases e : i = j
  · subst e
    rw [getD_set_eq _ _ _ hj]
    have : i < cs.size := by omega
    simp [this]
  · rw [getD_set_ne _ _ _ _ e, ← hc j hj]
    simp [e]
theorem Bw.below {B : Nat} (h : Bw w g c l) (hb : Below B w w') (hg : g < B) : Bw w' g c l := by obtain ⟨cs, hk, hr⟩ := h; exact ⟨cs, hk.below hb hg, hr⟩
theorem Bw.grown {row : Option Nat} (h : Bw w g c l) (hb : w.grownBy w' row) (hg : some g ≠ row) : Bw w' g c l := by obtain ⟨cs, hk, hr⟩ := h; exact ⟨cs, hk.grown hb hg, hr⟩
theorem Bw.far (h : Bw w g c l) {p : Addr} (hp : g ≠ p.block) (u : Value) : Bw (w.setCell p u) g c l := by obtain ⟨cs, hk, hr⟩ := h; exact ⟨cs, hk.far hp u, hr⟩
theorem Bw.take (h : Bw w g c l) (k : Nat) : Bw w g c (l.take k) := by
  obtain ⟨cs, hk, hs, hl, hr, hm, hc⟩ := h
  refine ⟨cs, hk, hs, by rw [List.length_take]; omega, hr.take k, hm, fun j hj => ?_⟩
  rw [List.length_take] at hj
  rw [hc j (by omega)]
  rw [List.getD_eq_getElem?_getD, List.getD_eq_getElem?_getD, List.getElem?_take_of_lt (by omega)]
end
theorem add_plain (g j : Nat) : (⟨g, 0, none⟩ : Addr).add j = ⟨g, j, none⟩ := by unfold Addr.add; split <;> simp_all
theorem add_at (g o j : Nat) : (⟨g, o, none⟩ : Addr).add j = ⟨g, o + j, none⟩ := by unfold Addr.add; split <;> simp_all
theorem Bw.rd {w : World} {g c : Nat} {l : List Int} (h : Bw w g c l) : Rd w (some ⟨g, 0, none⟩) l :=
  ⟨h.inr, by have := h.le; have := h.max; omega, fun _ => ⟨_, rfl, fun j hj => by rw [add_plain]; exact h.cell hj⟩⟩
theorem Ow.rd {w : World} {base c : Nat} {A : Option Addr} {l : List Int} (h : Ow w base A c l) : Rd w A l := by
  rcases h with ⟨rfl, rfl, rfl⟩ | ⟨g, rfl, hb, hk⟩
  · exact Rd.nil _ _
  · exact hk.rd
theorem Ow.le {w : World} {base c : Nat} {A : Option Addr} {l : List Int} (h : Ow w base A c l) : l.length ≤ c := by
  rcases h with ⟨rfl, rfl, rfl⟩ | ⟨g, rfl, hb, hk⟩
  · simp
  · exact hk.le
theorem Ow.nil (w : World) (base : Nat) : Ow w base none 0 [] := .inl ⟨rfl, rfl, rfl⟩
theorem Ow.mono {w : World} {base base' c : Nat} {A : Option Addr} {l : List Int} (h : Ow w base A c l) (hb : base' ≤ base) : Ow w base' A c l := by
  rcases h with h | ⟨g, rfl, hg, hk⟩
  · exact .inl h
  · exact .inr ⟨g, rfl, by omega, hk⟩
theorem Ow.below {w w' : World} {base c : Nat} {A : Option Addr} {l : List Int} (h : Ow w base A c l) (hb : Below w.heap.size w w') : Ow w' base A c l := by
  rcases h with h | ⟨g, rfl, hg, hk⟩
  · exact .inl h
  · exact .inr ⟨g, rfl, hg, hk.below hb hk.lt⟩
theorem Ow.take {w : World} {base c : Nat} {A : Option Addr} {l : List Int} (h : Ow w base A c l) (k : Nat) : Ow w base A c (l.take k) := by
  rcases h with ⟨rfl, rfl, rfl⟩ | ⟨g, rfl, hg, hk⟩
  · exact .inl ⟨rfl, by simp, rfl⟩
  · exact .inr ⟨g, rfl, hg, hk.take k⟩
/-- Only the slice's own block has turned. -/
theorem Ow.only {w w' : World} {base c : Nat} {A : Option Addr} {l : List Int} (h : Ow w base A c l) (hg : w.grownBy w' (A.map (·.block))) (hb : base ≤ w.heap.size) : Below base w w' := by
  rcases h with ⟨rfl, rfl, rfl⟩ | ⟨g, rfl, hg', hk⟩
  · exact ⟨hg.os, hg.tape, hg.output, hg.size, fun k hk => hg.block k (by omega) (by simp)⟩
  · exact ⟨hg.os, hg.tape, hg.output, hg.size, fun k hk' => hg.block k (by omega) (by simp; omega)⟩
/-- the cells of words -/
def cellsOf (l : List Int) : Array Value := (l.map (Value.int .u32)).toArray
theorem cellsOf_size (l : List Int) : (cellsOf l).size = l.length := by simp [cellsOf]
theorem cellsOf_get (l : List Int) (j : Nat) (hj : j < l.length) : (cellsOf l)[j]? = some (.int .u32 (l.getD j 0)) := by
  simp [cellsOf, hj]
theorem cellsOf_set (l : List Int) (i : Nat) (x : Int) : (cellsOf l).setIfInBounds i (.int .u32 x) = cellsOf (l.set i x) := by
  apply Array.ext'
  simp [cellsOf, List.map_set]
theorem Bw.of_blk {w : World} {g : Nat} {l : List Int} (h : Blk w g 43 (cellsOf l)) (hr : InR l) (hl : l.length ≤ 9223372036854775807) : Bw w g l.length l :=
  ⟨_, h, cellsOf_size l, Nat.le_refl _, hr, hl, fun j hj => cellsOf_get l j hj⟩
theorem Ow.of_blk {w : World} {base g : Nat} {l : List Int} (hb : base ≤ g) (h : Blk w g 43 (cellsOf l)) (hr : InR l) (hl : l.length ≤ 9223372036854775807) : Ow w base (some ⟨g, 0, none⟩) l.length l :=
  .inr ⟨g, rfl, hb, Bw.of_blk h hr hl⟩
theorem only_refl (w : World) (row : Option Nat) : w.grownBy w row := ⟨rfl, rfl, rfl, Nat.le_refl _, fun _ _ _ => rfl⟩
theorem only_drewN {a w : World} {row : Option Nat} (h : a.grownBy w row) (n : Nat) : a.grownBy (w.drewN n) row := ⟨h.os, h.tape, h.output, h.size, h.block⟩
theorem only_setCell {a w : World} {g : Nat} (h : a.grownBy w (some g)) (i : Nat) (u : Value) : a.grownBy (w.setCell ⟨g, i, none⟩ u) (some g) :=
  ⟨h.os, h.tape, h.output, by simpa [World.setCell] using h.size, fun k hk hne => (Below.heap_setCell w ⟨g, i, none⟩ u k (fun e => hne (by rw [e]))).trans (h.block k hk hne)⟩
theorem only_trans {a b c : World} {row : Option Nat} (h : a.grownBy b row) (k : b.grownBy c row) : a.grownBy c row :=
  ⟨k.os.trans h.os, k.tape.trans h.tape, k.output.trans h.output, Nat.le_trans h.size k.size, fun i hi hn => (k.block i (Nat.lt_of_lt_of_le hi h.size) hn).trans (h.block i hi hn)⟩
theorem only_below {a b : World} (h : Below a.heap.size a b) (row : Option Nat) : a.grownBy b row := ⟨h.os, h.tape, h.output, h.size, fun i hi _ => h.block i hi⟩
end Go.Proofs.YtolbafckppafkaaGreatDoor

/-
  WHAT A CALL KEEPS: blocks known whole, slices of words in fresh memory.
-/
set_option linter.unusedVariables false
set_option linter.unusedSimpArgs false
set_option linter.unnecessarySimpa false
namespace Go.Proofs.YtolbafckppafkaaGreatDoor
open Go.RowKit Pl

/-- Nothing older than w has turned; these blocks are known whole; these slices are in memory that is newer than w's. -/
structure Kp (w : World) (bs : List (Nat × TypeId × Array Value)) (os : List (Option Addr × Nat × List Int)) (W : World) : Prop where
  low : Below w.heap.size w W
  blk : ∀ x ∈ bs, Blk W x.1 x.2.1 x.2.2
  own : ∀ x ∈ os, Ow W w.heap.size x.1 x.2.1 x.2.2
section
variable {w W W' : World} {bs : List (Nat × TypeId × Array Value)} {os : List (Option Addr × Nat × List Int)}
theorem Kp.start (w : World) : Kp w [] [] w := ⟨Below.refl _ _, (fun _ h => by cases h), (fun _ h => by cases h)⟩
theorem Kp.below (h : Kp w bs os W) (hb : Below W.heap.size W W') : Kp w bs os W' :=
  ⟨below_trans h.low hb, fun x hx => (h.blk x hx).below hb (h.blk x hx).lt, fun x hx => (h.own x hx).below hb⟩
theorem Kp.drewN (h : Kp w bs os W) (n : Nat) : Kp w bs os (W.drewN n) := ⟨below_drewN h.low n, h.blk, h.own⟩
theorem Kp.drew (h : Kp w bs os W) : Kp w bs os W.drew := ⟨h.low.drew, h.blk, h.own⟩
/-- a new slice -/
theorem Kp.add (h : Kp w bs os W) {b c : Nat} {A : Option Addr} {l : List Int} (ho : Ow W b A c l) (hb : w.heap.size ≤ b) : Kp w bs (os ++ [(A, c, l)]) W :=
  ⟨h.low, h.blk, fun x hx => by
    rcases List.mem_append.1 hx with hx | hx
    · exact h.own x hx
    · rw [List.mem_singleton] at hx; subst hx; exact ho.mono hb⟩
/-- a new block -/
theorem Kp.alloc (h : Kp w bs os W) (t : TypeId) (cs : Array Value) : Kp w (bs ++ [(W.heap.size, t, cs)]) os (W.alloc (.cells cs t)) :=
  ⟨h.low.alloc h.low.size _, fun x hx => by
    rcases List.mem_append.1 hx with hx | hx
    · exact (h.blk x hx).alloc _
    · rw [List.mem_singleton] at hx; subst hx; exact Blk.new W t cs, fun x hx => (h.own x hx).below ((Below.refl _ _).alloc (Nat.le_refl _) _)⟩
theorem Kp.size (h : Kp w bs os W) : w.heap.size ≤ W.heap.size := h.low.size
theorem Kp.b0 {g : Nat} {t : TypeId} {cs : Array Value} {r : List (Nat × TypeId × Array Value)} (h : Kp w ((g, t, cs) :: r) os W) : Blk W g t cs := h.blk _ (List.mem_cons_self)
theorem Kp.b1 {g : Nat} {t : TypeId} {cs : Array Value} {p : Nat × TypeId × Array Value} {r : List (Nat × TypeId × Array Value)} (h : Kp w (p :: (g, t, cs) :: r) os W) : Blk W g t cs := h.blk (g, t, cs) (by simp)
theorem Kp.b2 {g : Nat} {t : TypeId} {cs : Array Value} {p q : Nat × TypeId × Array Value} {r : List (Nat × TypeId × Array Value)} (h : Kp w (p :: q :: (g, t, cs) :: r) os W) : Blk W g t cs := h.blk (g, t, cs) (by simp)
theorem Kp.o0 {A : Option Addr} {c : Nat} {l : List Int} {r : List (Option Addr × Nat × List Int)} (h : Kp w bs ((A, c, l) :: r) W) : Ow W w.heap.size A c l := h.own _ (List.mem_cons_self)
theorem Kp.o1 {A : Option Addr} {c : Nat} {l : List Int} {p : Option Addr × Nat × List Int} {r : List (Option Addr × Nat × List Int)} (h : Kp w bs (p :: (A, c, l) :: r) W) : Ow W w.heap.size A c l := h.own (A, c, l) (by simp)
theorem Kp.o2 {A : Option Addr} {c : Nat} {l : List Int} {p q : Option Addr × Nat × List Int} {r : List (Option Addr × Nat × List Int)} (h : Kp w bs (p :: q :: (A, c, l) :: r) W) : Ow W w.heap.size A c l := h.own (A, c, l) (by simp)
end
/-- two structs of three cells -/
theorem Kp.six {w W : World} {g g' : Nat} {t t' : TypeId} {a b c d e f : Value} {r : List (Nat × TypeId × Array Value)} {os : List (Option Addr × Nat × List Int)} (h : Kp w ((g, t, #[a, b, c]) :: (g', t', #[d, e, f]) :: r) os W) :
    Kp w ((g, t, #[a, b, c]) :: (g', t', #[d, e, f]) :: r) os W ∧ W.cell? ⟨g, 0, none⟩ = some a ∧ W.cell? ⟨g, 1, none⟩ = some b ∧ W.cell? ⟨g, 2, none⟩ = some c ∧ W.cell? ⟨g', 0, none⟩ = some d ∧ W.cell? ⟨g', 1, none⟩ = some e ∧ W.cell? ⟨g', 2, none⟩ = some f :=
  ⟨h, h.b0.cell 0, h.b0.cell 1, h.b0.cell 2, h.b1.cell 0, h.b1.cell 1, h.b1.cell 2⟩
/-- struct parameters and a struct result of three cells, boxed one behind the other -/
theorem kp1 (w : World) (t : TypeId) (a b c : Value) :
    ∃ w0, w0 = w.alloc (.cells #[a, b, c] t) ∧ Kp w [(w.heap.size, t, #[a, b, c])] [] w0 := ⟨_, rfl, (Kp.start w).alloc t _⟩
theorem kp2 (w : World) (t u : TypeId) (cs ds : Array Value) :
    ∃ w0, w0 = (w.alloc (.cells cs t)).alloc (.cells ds u) ∧ Kp w [(w.heap.size, t, cs), (w.heap.size + 1, u, ds)] [] w0 := by
  refine ⟨_, rfl, ?_⟩
  have h := ((Kp.start w).alloc t cs).alloc u ds
  have e1 : (w.alloc (.cells cs t)).heap.size = w.heap.size + 1 := by show (w.heap.push _).size = _; simp
  rw [e1] at h; exact h
theorem kp3 (w : World) (t u v : TypeId) (cs ds es : Array Value) :
    ∃ w0, w0 = ((w.alloc (.cells cs t)).alloc (.cells ds u)).alloc (.cells es v) ∧ Kp w [(w.heap.size, t, cs), (w.heap.size + 1, u, ds), (w.heap.size + 2, v, es)] [] w0 := by
  refine ⟨_, rfl, ?_⟩
  have h := (((Kp.start w).alloc t cs).alloc u ds).alloc v es
  have e1 : (w.alloc (.cells cs t)).heap.size = w.heap.size + 1 := by show (w.heap.push _).size = _; simp
  have e2 : ((w.alloc (.cells cs t)).alloc (.cells ds u)).heap.size = w.heap.size + 2 := by show ((w.heap.push _).push _).size = _; simp
  rw [e2, e1] at h; exact h
end Go.Proofs.YtolbafckppafkaaGreatDoor
