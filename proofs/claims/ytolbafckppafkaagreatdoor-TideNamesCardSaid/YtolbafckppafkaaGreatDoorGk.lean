/-
  Package gauss: words: a fraction's place in memory; reading that stands while one block turns; what a call keeps.
-/
import Derived.Test.YtolbafckppafkaaGreatDoorYB
import Derived.Test.YtolbafckppafkaaGreatDoorYI
set_option linter.unusedVariables false
set_option linter.unusedSimpArgs false
set_option linter.unnecessarySimpa false
namespace Go.Proofs.YtolbafckppafkaaGreatDoor
open Go.RowKit Pl

/-- where a fraction's words lie -/
structure Loc where
  A : Option Addr
  c : Nat
  B : Option Addr
  d : Nat
def Loc.nil : Loc := ⟨none, 0, none, 0⟩
def RdL (w : World) (f : F) (L : Loc) : Prop := Rd w L.A f.num ∧ Rd w L.B f.den ∧ f.num.length ≤ L.c ∧ f.den.length ≤ L.d
def OwL (w : World) (base : Nat) (f : F) (L : Loc) : Prop := Ow w base L.A L.c f.num ∧ Ow w base L.B L.d f.den
/-- it reads so whatever block g turns to, and whatever is made -/
def StL (g : Nat) (w : World) (f : F) (L : Loc) : Prop := ∀ w', w.grownBy w' (some g) → RdL w' f L
section
variable {w w' W W' : World} {f : F} {L : Loc} {base g : Nat}
theorem OwL.rd (h : OwL w base f L) : RdL w f L := ⟨h.1.rd, h.2.rd, h.1.le, h.2.le⟩
theorem OwL.below (h : OwL w base f L) (hb : Below w.heap.size w w') : OwL w' base f L := ⟨h.1.below hb, h.2.below hb⟩
theorem OwL.mono {base' : Nat} (h : OwL w base f L) (hb : base' ≤ base) : OwL w base' f L := ⟨h.1.mono hb, h.2.mono hb⟩
theorem OwL.zero (w : World) (base : Nat) : OwL w base F.zero Loc.nil := ⟨Ow.nil _ _, Ow.nil _ _⟩
theorem RdL.below (h : RdL w f L) (hb : Below w.heap.size w w') : RdL w' f L := ⟨h.1.below hb, h.2.1.below hb, h.2.2⟩
theorem OwL.of {v : Value} (h : OwR w base v f) : ∃ L : Loc, v = .agg #[.bool f.neg, .slice L.A f.num.length L.c, .slice L.B f.den.length L.d] ∧ OwL w base f L := by
  obtain ⟨A, c, B, d, rfl, h1, h2⟩ := h
  exact ⟨⟨A, c, B, d⟩, rfl, h1, h2⟩
theorem Ow.turned {c : Nat} {A : Option Addr} {l : List Int} {t : TypeId} {cs : Array Value} (h : Ow w base A c l) (hg : w.grownBy w' (some g)) (hk : Blk w g t cs) (ht : t ≠ 43) : Ow w' base A c l := by
  rcases h with h | ⟨b, rfl, hb, h⟩
  · exact .inl h
  · refine .inr ⟨b, rfl, hb, h.grown hg fun e => ?_⟩
    injection e with e
    subst e
    obtain ⟨cs', hk', _⟩ := h
    unfold Blk at hk hk'
    rw [hk] at hk'
    injection hk' with hk'
    injection hk' with _ ht'
    exact ht ht'
theorem OwL.turned {t : TypeId} {cs : Array Value} (h : OwL w base f L) (hg : w.grownBy w' (some g)) (hk : Blk w g t cs) (ht : t ≠ 43) : OwL w' base f L := ⟨Ow.turned h.1 hg hk ht, Ow.turned h.2 hg hk ht⟩
theorem StL.rd (h : StL g w f L) : RdL w f L := h w (only_refl _ _)
theorem StL.only (h : StL g w f L) (hg : w.grownBy w' (some g)) : StL g w' f L := fun w2 h2 => h w2 (only_trans hg h2)
theorem StL.below (h : StL g w f L) (hb : Below w.heap.size w w') : StL g w' f L := h.only (only_below hb _)
theorem OwL.st {t : TypeId} {cs : Array Value} (h : OwL w base f L) (hk : Blk w g t cs) (ht : t ≠ 43) : StL g w f L := fun w2 h2 => (h.turned h2 hk ht).rd
/-- what came in ahead of g -/
theorem RdL.st (h : RdL w f L) (hb : w.grownBy W (some g)) (hg : w.heap.size ≤ g) : StL g W f L := fun w2 h2 => by
  have h3 := only_trans hb h2
  have keep : ∀ p v, w.cell? p = some v → w2.cell? p = some v := fun p v hc => by
    have hp := World.block_lt_of_cell? w p hc
    rw [World.cell?_of_block (h3.block p.block hp (by simp; omega))]
    exact hc
  exact ⟨h.1.keep keep, h.2.1.keep keep, h.2.2⟩
theorem Blk.only {t : TypeId} {cs : Array Value} {b : Nat} (h : Blk w b t cs) (hg : w.grownBy w' (some g)) (hne : b ≠ g) : Blk w' b t cs := h.grown hg (by simp; exact hne)
theorem Blk.ne_type {t t' : TypeId} {cs cs' : Array Value} {b : Nat} (h : Blk w b t cs) (h' : Blk w g t' cs') (hne : t ≠ t') : b ≠ g := by
  rintro rfl
  unfold Blk at h h'
  rw [h] at h'
  injection h' with h'
  injection h' with _ ht
  exact hne ht
end

/-- What a call keeps: nothing older than w turned; blocks known whole; fractions in memory of its own. -/
structure Kg (w : World) (bs : List (Nat × TypeId × Array Value)) (rs : List (F × Loc)) (W : World) : Prop where
  low : Below w.heap.size w W
  blk : ∀ x ∈ bs, Blk W x.1 x.2.1 x.2.2
  own : ∀ x ∈ rs, OwL W w.heap.size x.1 x.2
section
variable {w W W' : World} {bs : List (Nat × TypeId × Array Value)} {rs : List (F × Loc)}
theorem Kg.start (w : World) : Kg w [] [] w := ⟨Below.refl _ _, (fun _ h => by cases h), (fun _ h => by cases h)⟩
theorem Kg.below (h : Kg w bs rs W) (hb : Below W.heap.size W W') : Kg w bs rs W' :=
  ⟨below_trans h.low hb, fun x hx => (h.blk x hx).below hb (h.blk x hx).lt, fun x hx => (h.own x hx).below hb⟩
theorem Kg.drew (h : Kg w bs rs W) : Kg w bs rs W.drew := ⟨h.low.drew, h.blk, h.own⟩
theorem Kg.drewN (h : Kg w bs rs W) (n : Nat) : Kg w bs rs (W.drewN n) := ⟨below_drewN h.low n, h.blk, h.own⟩
theorem Kg.size (h : Kg w bs rs W) : w.heap.size ≤ W.heap.size := h.low.size
theorem Kg.add (h : Kg w bs rs W) {b : Nat} {f : F} {L : Loc} (ho : OwL W b f L) (hb : w.heap.size ≤ b) : Kg w bs (rs ++ [(f, L)]) W :=
  ⟨h.low, h.blk, fun x hx => by
    rcases List.mem_append.1 hx with hx | hx
    · exact h.own x hx
    · rw [List.mem_singleton] at hx; subst hx; exact ho.mono hb⟩
theorem Kg.alloc (h : Kg w bs rs W) (t : TypeId) (cs : Array Value) : Kg w (bs ++ [(W.heap.size, t, cs)]) rs (W.alloc (.cells cs t)) :=
  ⟨h.low.alloc h.low.size _, fun x hx => by
    rcases List.mem_append.1 hx with hx | hx
    · exact (h.blk x hx).alloc _
    · rw [List.mem_singleton] at hx; subst hx; exact Blk.new W t cs, fun x hx => (h.own x hx).below ((Below.refl _ _).alloc (Nat.le_refl _) _)⟩
/-- block g, the first on the list, has turned -/
theorem Kg.turn {g : Nat} {t : TypeId} {cs cs' : Array Value} {r : List (Nat × TypeId × Array Value)} (h : Kg w ((g, t, cs) :: r) rs W) (hg : W.grownBy W' (some g)) (hk : Blk W' g t cs') (hn : ∀ x ∈ r, x.2.1 ≠ t) (ht : t ≠ 43) (hw : w.heap.size ≤ g) :
    Kg w ((g, t, cs') :: r) rs W' := by
  have hk0 : Blk W g t cs := h.blk (g, t, cs) (List.mem_cons_self)
  refine ⟨?_, fun x hx => ?_, fun x hx => (h.own x hx).turned hg hk0 ht⟩
  · exact ⟨hg.os.trans h.low.os, hg.tape.trans h.low.tape, hg.output.trans h.low.output, Nat.le_trans h.low.size hg.size, fun k hk => (hg.block k (Nat.lt_of_lt_of_le hk h.low.size) (by simp; omega)).trans (h.low.block k hk)⟩
  · rcases List.mem_cons.1 hx with rfl | hx
    · exact hk
    · have hb := h.blk x (List.mem_cons_of_mem _ hx)
      exact hb.only hg (hb.ne_type hk0 (hn x hx))
theorem Kg.subs {bs' : List (Nat × TypeId × Array Value)} {rs' : List (F × Loc)} (h : Kg w bs rs W) (hb : ∀ x ∈ bs', x ∈ bs) (ho : ∀ x ∈ rs', x ∈ rs) : Kg w bs' rs' W :=
  ⟨h.low, fun x hx => h.blk x (hb x hx), fun x hx => h.own x (ho x hx)⟩
end
end Go.Proofs.YtolbafckppafkaaGreatDoor
