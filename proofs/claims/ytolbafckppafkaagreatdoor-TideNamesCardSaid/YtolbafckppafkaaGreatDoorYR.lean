/-
  Stable texts joined: Rr.
-/
import Derived.Test.YtolbafckppafkaaGreatDoorYQ
import Derived.Test.YtolbafckppafkaaGreatDoorYI
/-
  PACKAGE ratio: Parse, whole; Small, by its fraction.
-/
set_option linter.unusedVariables false
set_option linter.unusedSimpArgs false
set_option linter.unnecessarySimpa false
namespace Go.Proofs.YtolbafckppafkaaGreatDoor
open Go.RowKit Pl

theorem Parse0_any (l : List UInt8) (w : World) (hs : l.length ≤ 9223372036854775807) :
    Calls Tryz.prog 46 #[.string ⟨l.toArray⟩] w fun e w' => ∃ v, e = .returned (.tuple #[v, .int .i64 (parseR l).2]) ∧ OwR w' w.heap.size v (parseR l).1 ∧ Below w.heap.size w w' := by
  unfold parseR
  by_cases h0 : 65536 < l.length
  · rw [if_pos h0]; exact Parse0_long l w h0 hs
  rw [if_neg h0]
  have hs' : l.length ≤ 65536 := by omega
  by_cases h1 : (parseN (pTop l)).2 = 0
  case neg => rw [if_pos h1]; exact Parse0_num l w hs' h1
  rw [if_neg (fun h => h h1)]
  by_cases h2 : pNeg l = true ∧ (parseN (pTop l)).1.length = 0
  · rw [if_pos h2]; exact Parse0_neg l w hs' h1 h2.1 h2.2
  rw [if_neg h2]
  cases hb : (cutB l 47).2.2
  · have e1 : pDen l = ([1], 0) := by unfold pDen; rw [hb]; rfl
    rw [e1, if_neg (fun h => h rfl), if_neg (fun h => by cases h.1)]
    by_cases h5 : (val (parseN (pTop l)).1).gcd (val [1]) = 1
    case neg => rw [if_pos h5]; exact Parse0_gcd' l w hs' h1 h2 hb h5
    rw [if_neg (fun h => h h5)]
    by_cases h6 : 2048 < (parseN (pTop l)).1.length
    · rw [if_pos h6]; exact Parse0_ln' l w hs' h1 h2 hb h5 h6
    · rw [if_neg h6, if_neg (by simp)]; exact Parse0_yes' l w hs' h1 h2 hb h5 h6
  · have e1 : pDen l = parseN (cutB l 47).2.1 := by unfold pDen; rw [if_pos hb]
    rw [e1]
    by_cases h3 : (parseN (cutB l 47).2.1).2 = 0
    case neg => rw [if_pos h3]; exact Parse0_den l w hs' h1 h2 hb h3
    rw [if_neg (fun h => h h3)]
    by_cases h4 : val (parseN (cutB l 47).2.1).1 ≤ 1
    · rw [if_pos ⟨rfl, h4⟩]; exact Parse0_one l w hs' h1 h2 hb h3 h4
    rw [if_neg (fun h => h4 h.2)]
    by_cases h5 : (val (parseN (pTop l)).1).gcd (val (parseN (cutB l 47).2.1).1) = 1
    case neg => rw [if_pos h5]; exact Parse0_gcd l w hs' h1 h2 hb h3 h4 h5
    rw [if_neg (fun h => h h5)]
    by_cases h6 : 2048 < (parseN (pTop l)).1.length
    · rw [if_pos h6]; exact Parse0_ln l w hs' h1 h2 hb h3 h4 h5 (.inl h6)
    rw [if_neg h6]
    by_cases h7 : 2048 < (parseN (cutB l 47).2.1).1.length
    · rw [if_pos h7]; exact Parse0_ln l w hs' h1 h2 hb h3 h4 h5 (.inr h7)
    rw [if_neg h7]
    exact Parse0_yes l w hs' h1 h2 hb h3 h4 h5 h6 h7

/-- Small's fraction -/
def smallQ (n d : Int) : Rat := mkRat (sg (decide (n < 0) != decide (d < 0)) n.natAbs) d.natAbs

theorem tell_good {q : Rat} (h : (tell q).2 = 0) : (tell q).1.ok ∧ (tell q).1.q = q := by
  unfold tell at *
  by_cases hf : fits q
  · rw [if_pos hf]; exact ⟨F.of_ok hf, F.q_of q⟩
  · rw [if_neg hf] at h; cases h
theorem tell_good' {q : Rat} {f : F} (h : tell q = (f, 0)) : f.ok ∧ f.q = q := by
  have := tell_good (q := q) (by rw [h])
  rwa [h] at this
theorem tell_zero {q : Rat} (h : (tell q).2 ≠ 0) : tell q = (F.zero, 3) := by
  unfold tell at *
  by_cases hf : fits q
  · rw [if_pos hf] at h; exact absurd rfl h
  · rw [if_neg hf]

/-- what a callee told is told on, alone -/
theorem done_v {P : Program} {fn : Func} {fr : Act} (f : F) (B1 : Option Addr) (b1 : Nat) (B2 : Option Addr) (b2 : Nat) (w w3 : World) (g base : Nat) (hg : w.heap.size ≤ g) (hgb : g < base)
    {a b c : Value} (hk3 : Blk w3 g 27 #[a, b, c]) (hb3 : Below w.heap.size w w3) (hn : Ow w3 base B1 b1 f.num) (hd : Ow w3 base B2 b2 f.den)
    (H : ∀ w4 : World, w4.cell? ⟨g, 0, none⟩ = some (.bool f.neg) → w4.cell? ⟨g, 1, none⟩ = some (.slice B1 f.num.length b1) → w4.cell? ⟨g, 2, none⟩ = some (.slice B2 f.den.length b2) → ∀ Q : Ending → World → Prop,
      Q (.returned (.agg #[.bool f.neg, .slice B1 f.num.length b1, .slice B2 f.den.length b2])) w4 → bodyPost P fn Q .ret fr w4) :
    bodyPost P fn (fun e w' => ∃ v, e = .returned v ∧ OwR w' w.heap.size v f ∧ Below w.heap.size w w') .ret fr (st3 w3 g (.bool f.neg) (.slice B1 f.num.length b1) (.slice B2 f.den.length b2)) := by
  have hk4 := st3_blk hk3 (.bool f.neg) (.slice B1 f.num.length b1) (.slice B2 f.den.length b2)
  have hb4 := st3_below hb3 hg (.bool f.neg) (.slice B1 f.num.length b1) (.slice B2 f.den.length b2)
  refine H _ (hk4.cell 0) (hk4.cell 1) (hk4.cell 2) _ ⟨_, rfl, ⟨B1, b1, B2, b2, rfl, (hn.st3 hgb _ _ _).mono (by omega), (hd.st3 hgb _ _ _).mono (by omega)⟩, hb4⟩

theorem Small0 {n d : Int} {f : F} {er : Int} (h : tell (smallQ n d) = (f, er)) (w : World) (hn1 : -9223372036854775808 ≤ n) (hn2 : n ≤ 9223372036854775807) (hd1 : -9223372036854775808 ≤ d) (hd2 : d ≤ 9223372036854775807) (h0 : d ≠ 0) :
    Calls Tryz.prog 26 #[.int .i64 n, .int .i64 d] w fun e w' => ∃ v, e = .returned (.tuple #[v, .int .i64 er]) ∧ OwR w' w.heap.size v f ∧ Below w.heap.size w w' := by
  have S := Small_any n d w hn1 hn2 hd1 hd2 h0
  unfold smallQ at h
  rw [h] at S
  exact S
end Go.Proofs.YtolbafckppafkaaGreatDoor
