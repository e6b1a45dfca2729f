/-
  PACKAGE ratio: Sign.
-/
import Derived.Test.YtbjclfmplndkcaaGreatDoorRc
set_option linter.unusedVariables false
set_option linter.unusedSimpArgs false
set_option linter.unnecessarySimpa false
namespace Go.Proofs.YtbjclfmplndkcaaGreatDoor
open Go.RowKit Pl

theorem boxed1 (w : World) (t : TypeId) (a b c : Value) :
    ∃ w0, w0 = w.alloc (.cells #[a, b, c] t) ∧ Below w.heap.size w w0 ∧ Blk w0 w.heap.size t #[a, b, c] :=
  ⟨_, rfl, (Below.refl _ _).alloc (Nat.le_refl _) _, Blk.new w t _⟩

set_option maxHeartbeats 600000 in
theorem Sign_any (f : F) (A A' : Option Addr) (c c' : Nat) (w : World) (h : Rd w A f.num) (h' : Rd w A' f.den) (hc : f.num.length ≤ c) (hc' : f.den.length ≤ c') :
    Calls Tryz.prog 10 #[.agg #[.bool f.neg, .slice A f.num.length c, .slice A' f.den.length c']] w fun e w' =>
      e = .returned (.int .i64 (if chk f ≠ 0 then 0 else if f.num.length = 0 then 0 else if f.neg then -1 else 1)) ∧ Below w.heap.size w w' := by
  have C1 := Lib.hid (fun W r r' => rCheck_any f A A' c c' W r r' hc hc')
  obtain ⟨w0, e0, hb0, hA⟩ := boxed1 w 24 (.bool f.neg) (.slice A f.num.length c) (.slice A' f.den.length c')
  have hlen := h.len
  generalize chk f = x at *
  obtain ⟨neg, l, m⟩ := f
  simp only at *
  obtain ⟨r, hr⟩ : ∃ r : Int, r = if x ≠ 0 then 0 else if l.length = 0 then 0 else if neg then -1 else 1 := ⟨_, rfl⟩
  rw [← hr]
  have hr' : ((x != 0) = true ∧ r = 0) ∨ (x = 0 ∧ ((l.length : Int) == 0) = true ∧ r = 0) ∨ (x = 0 ∧ ((l.length : Int) == 0) = false ∧ neg = true ∧ r = -1) ∨ (x = 0 ∧ ((l.length : Int) == 0) = false ∧ neg = false ∧ r = 1) := by
    rw [hr]
    by_cases h1 : x = 0
    · by_cases h2 : l.length = 0
      · exact .inr (.inl ⟨h1, by rw [h2]; rfl, by simp [h1, h2]⟩)
      · have h3 : ((l.length : Int) == 0) = false := beq_eq_false_iff_ne.2 (by omega)
        cases neg
        · exact .inr (.inr (.inr ⟨h1, h3, rfl, by simp [h1, h2]⟩))
        · exact .inr (.inr (.inl ⟨h1, h3, rfl, by simp [h1, h2]⟩))
    · exact .inl ⟨bne_iff_ne.2 h1, by simp [h1]⟩
  clear hr
  rcases hr' with ⟨hx, rfl⟩ | ⟨rfl, hl, rfl⟩ | ⟨rfl, hl, rfl, rfl⟩ | ⟨rfl, hl, rfl, rfl⟩
  all_goals
    go_enter Tryz.func10, Tryz.ntmps10
    go_wp2_with fail
    rw [← e0]
    clear e0
    refine (C1.out w0 (h.below hb0) (h'.below hb0)).mono ?_
    rintro e w1 ⟨rfl, hB1⟩
    have hA1 := hA.below hB1 hA.lt
    have HB := Lib.hid (below_trans hb0 hB1)
    have p0 := hA1.cell 0
    have p1 := hA1.cell 1
    have p2 := hA1.cell 2
    simp only [List.getElem?_toArray, List.getElem?_cons_zero, List.getElem?_cons_succ] at p0 p1 p2
    clear hB1 hb0 hA
    go_wp2
    go_ret
    exact ⟨rfl, HB.out⟩
end Go.Proofs.YtbjclfmplndkcaaGreatDoor
