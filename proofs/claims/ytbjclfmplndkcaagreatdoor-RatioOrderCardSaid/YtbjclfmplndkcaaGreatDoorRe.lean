/-
  PACKAGE ratio, FOURTH PART: checks, times, turned.
-/
import Derived.Test.YtbjclfmplndkcaaGreatDoorRc
set_option linter.unusedVariables false
set_option linter.unusedSimpArgs false
set_option linter.unnecessarySimpa false
namespace Go.Proofs.YtbjclfmplndkcaaGreatDoor
open Go.RowKit Pl

/-- two structs of three cells, boxed one behind the other -/
theorem boxed2 (w : World) (t : TypeId) (a b c d e f : Value) :
    ∃ w0, w0 = (w.alloc (.cells #[a, b, c] t)).alloc (.cells #[d, e, f] t) ∧ Below w.heap.size w w0 ∧ Blk w0 w.heap.size t #[a, b, c] ∧ Blk w0 (w.heap.size + 1) t #[d, e, f] := by
  have e1 : (w.alloc (.cells #[a, b, c] t)).heap.size = w.heap.size + 1 := by show (w.heap.push _).size = _; simp
  refine ⟨_, rfl, ((Below.refl _ _).alloc (Nat.le_refl _) _).alloc (by rw [e1]; omega) _, (Blk.new w t _).alloc _, ?_⟩
  have := Blk.new (w.alloc (.cells #[a, b, c] t)) t #[d, e, f]
  rw [e1] at this; exact this

theorem checks_any (f k : F) (A A' : Option Addr) (c c' : Nat) (C C' : Option Addr) (d d' : Nat) (w : World) (h : Rd w A f.num) (h' : Rd w A' f.den) (hc : f.num.length ≤ c) (hc' : f.den.length ≤ c')
    (k1 : Rd w C k.num) (k2 : Rd w C' k.den) (hd : k.num.length ≤ d) (hd' : k.den.length ≤ d') :
    Calls Tryz.prog 20 #[.agg #[.bool f.neg, .slice A f.num.length c, .slice A' f.den.length c'], .agg #[.bool k.neg, .slice C k.num.length d, .slice C' k.den.length d']] w fun e w' =>
      e = .returned (.int .i64 (if chk f = 0 then chk k else chk f)) ∧ Below w.heap.size w w' := by
  have C1 := Lib.hid (fun W r r' => rCheck_any f A A' c c' W r r' hc hc')
  have C2 := Lib.hid (fun W r r' => rCheck_any k C C' d d' W r r' hd hd')
  obtain ⟨w0, e0, hb0, hA, hB⟩ := boxed2 w 24 (.bool f.neg) (.slice A f.num.length c) (.slice A' f.den.length c') (.bool k.neg) (.slice C k.num.length d) (.slice C' k.den.length d')
  generalize chk f = x at *
  generalize chk k = y at *
  by_cases hx : x = 0
  · rw [if_pos hx]
    subst hx
    go_enter Tryz.func20, Tryz.ntmps20
    go_wp2_with fail
    rw [← e0]
    clear e0
    refine (C1.out w0 (h.below hb0) (h'.below hb0)).mono ?_
    rintro e w1 ⟨rfl, hB1⟩
    have hB' := hB.below hB1 hB.lt
    have hb1 := below_trans hb0 hB1
    clear hB1 hB hb0 hA
    have h0 : w1.cell? ⟨w.heap.size + 1, 0, none⟩ = some (.bool k.neg) := hB'.cell 0
    have h1 : w1.cell? ⟨w.heap.size + 1, 1, none⟩ = some (.slice C k.num.length d) := hB'.cell 1
    have h2 : w1.cell? ⟨w.heap.size + 1, 2, none⟩ = some (.slice C' k.den.length d') := hB'.cell 2
    go_wp2_with fail
    refine (C2.out w1 (k1.below hb1) (k2.below hb1)).mono ?_
    rintro e w2 ⟨rfl, hB2⟩
    have HB := Lib.hid (below_trans hb1 hB2)
    clear hb1 hB2
    go_wp2
    go_ret
    exact ⟨rfl, HB.out⟩
  · rw [if_neg hx]
    have hx' : (x != 0) = true := bne_iff_ne.2 hx
    go_enter Tryz.func20, Tryz.ntmps20
    go_wp2_with fail
    rw [← e0]
    clear e0
    refine (C1.out w0 (h.below hb0) (h'.below hb0)).mono ?_
    rintro e w1 ⟨rfl, hB1⟩
    have HB := Lib.hid (below_trans hb0 hB1)
    clear hB1 hb0
    go_wp2
    go_ret
    exact ⟨rfl, HB.out⟩

theorem times_any (A A' : Option Addr) (c c' : Nat) (l m : List Int) (w : World) (h : Rd w A l) (h' : Rd w A' m) (hl : Norm l) (hm : Norm m) (h8 : l.length + m.length ≤ 8192) :
    Calls Tryz.prog 21 #[.slice A l.length c, .slice A' m.length c'] w fun e w' =>
      ∃ B d, e = .returned (.slice B (words (val l * val m)).length d) ∧ Ow w' w.heap.size B d (words (val l * val m)) ∧ Below w.heap.size w w' := by
  have C1 := Lib.hid (Mul_any A A' c c' l m w h h' hl hm h8)
  go_enter Tryz.func21, Tryz.ntmps21
  go_wp2_with fail
  refine C1.out.mono ?_
  rintro e w1 ⟨B, b, rfl, hO, hB⟩
  have HO := Lib.hid hO
  have HB := Lib.hid hB
  clear hO hB
  go_wp2
  go_ret
  exact ⟨_, _, rfl, HO.out, HB.out⟩
end Go.Proofs.YtbjclfmplndkcaaGreatDoor
