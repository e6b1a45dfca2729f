/-
  PACKAGE gauss: Check.
-/
import Derived.Test.YtolbafckppafkaaGreatDoorGb
set_option linter.unusedVariables false
set_option linter.unusedSimpArgs false
set_option linter.unnecessarySimpa false
namespace Go.Proofs.YtolbafckppafkaaGreatDoor
open Go.RowKit Pl

theorem Blk.six {w : World} {g : Nat} {t : TypeId} {a b c d e f : Value} (h : Blk w g t #[a, b, c, d, e, f]) : w.cell? ⟨g, 0, none⟩ = some a ∧ w.cell? ⟨g, 1, none⟩ = some b ∧ w.cell? ⟨g, 2, none⟩ = some c ∧ w.cell? ⟨g, 3, none⟩ = some d ∧ w.cell? ⟨g, 4, none⟩ = some e ∧ w.cell? ⟨g, 5, none⟩ = some f :=
  ⟨h.cell 0, h.cell 1, h.cell 2, h.cell 3, h.cell 4, h.cell 5⟩
/-- a complex fraction's value -/
def valG (f : F) (L : Loc) (k : F) (M : Loc) : Value := .agg #[.bool f.neg, .slice L.A f.num.length L.c, .slice L.B f.den.length L.d, .bool k.neg, .slice M.A k.num.length M.c, .slice M.B k.den.length M.d]
def arrG (f : F) (L : Loc) (k : F) (M : Loc) : Array Value := #[.bool f.neg, .slice L.A f.num.length L.c, .slice L.B f.den.length L.d, .bool k.neg, .slice M.A k.num.length M.c, .slice M.B k.den.length M.d]
theorem row1 (f : F) (L : Loc) (k : F) (M : Loc) : rowOf (flat [((f, L), (k, M))]) = arrG f L k M := rfl
theorem chks1 (f : F) (L : Loc) (k : F) (M : Loc) : chks 0 (flat [((f, L), (k, M))]) = ck2 f k := by
  show one (one 0 f) k = _
  unfold one ck2
  rw [if_pos rfl]
theorem row2 (f : F) (L : Loc) (k : F) (M : Loc) (f' : F) (L' : Loc) (k' : F) (M' : Loc) : rowOf (flat [((f, L), (k, M)), ((f', L'), (k', M'))]) = arrG f L k M ++ arrG f' L' k' M' := rfl
theorem chks2 (f : F) (L : Loc) (k : F) (M : Loc) (f' : F) (L' : Loc) (k' : F) (M' : Loc) : chks 0 (flat [((f, L), (k, M)), ((f', L'), (k', M'))]) = if ck2 f k = 0 then ck2 f' k' else ck2 f k := by
  show one (one (one (one 0 f) k) f') k' = _
  have e : one (one 0 f) k = ck2 f k := chks1 f L k M
  rw [e]
  generalize ck2 f k = z
  unfold one
  by_cases hz : z = 0
  · subst hz; rw [if_pos rfl, if_pos rfl]; rfl
  · rw [if_neg hz, if_neg hz, if_neg hz]

theorem gCheck_any (f : F) (L : Loc) (k : F) (M : Loc) (w : World) (h : RdL w f L) (h' : RdL w k M) :
    Calls Tryz.prog 16 #[valG f L k M] w fun e w' => e = .returned (.int .i64 (ck2 f k)) ∧ Below w.heap.size w w' := by
  have hB1 := (Below.refl w.heap.size w).alloc (Nat.le_refl _) (.cells (arrG f L k M) 29)
  have hB2 := hB1.alloc hB1.size (.cells (arrG f L k M) 29)
  have hR : Blk ((w.alloc (.cells (arrG f L k M) 29)).alloc (.cells (arrG f L k M) 29)) (w.heap.size + 1) 29 (rowOf (flat [((f, L), (k, M))])) := by
    have h := Blk.new (w.alloc (.cells (arrG f L k M) 29)) 29 (arrG f L k M)
    have e1 : (w.alloc (.cells (arrG f L k M) 29)).heap.size = w.heap.size + 1 := by show (w.heap.push _).size = _; simp
    rw [e1] at h
    exact h
  have C0 := asked_any [((f, L), (k, M))] (w.heap.size + 1) _ hR (by simp) (by
    intro x hx
    rw [List.mem_singleton] at hx
    subst hx
    exact ⟨h.below hB2, h'.below hB2⟩)
  rw [chks1] at C0
  have C := Lib.hid C0
  have HB := Lib.hid hB2
  clear C0 hR hB1 hB2 h h'
  unfold arrG at C HB
  unfold valG
  generalize ck2 f k = z at *
  go_enter Tryz.func16, Tryz.ntmps16
  go_wp2_with fail
  refine C.out.mono ?_
  rintro e1 w1 ⟨g, rfl, hg, hG, hB⟩
  have d0 : w1.cell? ⟨g, 0, none⟩ = some (.int .i64 z) := hG.cell 0
  have HBB := Lib.hid (below_trans HB.out hB)
  clear hg hG hB
  go_wp2
  go_ret
  exact ⟨rfl, HBB.out⟩
end Go.Proofs.YtolbafckppafkaaGreatDoor
