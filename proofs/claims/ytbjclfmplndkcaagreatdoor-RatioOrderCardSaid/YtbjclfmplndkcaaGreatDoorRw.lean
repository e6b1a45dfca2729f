/-
  PACKAGE ratio: turned, words.
-/
import Derived.Test.YtbjclfmplndkcaaGreatDoorRe
set_option linter.unusedVariables false
set_option linter.unusedSimpArgs false
set_option linter.unnecessarySimpa false
namespace Go.Proofs.YtbjclfmplndkcaaGreatDoor
open Go.RowKit Pl

theorem turned_any (f : F) (A A' : Option Addr) (c c' : Nat) (w : World) (hl : f.num.length ≤ 9223372036854775807) :
    Calls Tryz.prog 27 #[.agg #[.bool f.neg, .slice A f.num.length c, .slice A' f.den.length c']] w fun e w' =>
      e = .returned (.agg #[.bool (!f.neg && decide (f.num ≠ [])), .slice A f.num.length c, .slice A' f.den.length c']) ∧ Below w.heap.size w w' := by
  obtain ⟨neg, l, m⟩ := f
  simp only at *
  obtain ⟨s, hs⟩ : ∃ s, s = (!neg && decide (l ≠ [])) := ⟨_, rfl⟩
  rw [← hs]
  have hs' : (neg = true ∧ s = false) ∨ (neg = false ∧ 0 < l.length ∧ s = true) ∨ (neg = false ∧ ¬ 0 < l.length ∧ s = false) := by
    rw [hs, List.length_pos_iff]; by_cases h3 : l = [] <;> cases neg <;> simp [h3]
  clear hs
  rcases hs' with ⟨rfl, rfl⟩ | ⟨rfl, h3, rfl⟩ | ⟨rfl, h3, rfl⟩
  all_goals
    go_enter Tryz.func27, Tryz.ntmps27
    go_wp2_with fail
  · obtain ⟨w0, e0, hb0, hA, hB⟩ := boxed2 w 24 (.bool false) (.slice A l.length c) (.slice A' m.length c') (.bool false) (.slice A l.length c) (.slice A' m.length c')
    rw [← e0]
    clear e0
    have h0 : w0.cell? ⟨w.heap.size + 1, 0, none⟩ = some (.bool false) := hB.cell 0
    have h1 : w0.cell? ⟨w.heap.size + 1, 1, none⟩ = some (.slice A l.length c) := hB.cell 1
    have h2 : w0.cell? ⟨w.heap.size + 1, 2, none⟩ = some (.slice A' m.length c') := hB.cell 2
    exact bodyPost_ret (v := .agg #[.bool false, .slice A l.length c, .slice A' m.length c']) (by simp [results, Tryz.results27, go_sem, h0, h1, h2]) rfl ⟨rfl, hb0⟩
  · obtain ⟨w0, e0, hb0, hA, hB⟩ := boxed2 w 24 (.bool true) (.slice A l.length c) (.slice A' m.length c') (.bool true) (.slice A l.length c) (.slice A' m.length c')
    rw [← e0]
    clear e0
    have h0 : w0.cell? ⟨w.heap.size + 1, 0, none⟩ = some (.bool true) := hB.cell 0
    have h1 : w0.cell? ⟨w.heap.size + 1, 1, none⟩ = some (.slice A l.length c) := hB.cell 1
    have h2 : w0.cell? ⟨w.heap.size + 1, 2, none⟩ = some (.slice A' m.length c') := hB.cell 2
    exact bodyPost_ret (v := .agg #[.bool true, .slice A l.length c, .slice A' m.length c']) (by simp [results, Tryz.results27, go_sem, h0, h1, h2]) rfl ⟨rfl, hb0⟩
  · obtain ⟨w0, e0, hb0, hA, hB⟩ := boxed2 w 24 (.bool false) (.slice A l.length c) (.slice A' m.length c') (.bool false) (.slice A l.length c) (.slice A' m.length c')
    rw [← e0]
    clear e0
    have h0 : w0.cell? ⟨w.heap.size + 1, 0, none⟩ = some (.bool false) := hB.cell 0
    have h1 : w0.cell? ⟨w.heap.size + 1, 1, none⟩ = some (.slice A l.length c) := hB.cell 1
    have h2 : w0.cell? ⟨w.heap.size + 1, 2, none⟩ = some (.slice A' m.length c') := hB.cell 2
    exact bodyPost_ret (v := .agg #[.bool false, .slice A l.length c, .slice A' m.length c']) (by simp [results, Tryz.results27, go_sem, h0, h1, h2]) rfl ⟨rfl, hb0⟩
end Go.Proofs.YtbjclfmplndkcaaGreatDoor
