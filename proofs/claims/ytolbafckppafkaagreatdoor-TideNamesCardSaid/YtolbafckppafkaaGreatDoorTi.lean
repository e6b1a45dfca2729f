/-
  slackwaterlaw13: awake.
-/
import Derived.Test.YtolbafckppafkaaGreatDoorTf
import Derived.Test.YtolbafckppafkaaGreatDoorTg
import Derived.Test.YtolbafckppafkaaGreatDoorTh
import Derived.Deep.RegionHeld3
set_option linter.unusedVariables false
set_option linter.unusedSimpArgs false
set_option linter.unnecessarySimpa false
namespace Go.Proofs.YtolbafckppafkaaGreatDoor
open Go.RowKit Pl

theorem Kg.rd {w W : World} {bs : List (Nat × TypeId × Array Value)} {rs : List (F × Loc)} (h : Kg w bs rs W) {f : F} {L : Loc} (hm : (f, L) ∈ rs) : RdL W f L := (h.own _ hm).rd
theorem Kg.nine0 {w W : World} {g : Nat} {t : TypeId} {a b c d e f x y z : Value} {bs : List (Nat × TypeId × Array Value)} {rs : List (F × Loc)} (h : Kg w ((g, t, #[a, b, c, d, e, f, x, y, z]) :: bs) rs W) :
    W.cell? ⟨g, 0, none⟩ = some a ∧ W.cell? ⟨g, 1, none⟩ = some b ∧ W.cell? ⟨g, 2, none⟩ = some c ∧ W.cell? ⟨g, 3, none⟩ = some d ∧ W.cell? ⟨g, 4, none⟩ = some e ∧ W.cell? ⟨g, 5, none⟩ = some f ∧ W.cell? ⟨g, 6, none⟩ = some x ∧ W.cell? ⟨g, 7, none⟩ = some y ∧ W.cell? ⟨g, 8, none⟩ = some z :=
  Blk.nine (h.blk _ List.mem_cons_self)

def M2 : List UInt8 := [77, 50, 32, 56, 32, 49, 32, 51, 47, 50, 32, 45, 49]
theorem itoa8 : Lib.itoa 8 = [56] := by
  unfold Lib.itoa
  rw [if_neg (by decide), dec_eq]; kernel_rfl
theorem itoa1 : Lib.itoa 1 = [49] := by
  unfold Lib.itoa
  rw [if_neg (by decide), dec_eq]; kernel_rfl
theorem ex_chk : tchk exT = 0 := by kernel_rfl
theorem ex_print : printT exT = (M2, 0) := by
  unfold printT
  rw [ex_chk, if_neg (by decide)]
  have e1 : printG exT.re exT.im = ([51, 47, 50, 32, 45, 49], 0) := by kernel_rfl
  unfold showT
  rw [e1, if_neg (by decide)]
  have e2 : Lib.itoa exT.far = [56] := itoa8
  have e3 : Lib.itoa exT.near = [49] := itoa1
  rw [e2, e3]
  refine Eq.trans ?_ rfl
  kernel_rfl
theorem isNum8 : isNum [56] = true ∧ numOf [56] = 8 := by
  have e : Lib.atoiAll [56] = .ok 8 := by kernel_rfl
  unfold isNum numOf
  rw [e]
  simp only [itoa8]
  exact ⟨by simp, IntWalk.wrap32_in 8 (by decide)⟩
theorem isNum1 : isNum [49] = true ∧ numOf [49] = 1 := by
  have e : Lib.atoiAll [49] = .ok 1 := by kernel_rfl
  unfold isNum numOf
  rw [e]
  simp only [itoa1]
  exact ⟨by simp, IntWalk.wrap32_in 1 (by decide)⟩
theorem ex_parse : parseT M2 = (exT, 0) := by
  unfold parseT
  rw [if_neg (by decide)]
  have c1 : cutB M2 32 = ([77, 50], [56, 32, 49, 32, 51, 47, 50, 32, 45, 49], true) := by kernel_rfl
  have c2 : cutB [56, 32, 49, 32, 51, 47, 50, 32, 45, 49] 32 = ([56], [49, 32, 51, 47, 50, 32, 45, 49], true) := by kernel_rfl
  have c3 : cutB [49, 32, 51, 47, 50, 32, 45, 49] 32 = ([49], [51, 47, 50, 32, 45, 49], true) := by kernel_rfl
  have g : parseG [51, 47, 50, 32, 45, 49] = (⟨false, [3], [2]⟩, ⟨true, [1], [1]⟩, 0) := by kernel_rfl
  simp only [c1, c2, c3, g, isNum8.1, isNum8.2, isNum1.1, isNum1.2]
  refine Eq.trans ?_ rfl
  kernel_rfl
end Go.Proofs.YtolbafckppafkaaGreatDoor
