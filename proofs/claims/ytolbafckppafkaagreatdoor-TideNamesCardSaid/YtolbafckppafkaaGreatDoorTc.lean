/-
  PACKAGE tide: Check.
-/
import Derived.Test.YtolbafckppafkaaGreatDoorTa
import Derived.Test.YtolbafckppafkaaGreatDoorTb
import Derived.Test.YtolbafckppafkaaGreatDoorGc
import Derived.Test.YtolbafckppafkaaGreatDoorYK
set_option linter.unusedVariables false
set_option linter.unusedSimpArgs false
set_option linter.unnecessarySimpa false
namespace Go.Proofs.YtolbafckppafkaaGreatDoor
open Go.RowKit Pl

/-- a constituent -/
structure Td where
  name : List UInt8
  far : Int
  near : Int
  re : F
  im : F
def Td.inr (t : Td) : Prop := (-2147483648 ≤ t.far ∧ t.far ≤ 2147483647) ∧ (-2147483648 ≤ t.near ∧ t.near ≤ 2147483647) ∧ t.name.length ≤ 9223372036854775807
def valT (t : Td) (L M : Loc) : Value := .agg #[.string ⟨t.name.toArray⟩, .int .i32 t.far, .int .i32 t.near, .bool t.re.neg, .slice L.A t.re.num.length L.c, .slice L.B t.re.den.length L.d, .bool t.im.neg, .slice M.A t.im.num.length M.c, .slice M.B t.im.den.length M.d]
def tchk (t : Td) : Int := if okName t.name = false then 4 else if okRotor t.far t.near = false then 150 else ck2 t.re t.im

theorem Blk.nine {w : World} {g : Nat} {t : TypeId} {a b c d e f x y z : Value} (h : Blk w g t #[a, b, c, d, e, f, x, y, z]) : w.cell? ⟨g, 0, none⟩ = some a ∧ w.cell? ⟨g, 1, none⟩ = some b ∧ w.cell? ⟨g, 2, none⟩ = some c ∧ w.cell? ⟨g, 3, none⟩ = some d ∧ w.cell? ⟨g, 4, none⟩ = some e ∧ w.cell? ⟨g, 5, none⟩ = some f ∧ w.cell? ⟨g, 6, none⟩ = some x ∧ w.cell? ⟨g, 7, none⟩ = some y ∧ w.cell? ⟨g, 8, none⟩ = some z :=
  ⟨h.cell 0, h.cell 1, h.cell 2, h.cell 3, h.cell 4, h.cell 5, h.cell 6, h.cell 7, h.cell 8⟩

set_option maxHeartbeats 1000000 in
theorem tCheck_any (t : Td) (L M : Loc) (w : World) (ht : t.inr) (h : RdL w t.re L) (h' : RdL w t.im M) :
    Calls Tryz.prog 11 #[valT t L M] w fun e w' => e = .returned (.int .i64 (tchk t)) ∧ Below w.heap.size w w' := by
  obtain ⟨name, far, near, re, im⟩ := t
  obtain ⟨hf, hn, hl⟩ := ht
  unfold valT tchk
  simp only at *
  have C1 := Lib.hid (fun W => Name_any name W hl)
  have C2 := Lib.hid (fun W => rotCheck_any far near W hf hn)
  have C3 := Lib.hid (fun W r1 r2 => gCheck_any re L im M W r1 r2)
  have H1 := Lib.hid h
  have H2 := Lib.hid h'
  clear hf hn hl h h'
  generalize okName name = a at *
  generalize okRotor far near = b at *
  generalize ck2 re im = c at *
  unfold valG at C3
  obtain ⟨w0, e0, hK0⟩ := kq1 w 31 #[.string ⟨name.toArray⟩, .int .i32 far, .int .i32 near, .bool re.neg, .slice L.A re.num.length L.c, .slice L.B re.den.length L.d, .bool im.neg, .slice M.A im.num.length M.c, .slice M.B im.den.length M.d]
  have HK := Lib.hid hK0
  clear hK0
  cases a
  · rw [if_pos rfl]
    go_enter Tryz.func11, Tryz.ntmps11
    go_wp2_with fail
    rw [← e0]
    clear e0
    obtain ⟨p0, p1, p2, p3, p4, p5, p6, p7, p8⟩ := Blk.nine HK.out.b0
    go_wp2_with fail
    refine (C1.out w0).mono ?_
    rintro e w1 ⟨rfl, rfl⟩
    go_wp2
    go_ret
    exact ⟨rfl, HK.out.low⟩
  rw [if_neg (by decide)]
  cases b
  · rw [if_pos rfl]
    go_enter Tryz.func11, Tryz.ntmps11
    go_wp2_with fail
    rw [← e0]
    clear e0
    obtain ⟨p0, p1, p2, p3, p4, p5, p6, p7, p8⟩ := Blk.nine HK.out.b0
    go_wp2_with fail
    refine (C1.out w0).mono ?_
    rintro e w1 ⟨rfl, rfl⟩
    go_wp2_with fail
    refine (C2.out w0).mono ?_
    rintro e w1 ⟨rfl, hB⟩
    have HB := Lib.hid (below_trans HK.out.low hB)
    clear hB
    go_wp2
    go_ret
    exact ⟨rfl, HB.out⟩
  rw [if_neg (by decide)]
  go_enter Tryz.func11, Tryz.ntmps11
  go_wp2_with fail
  rw [← e0]
  clear e0
  obtain ⟨p0, p1, p2, p3, p4, p5, p6, p7, p8⟩ := Blk.nine HK.out.b0
  go_wp2_with fail
  refine (C1.out w0).mono ?_
  rintro e w1 ⟨rfl, rfl⟩
  go_wp2_with fail
  refine (C2.out w0).mono ?_
  rintro e w1 ⟨rfl, hB⟩
  have HK := Lib.hid (HK.out.below hB)
  clear hB p0 p1 p2 p3 p4 p5 p6 p7 p8
  obtain ⟨p0, p1, p2, p3, p4, p5, p6, p7, p8⟩ := Blk.nine HK.out.b0
  go_wp2_with fail
  refine (C3.out w1 (H1.out.below HK.out.low) (H2.out.below HK.out.low)).mono ?_
  rintro e w2 ⟨rfl, hB⟩
  have HB := Lib.hid (below_trans HK.out.low hB)
  clear hB
  go_wp2
  go_ret
  exact ⟨rfl, HB.out⟩
end Go.Proofs.YtolbafckppafkaaGreatDoor
