/-
  slackwaterlaw13: example.
-/
import Derived.Test.YtolbafckppafkaaGreatDoorTe
import Derived.Test.YtolbafckppafkaaGreatDoorYR
set_option linter.unusedVariables false
set_option linter.unusedSimpArgs false
set_option linter.unnecessarySimpa false
namespace Go.Proofs.YtolbafckppafkaaGreatDoor
open Go.RowKit Pl

def ToldV (w : World) (t : Td) (e : Ending) (w' : World) : Prop := ∃ L M, e = .returned (valT t L M) ∧ OwL w' w.heap.size t.re L ∧ OwL w' w.heap.size t.im M ∧ Below w.heap.size w w'
theorem done_tv {P : Program} {fn : Func} {fr : Act} (nm : List UInt8) (i j : Int) (f k : F) (L M : Loc) (w w3 : World) (g : Nat) (hg : w.heap.size ≤ g)
    {x0 x1 x2 x3 x4 x5 x6 x7 x8 : Value} (hk3 : Blk w3 g 31 #[x0, x1, x2, x3, x4, x5, x6, x7, x8]) (hb3 : Below w.heap.size w w3) (o1 : OwL w3 w.heap.size f L) (o2 : OwL w3 w.heap.size k M)
    (H : ∀ w4 : World, w4.cell? ⟨g, 0, none⟩ = some (.string ⟨nm.toArray⟩) → w4.cell? ⟨g, 1, none⟩ = some (.int .i32 i) → w4.cell? ⟨g, 2, none⟩ = some (.int .i32 j) → w4.cell? ⟨g, 3, none⟩ = some (.bool f.neg) → w4.cell? ⟨g, 4, none⟩ = some (.slice L.A f.num.length L.c) → w4.cell? ⟨g, 5, none⟩ = some (.slice L.B f.den.length L.d) →
      w4.cell? ⟨g, 6, none⟩ = some (.bool k.neg) → w4.cell? ⟨g, 7, none⟩ = some (.slice M.A k.num.length M.c) → w4.cell? ⟨g, 8, none⟩ = some (.slice M.B k.den.length M.d) → ∀ Q : Ending → World → Prop,
      Q (.returned (.agg #[.string ⟨nm.toArray⟩, .int .i32 i, .int .i32 j, .bool f.neg, .slice L.A f.num.length L.c, .slice L.B f.den.length L.d, .bool k.neg, .slice M.A k.num.length M.c, .slice M.B k.den.length M.d])) w4 → bodyPost P fn Q .ret fr w4) :
    bodyPost P fn (ToldV w ⟨nm, i, j, f, k⟩) .ret fr (st9 w3 g (.string ⟨nm.toArray⟩) (.int .i32 i) (.int .i32 j) (.bool f.neg) (.slice L.A f.num.length L.c) (.slice L.B f.den.length L.d) (.bool k.neg) (.slice M.A k.num.length M.c) (.slice M.B k.den.length M.d)) := by
  have hk4 := st9_blk hk3 (.string ⟨nm.toArray⟩) (.int .i32 i) (.int .i32 j) (.bool f.neg) (.slice L.A f.num.length L.c) (.slice L.B f.den.length L.d) (.bool k.neg) (.slice M.A k.num.length M.c) (.slice M.B k.den.length M.d)
  have hG := st9_only w3 g (.string ⟨nm.toArray⟩) (.int .i32 i) (.int .i32 j) (.bool f.neg) (.slice L.A f.num.length L.c) (.slice L.B f.den.length L.d) (.bool k.neg) (.slice M.A k.num.length M.c) (.slice M.B k.den.length M.d)
  exact H _ (hk4.cell 0) (hk4.cell 1) (hk4.cell 2) (hk4.cell 3) (hk4.cell 4) (hk4.cell 5) (hk4.cell 6) (hk4.cell 7) (hk4.cell 8) _ ⟨L, M, rfl, o1.turned hG hk3 (by decide), o2.turned hG hk3 (by decide), below_only hb3 hG hg⟩

/-- M2 of the document's examples -/
def exT : Td := ⟨[77, 50], 8, 1, ⟨false, [3], [2]⟩, ⟨true, [1], [1]⟩⟩

set_option maxHeartbeats 2000000 in
theorem example_any (w : World) : Calls Tryz.prog 9 #[] w (ToldV w exT) := by
  have e1 : tell (smallQ 3 2) = (⟨false, [3], [2]⟩, 0) := by kernel_rfl
  have e2 : tell (smallQ (-1) 1) = (⟨true, [1], [1]⟩, 0) := by kernel_rfl
  have S1 := Lib.hid (fun W => Small0 e1 W (by omega) (by omega) (by omega) (by omega) (by omega))
  have S2 := Lib.hid (fun W => Small0 e2 W (by omega) (by omega) (by omega) (by omega) (by omega))
  unfold exT
  clear e1 e2
  generalize (⟨false, [3], [2]⟩ : F) = f at *
  generalize (⟨true, [1], [1]⟩ : F) = k at *
  obtain ⟨w0, e0, hK0⟩ : ∃ w0, w0 = w.alloc (.cells #[.string ⟨#[]⟩, .int .i32 0, .int .i32 0, .bool false, .slice none 0 0, .slice none 0 0, .bool false, .slice none 0 0, .slice none 0 0] 31) ∧ Hid (Kg w [(w.heap.size, 31, #[.string ⟨#[]⟩, .int .i32 0, .int .i32 0, .bool false, .slice none 0 0, .slice none 0 0, .bool false, .slice none 0 0, .slice none 0 0])] [] w0) :=
    ⟨_, rfl, Lib.hid ((Kg.start w).alloc _ _)⟩
  go_enter Tryz.func9, Tryz.ntmps9
  go_wp2_with fail
  rw [← e0]
  clear e0
  refine (S1.out w0).mono ?_
  rintro e w1 ⟨v1, rfl, hv1, hB⟩
  obtain ⟨L, rfl, hO⟩ := OwL.of hv1
  have HK := Lib.hid (((hK0.out.below hB).add hO hK0.out.size).alloc 27 #[.bool f.neg, .slice L.A f.num.length L.c, .slice L.B f.den.length L.d])
  clear hB hO hv1 hK0 S1
  go_wp2_with fail
  refine (S2.out _).mono ?_
  rintro e w2 ⟨v2, rfl, hv2, hB⟩
  obtain ⟨M, rfl, hO⟩ := OwL.of hv2
  have HK := Lib.hid (((HK.out.below hB).add hO HK.out.size).alloc 27 #[.bool k.neg, .slice M.A k.num.length M.c, .slice M.B k.den.length M.d])
  clear hB hO hv2 S2
  have hk := HK.out.blk (w.heap.size, 31, #[.string ⟨#[]⟩, .int .i32 0, .int .i32 0, .bool false, .slice none 0 0, .slice none 0 0, .bool false, .slice none 0 0, .slice none 0 0]) (by simp)
  obtain ⟨p0, p1, p2, p3, p4, p5, p6, p7, p8⟩ := Blk.nine hk
  have hf := Blk.frozen hk
  have HKB := Lib.hid hk
  have hk1 := HK.out.blk (w1.heap.size, 27, #[.bool f.neg, .slice L.A f.num.length L.c, .slice L.B f.den.length L.d]) (by simp)
  have hk2 := HK.out.blk (w2.heap.size, 27, #[.bool k.neg, .slice M.A k.num.length M.c, .slice M.B k.den.length M.d]) (by simp)
  obtain ⟨y0, y1, y2⟩ := And.intro (hk1.cell 0) (And.intro (hk1.cell 1) (hk1.cell 2))
  obtain ⟨z0, z1, z2⟩ := And.intro (hk2.cell 0) (And.intro (hk2.cell 1) (hk2.cell 2))
  simp only [List.getElem?_toArray, List.getElem?_cons_zero, List.getElem?_cons_succ] at y0 y1 y2 z0 z1 z2
  have O1 := Lib.hid (HK.out.own (f, L) (by simp))
  have O2 := Lib.hid (HK.out.own (k, M) (by simp))
  have HL := Lib.hid HK.out.low
  clear hk hk1 hk2 HK
  go_wp2_with fail
  exact done_tv [77, 50] 8 1 f k L M w _ w.heap.size (Nat.le_refl _) HKB.out HL.out O1.out O2.out (by
    intro w5 ha0 ha1 ha2 ha3 ha4 ha5 ha6 ha7 ha8 Q hQ
    exact bodyPost_ret (by simp [results, Tryz.results9, go_sem, ha0, ha1, ha2, ha3, ha4, ha5, ha6, ha7, ha8]) rfl hQ)
end Go.Proofs.YtolbafckppafkaaGreatDoor
