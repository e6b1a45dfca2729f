/-
  slackwaterlaw13: awake, walked.
-/
import Derived.Test.YtolbafckppafkaaGreatDoorTi
set_option linter.unusedVariables false
set_option linter.unusedSimpArgs false
set_option linter.unnecessarySimpa false
namespace Go.Proofs.YtolbafckppafkaaGreatDoor
open Go.RowKit Pl

theorem RdL.drew {w : World} {f : F} {L : Loc} (h : RdL w f L) : RdL w.drew f L := h.below (Below.refl _ _).drew

set_option maxRecDepth 100000 in
set_option maxHeartbeats 8000000 in
theorem awake13 (w : World) (htab : Tab w) (herr : Errs w) :
    Calls Tryz.prog 8 #[] w fun e w' => e = .returned (.bool true) ∧ Below w.heap.size w w' := by
  have EX := fun W => example_any W
  have hin : exT.inr := ⟨by decide, by decide, by decide⟩
  have PR := fun L M W h h' t => tPrint_any exT L M W hin h h' t
  rw [ex_print] at PR
  have PA := fun W t e => tParse_any M2 W (by decide) t e
  rw [ex_parse] at PA
  have CK := fun L M W h h' => tCheck_any exT L M W hin h h'
  rw [ex_chk] at CK
  have SM := fun L M L' M' W h1 h2 h3 h4 => tSame_eq exT L M L' M' W h1 h2 h3 h4
  unfold ToldV at EX
  unfold ToldT at PA
  unfold M2 at PA PR
  clear hin
  generalize exT = t at *
  obtain ⟨nm, i, j, f, k⟩ := t
  unfold valT at EX PR PA CK SM
  simp only at EX PR PA CK SM
  have HEX := Lib.hid EX
  have HPR := Lib.hid PR
  have HPA := Lib.hid PA
  have HCK := Lib.hid CK
  have HSM := Lib.hid SM
  clear EX PR PA CK SM
  have HT := Lib.hid htab
  have HE := Lib.hid herr
  clear htab herr
  have hK0 := Lib.hid (Kg.start w)
  go_enter Tryz.func8, Tryz.ntmps8
  go_wp2_with fail
  refine (HEX.out w).mono ?_
  rintro e w1 ⟨L1, M1, rfl, hO1, hO2, hB⟩
  have HK := Lib.hid (((hK0.out.below hB).add hO1 hK0.out.size).add hO2 hK0.out.size)
  clear hB hO1 hO2 hK0
  go_wp2_with fail
  refine (HPR.out L1 M1 w1 (HK.out.rd (by simp)) (HK.out.rd (by simp)) (HT.out.low HK.out.low (Nat.le_refl _))).mono ?_
  rintro e w2 ⟨rfl, hB⟩
  have HK := Lib.hid (HK.out.below hB)
  clear hB
  go_wp2_with fail
  refine (HPA.out w2 (HT.out.low HK.out.low (Nat.le_refl _)) (HE.out.low HK.out.low (Nat.le_refl _))).mono ?_
  rintro e w3 ⟨L2, M2, rfl, hO1, hO2, hB⟩
  have HK := Lib.hid ((Kg.subs (((HK.out.below hB).add hO1 HK.out.size).add hO2 HK.out.size) (bs' := []) (rs' := [(f, L2), (k, M2)]) (by simp) (by simp)).alloc 31 #[.string ⟨nm.toArray⟩, .int .i32 i, .int .i32 j, .bool f.neg, .slice L2.A f.num.length L2.c, .slice L2.B f.den.length L2.d, .bool k.neg, .slice M2.A k.num.length M2.c, .slice M2.B k.den.length M2.d])
  clear hB hO1 hO2
  obtain ⟨w4, e4⟩ : ∃ w4, w4 = w3.alloc (.cells #[.string ⟨nm.toArray⟩, .int .i32 i, .int .i32 j, .bool f.neg, .slice L2.A f.num.length L2.c, .slice L2.B f.den.length L2.d, .bool k.neg, .slice M2.A k.num.length M2.c, .slice M2.B k.den.length M2.d] 31) := ⟨_, rfl⟩
  rw [← e4] at HK
  go_upto_region 3 with fail
  rw [← e4]
  clear e4
  obtain ⟨p0, p1, p2, p3, p4, p5, p6, p7, p8⟩ := HK.out.nine0
  go_region_held3 (fun W => W.cell? ⟨w3.heap.size, 0, none⟩ = some (.string ⟨nm.toArray⟩) ∧ W.cell? ⟨w3.heap.size, 1, none⟩ = some (.int .i32 i) ∧ W.cell? ⟨w3.heap.size, 2, none⟩ = some (.int .i32 j) ∧ W.cell? ⟨w3.heap.size, 3, none⟩ = some (.bool f.neg) ∧ W.cell? ⟨w3.heap.size, 4, none⟩ = some (.slice L2.A f.num.length L2.c) ∧ W.cell? ⟨w3.heap.size, 5, none⟩ = some (.slice L2.B f.den.length L2.d) ∧ W.cell? ⟨w3.heap.size, 6, none⟩ = some (.bool k.neg) ∧ W.cell? ⟨w3.heap.size, 7, none⟩ = some (.slice M2.A k.num.length M2.c) ∧ W.cell? ⟨w3.heap.size, 8, none⟩ = some (.slice M2.B k.den.length M2.d)) (first | exact HK.out.nine0 | exact HK.out.drew.nine0) (first | (go_at_call 9; (with_reducible refine (HEX.out _).mono ?_); rintro e w5 ⟨L3, M3, rfl, hO1, hO2, hB⟩; (first | have HK := Lib.hid (((HK.out.below hB).add hO1 HK.out.size).add hO2 HK.out.size) | have HK := Lib.hid (((HK.out.drew.below hB).add hO1 HK.out.drew.size).add hO2 HK.out.drew.size)); clear hO1 hO2 hB) | (go_at_call 30; (with_reducible refine (HSM.out L2 M2 L3 M3 _ ?_ ?_ ?_ ?_).mono ?_); (first | exact HK.out.rd (by simp) | exact (HK.out.drew).rd (by simp) | exact RdL.drew (HK.out.rd (by simp))); (first | exact HK.out.rd (by simp) | exact (HK.out.drew).rd (by simp) | exact RdL.drew (HK.out.rd (by simp))); (first | exact HK.out.rd (by simp) | exact (HK.out.drew).rd (by simp) | exact RdL.drew (HK.out.rd (by simp))); (first | exact HK.out.rd (by simp) | exact (HK.out.drew).rd (by simp) | exact RdL.drew (HK.out.rd (by simp))); rintro e w6 ⟨rfl, hB⟩; (first | have HK := Lib.hid (HK.out.below hB) | have HK := Lib.hid (HK.out.drew.below hB)); clear hB) | (go_at_call 11; (with_reducible refine (HCK.out L3 M3 _ ?_ ?_).mono ?_); (first | exact HK.out.rd (by simp) | exact (HK.out.drew).rd (by simp) | exact RdL.drew (HK.out.rd (by simp))); (first | exact HK.out.rd (by simp) | exact (HK.out.drew).rd (by simp) | exact RdL.drew (HK.out.rd (by simp))); rintro e w6 ⟨rfl, hB⟩; (first | have HK := Lib.hid (HK.out.below hB) | have HK := Lib.hid (HK.out.drew.below hB)); clear hB))
  all_goals (go_wp2; go_ret; exact ⟨rfl, HK.out.low⟩)
end Go.Proofs.YtolbafckppafkaaGreatDoor
