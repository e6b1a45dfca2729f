/-
  slackwaterlaw03.awake: the document's examples.
-/
import Derived.Test.YtbjclfmplndkcaaGreatDoorRr
set_option linter.unusedVariables false
set_option linter.unusedSimpArgs false
set_option linter.unnecessarySimpa false
namespace Go.Proofs.YtbjclfmplndkcaaGreatDoor
open Go.RowKit Pl

theorem add_zero_ok {f k g : F} (h : addR f k = (g, 0)) (hf : f.ok) (hk : k.ok) : g.ok ∧ g.q = f.q + k.q := by
  unfold addR at h
  by_cases hx : ck2 f k = 0
  · rw [if_neg (fun h => h hx)] at h; exact tell_good' h
  · rw [if_pos hx] at h; injection h with _ h2; exact absurd h2 hx
theorem quo_zero_ok {f k g : F} (h : quoR f k = (g, 0)) : g.ok := by
  unfold quoR at h
  by_cases hx : ck2 f k = 0
  · rw [if_neg (fun h => h hx)] at h
    split at h
    · injection h with _ h2; cases h2
    · exact (tell_good' h).1
  · rw [if_pos hx] at h; injection h with _ h2; exact absurd h2 hx

set_option maxRecDepth 100000 in
set_option maxHeartbeats 4000000 in
theorem awake_any (w : World) (htab : Tab w) :
    Calls Tryz.prog 4 #[] w fun e w' => e = .returned (.bool true) ∧ Below w.heap.size w w' := by
  have ea : tell (smallQ 6 (-4)) = (⟨true, [3], [2]⟩, 0) := by kernel_rfl
  have e12 : tell (smallQ 1 2) = (⟨false, [1], [2]⟩, 0) := by kernel_rfl
  have e13 : tell (smallQ 1 3) = (⟨false, [1], [3]⟩, 0) := by kernel_rfl
  have e14 : tell (smallQ (-1) 4) = (⟨true, [1], [4]⟩, 0) := by kernel_rfl
  have es : addR ⟨false, [1], [2]⟩ ⟨false, [1], [3]⟩ = (⟨false, [5], [6]⟩, 0) := by kernel_rfl
  have eq : quoR ⟨false, [1], [2]⟩ ⟨true, [1], [4]⟩ = (⟨true, [2], [1]⟩, 0) := by kernel_rfl
  have ep : parseR [45, 51, 47, 50] = (⟨true, [3], [2]⟩, 0) := by kernel_rfl
  have Kfa : Hid ((⟨true, [3], [2]⟩ : F).ok ∧ showF ⟨true, [3], [2]⟩ = [45, 51, 47, 50]) := Lib.hid ⟨(tell_good' ea).1, by kernel_rfl⟩
  have Kfs : Hid ((⟨false, [5], [6]⟩ : F).ok ∧ showF ⟨false, [5], [6]⟩ = [53, 47, 54]) := Lib.hid ⟨(add_zero_ok es (tell_good' e12).1 (tell_good' e13).1).1, by kernel_rfl⟩
  have Kfq : Hid ((⟨true, [2], [1]⟩ : F).ok ∧ showF ⟨true, [2], [1]⟩ = [45, 50]) := Lib.hid ⟨quo_zero_ok eq, by kernel_rfl⟩
  have Kfp := Kfa
  have S1 := Lib.hid (fun W => Small0 ea W (by omega) (by omega) (by omega) (by omega) (by omega))
  have S12 := Lib.hid (fun W => small0 e12 W (by omega) (by omega) (by omega) (by omega) (by omega))
  have S13 := Lib.hid (fun W => small0 e13 W (by omega) (by omega) (by omega) (by omega) (by omega))
  have S14 := Lib.hid (fun W => small0 e14 W (by omega) (by omega) (by omega) (by omega) (by omega))
  have A1 := fun A A' c c' C C' d d' W h h' hc hc' k1 k2 hd hd' => Add0_any ⟨false, [1], [2]⟩ ⟨false, [1], [3]⟩ A A' c c' C C' d d' W h h' hc hc' k1 k2 hd hd'
  rw [es] at A1
  have HAdd := Lib.hid (fun A A' c c' C C' d d' W h h' hc hc' k1 k2 hd hd' => A1 A A' c c' C C' d d' W h h' hc hc' k1 k2 hd hd')
  have Q1 := fun A A' c c' C C' d d' W h h' hc hc' k1 k2 hd hd' => Quo0_any ⟨false, [1], [2]⟩ ⟨true, [1], [4]⟩ A A' c c' C C' d d' W h h' hc hc' k1 k2 hd hd'
  rw [eq] at Q1
  have HQuo := Lib.hid (fun A A' c c' C C' d d' W h h' hc hc' k1 k2 hd hd' => Q1 A A' c c' C C' d d' W h h' hc hc' k1 k2 hd hd')
  have P1 := fun W => Parse0_any [45, 51, 47, 50] W (by simp)
  rw [ep] at P1
  have SP := Lib.hid P1
  have HSame := Lib.hid (fun A A' c c' C C' d d' W h h' k1 k2 => Same_any ⟨true, [3], [2]⟩ ⟨true, [3], [2]⟩ A A' c c' C C' d d' W h h' k1 k2)
  have HT := Lib.hid htab
  clear A1 Q1 P1 ea e12 e13 e14 es eq ep htab
  rw [show ((⟨true, [3], [2]⟩ : F).neg == (⟨true, [3], [2]⟩ : F).neg && decide ((⟨true, [3], [2]⟩ : F).num = (⟨true, [3], [2]⟩ : F).num) && decide ((⟨true, [3], [2]⟩ : F).den = (⟨true, [3], [2]⟩ : F).den)) = true from by decide] at HSame
  generalize (⟨false, [5], [6]⟩ : F) = fs at *
  generalize (⟨true, [2], [1]⟩ : F) = fq at *
  generalize (⟨false, [1], [2]⟩ : F) = f12 at *
  generalize (⟨false, [1], [3]⟩ : F) = f13 at *
  generalize (⟨true, [1], [4]⟩ : F) = f14 at *
  generalize (⟨true, [3], [2]⟩ : F) = fp at *

  go_enter Tryz.func4, Tryz.ntmps4
  have HK := Lib.hid (Kp.start w)
  go_wp2_with fail
  refine (S1.out w).mono ?_
  rintro e w1 ⟨v, rfl, ⟨A1, a1, B1, b1, hv, h1, h2⟩, hB⟩
  have HK := Lib.hid (((HK.out.below hB).add h1 HK.out.size).add h2 HK.out.size)
  clear h1 h2 hB
  subst hv
  have HK := Lib.hid (HK.out.alloc 24 #[.bool fp.neg, .slice A1 fp.num.length a1, .slice B1 fp.den.length b1])
  go_wp2_with fail
  obtain ⟨w1', hW⟩ : ∃ W, W = w1.alloc (.cells #[.bool fp.neg, .slice A1 fp.num.length a1, .slice B1 fp.den.length b1] 24) := ⟨_, rfl⟩
  rw [← hW] at HK ⊢
  clear hW
  refine (S12.out w1').mono ?_
  rintro e w2 ⟨v, rfl, ⟨A2, a2, B2, b2, hv, h1, h2⟩, hB⟩
  have HK := Lib.hid (((HK.out.below hB).add h1 HK.out.size).add h2 HK.out.size)
  clear h1 h2 hB
  subst hv
  go_wp2_with fail
  refine (S13.out w2).mono ?_
  rintro e w3 ⟨v, rfl, ⟨A3, a3, B3, b3, hv, h1, h2⟩, hB⟩
  have HK := Lib.hid (((HK.out.below hB).add h1 HK.out.size).add h2 HK.out.size)
  clear h1 h2 hB
  subst hv
  go_wp2_with fail
  refine (HAdd.out A2 B2 a2 b2 A3 B3 a3 b3 w3 (HK.out.own (A2, a2, f12.num) (by simp)).rd (HK.out.own (B2, b2, f12.den) (by simp)).rd (HK.out.own (A2, a2, f12.num) (by simp)).le (HK.out.own (B2, b2, f12.den) (by simp)).le (HK.out.own (A3, a3, f13.num) (by simp)).rd (HK.out.own (B3, b3, f13.den) (by simp)).rd (HK.out.own (A3, a3, f13.num) (by simp)).le (HK.out.own (B3, b3, f13.den) (by simp)).le).mono ?_
  rintro e w4 ⟨v, rfl, ⟨A4, a4, B4, b4, hv, h1, h2⟩, hB⟩
  have HK := Lib.hid (((HK.out.below hB).add h1 HK.out.size).add h2 HK.out.size)
  clear h1 h2 hB
  subst hv
  have HK := Lib.hid (HK.out.alloc 24 #[.bool fs.neg, .slice A4 fs.num.length a4, .slice B4 fs.den.length b4])
  go_wp2_with fail
  obtain ⟨w4', hW⟩ : ∃ W, W = w4.alloc (.cells #[.bool fs.neg, .slice A4 fs.num.length a4, .slice B4 fs.den.length b4] 24) := ⟨_, rfl⟩
  rw [← hW] at HK ⊢
  clear hW
  refine (S12.out w4').mono ?_
  rintro e w5 ⟨v, rfl, ⟨A5, a5, B5, b5, hv, h1, h2⟩, hB⟩
  have HK := Lib.hid (((HK.out.below hB).add h1 HK.out.size).add h2 HK.out.size)
  clear h1 h2 hB
  subst hv
  go_wp2_with fail
  refine (S14.out w5).mono ?_
  rintro e w6 ⟨v, rfl, ⟨A6, a6, B6, b6, hv, h1, h2⟩, hB⟩
  have HK := Lib.hid (((HK.out.below hB).add h1 HK.out.size).add h2 HK.out.size)
  clear h1 h2 hB
  subst hv
  go_wp2_with fail
  refine (HQuo.out A5 B5 a5 b5 A6 B6 a6 b6 w6 (HK.out.own (A5, a5, f12.num) (by simp)).rd (HK.out.own (B5, b5, f12.den) (by simp)).rd (HK.out.own (A5, a5, f12.num) (by simp)).le (HK.out.own (B5, b5, f12.den) (by simp)).le (HK.out.own (A6, a6, f14.num) (by simp)).rd (HK.out.own (B6, b6, f14.den) (by simp)).rd (HK.out.own (A6, a6, f14.num) (by simp)).le (HK.out.own (B6, b6, f14.den) (by simp)).le).mono ?_
  rintro e w7 ⟨v, rfl, ⟨A7, a7, B7, b7, hv, h1, h2⟩, hB⟩
  have HK := Lib.hid (((HK.out.below hB).add h1 HK.out.size).add h2 HK.out.size)
  clear h1 h2 hB
  subst hv
  have HK := Lib.hid (HK.out.alloc 24 #[.bool fq.neg, .slice A7 fq.num.length a7, .slice B7 fq.den.length b7])
  go_wp2_with fail
  obtain ⟨w7', hW⟩ : ∃ W, W = w7.alloc (.cells #[.bool fq.neg, .slice A7 fq.num.length a7, .slice B7 fq.den.length b7] 24) := ⟨_, rfl⟩
  rw [← hW] at HK ⊢
  clear hW
  refine (SP.out w7').mono ?_
  rintro e w8 ⟨v, rfl, ⟨A8, a8, B8, b8, hv, h1, h2⟩, hB⟩
  have HK := Lib.hid (((HK.out.below hB).add h1 HK.out.size).add h2 HK.out.size)
  clear h1 h2 hB
  subst hv
  have HK := Lib.hid (HK.out.alloc 24 #[.bool fp.neg, .slice A8 fp.num.length a8, .slice B8 fp.den.length b8])
  obtain ⟨w8', hW⟩ : ∃ W, W = w8.alloc (.cells #[.bool fp.neg, .slice A8 fp.num.length a8, .slice B8 fp.den.length b8] 24) := ⟨_, rfl⟩
  rw [← hW] at HK
  have hp0 : (w8.alloc (.cells #[.bool fp.neg, .slice A8 fp.num.length a8, .slice B8 fp.den.length b8] 24)).cell? ⟨w1.heap.size, 0, none⟩ = some (.bool fp.neg) := by rw [← hW]; exact (HK.out.blk (w1.heap.size, 24, #[.bool fp.neg, .slice A1 fp.num.length a1, .slice B1 fp.den.length b1]) (by simp)).cell 0
  have hp1 : (w8.alloc (.cells #[.bool fp.neg, .slice A8 fp.num.length a8, .slice B8 fp.den.length b8] 24)).cell? ⟨w1.heap.size, 1, none⟩ = some (.slice A1 fp.num.length a1) := by rw [← hW]; exact (HK.out.blk (w1.heap.size, 24, #[.bool fp.neg, .slice A1 fp.num.length a1, .slice B1 fp.den.length b1]) (by simp)).cell 1
  have hp2 : (w8.alloc (.cells #[.bool fp.neg, .slice A8 fp.num.length a8, .slice B8 fp.den.length b8] 24)).cell? ⟨w1.heap.size, 2, none⟩ = some (.slice B1 fp.den.length b1) := by rw [← hW]; exact (HK.out.blk (w1.heap.size, 24, #[.bool fp.neg, .slice A1 fp.num.length a1, .slice B1 fp.den.length b1]) (by simp)).cell 2
  go_wp2_with fail
  rw [← hW]
  clear hW hp0 hp1 hp2
  refine (is_true fp _ A1 B1 a1 b1 w8' (HK.out.own (A1, a1, fp.num) (by simp)).rd (HK.out.own (B1, b1, fp.den) (by simp)).rd (HK.out.own (A1, a1, fp.num) (by simp)).le (HK.out.own (B1, b1, fp.den) (by simp)).le Kfp.out.1 (HT.out.low HK.out.low (Nat.le_refl _)) Kfp.out.2).mono ?_
  rintro e w9 ⟨rfl, hB⟩
  have HK := Lib.hid (HK.out.below hB)
  clear hB
  have p0 : w9.cell? ⟨w4.heap.size, 0, none⟩ = some (.bool fs.neg) := (HK.out.blk (w4.heap.size, 24, #[.bool fs.neg, .slice A4 fs.num.length a4, .slice B4 fs.den.length b4]) (by simp)).cell 0
  have p1 : w9.cell? ⟨w4.heap.size, 1, none⟩ = some (.slice A4 fs.num.length a4) := (HK.out.blk (w4.heap.size, 24, #[.bool fs.neg, .slice A4 fs.num.length a4, .slice B4 fs.den.length b4]) (by simp)).cell 1
  have p2 : w9.cell? ⟨w4.heap.size, 2, none⟩ = some (.slice B4 fs.den.length b4) := (HK.out.blk (w4.heap.size, 24, #[.bool fs.neg, .slice A4 fs.num.length a4, .slice B4 fs.den.length b4]) (by simp)).cell 2
  go_wp2_with fail
  refine (is_true fs _ A4 B4 a4 b4 w9 (HK.out.own (A4, a4, fs.num) (by simp)).rd (HK.out.own (B4, b4, fs.den) (by simp)).rd (HK.out.own (A4, a4, fs.num) (by simp)).le (HK.out.own (B4, b4, fs.den) (by simp)).le Kfs.out.1 (HT.out.low HK.out.low (Nat.le_refl _)) Kfs.out.2).mono ?_
  rintro e w10 ⟨rfl, hB⟩
  have HK := Lib.hid (HK.out.below hB)
  clear hB p0 p1 p2
  have p0 : w10.cell? ⟨w7.heap.size, 0, none⟩ = some (.bool fq.neg) := (HK.out.blk (w7.heap.size, 24, #[.bool fq.neg, .slice A7 fq.num.length a7, .slice B7 fq.den.length b7]) (by simp)).cell 0
  have p1 : w10.cell? ⟨w7.heap.size, 1, none⟩ = some (.slice A7 fq.num.length a7) := (HK.out.blk (w7.heap.size, 24, #[.bool fq.neg, .slice A7 fq.num.length a7, .slice B7 fq.den.length b7]) (by simp)).cell 1
  have p2 : w10.cell? ⟨w7.heap.size, 2, none⟩ = some (.slice B7 fq.den.length b7) := (HK.out.blk (w7.heap.size, 24, #[.bool fq.neg, .slice A7 fq.num.length a7, .slice B7 fq.den.length b7]) (by simp)).cell 2
  go_wp2_with fail
  refine (is_true fq _ A7 B7 a7 b7 w10 (HK.out.own (A7, a7, fq.num) (by simp)).rd (HK.out.own (B7, b7, fq.den) (by simp)).rd (HK.out.own (A7, a7, fq.num) (by simp)).le (HK.out.own (B7, b7, fq.den) (by simp)).le Kfq.out.1 (HT.out.low HK.out.low (Nat.le_refl _)) Kfq.out.2).mono ?_
  rintro e w11 ⟨rfl, hB⟩
  have HK := Lib.hid (HK.out.below hB)
  clear hB p0 p1 p2
  have p0 : w11.cell? ⟨w8.heap.size, 0, none⟩ = some (.bool fp.neg) := (HK.out.blk (w8.heap.size, 24, #[.bool fp.neg, .slice A8 fp.num.length a8, .slice B8 fp.den.length b8]) (by simp)).cell 0
  have p1 : w11.cell? ⟨w8.heap.size, 1, none⟩ = some (.slice A8 fp.num.length a8) := (HK.out.blk (w8.heap.size, 24, #[.bool fp.neg, .slice A8 fp.num.length a8, .slice B8 fp.den.length b8]) (by simp)).cell 1
  have p2 : w11.cell? ⟨w8.heap.size, 2, none⟩ = some (.slice B8 fp.den.length b8) := (HK.out.blk (w8.heap.size, 24, #[.bool fp.neg, .slice A8 fp.num.length a8, .slice B8 fp.den.length b8]) (by simp)).cell 2
  go_wp2_with fail
  refine (is_true fp _ A8 B8 a8 b8 w11 (HK.out.own (A8, a8, fp.num) (by simp)).rd (HK.out.own (B8, b8, fp.den) (by simp)).rd (HK.out.own (A8, a8, fp.num) (by simp)).le (HK.out.own (B8, b8, fp.den) (by simp)).le Kfp.out.1 (HT.out.low HK.out.low (Nat.le_refl _)) Kfp.out.2).mono ?_
  rintro e w12 ⟨rfl, hB⟩
  have HK := Lib.hid (HK.out.below hB)
  clear hB p0 p1 p2
  have p0 : w12.cell? ⟨w1.heap.size, 0, none⟩ = some (.bool fp.neg) := (HK.out.blk (w1.heap.size, 24, #[.bool fp.neg, .slice A1 fp.num.length a1, .slice B1 fp.den.length b1]) (by simp)).cell 0
  have p1 : w12.cell? ⟨w1.heap.size, 1, none⟩ = some (.slice A1 fp.num.length a1) := (HK.out.blk (w1.heap.size, 24, #[.bool fp.neg, .slice A1 fp.num.length a1, .slice B1 fp.den.length b1]) (by simp)).cell 1
  have p2 : w12.cell? ⟨w1.heap.size, 2, none⟩ = some (.slice B1 fp.den.length b1) := (HK.out.blk (w1.heap.size, 24, #[.bool fp.neg, .slice A1 fp.num.length a1, .slice B1 fp.den.length b1]) (by simp)).cell 2
  have q0 : w12.cell? ⟨w8.heap.size, 0, none⟩ = some (.bool fp.neg) := (HK.out.blk (w8.heap.size, 24, #[.bool fp.neg, .slice A8 fp.num.length a8, .slice B8 fp.den.length b8]) (by simp)).cell 0
  have q1 : w12.cell? ⟨w8.heap.size, 1, none⟩ = some (.slice A8 fp.num.length a8) := (HK.out.blk (w8.heap.size, 24, #[.bool fp.neg, .slice A8 fp.num.length a8, .slice B8 fp.den.length b8]) (by simp)).cell 1
  have q2 : w12.cell? ⟨w8.heap.size, 2, none⟩ = some (.slice B8 fp.den.length b8) := (HK.out.blk (w8.heap.size, 24, #[.bool fp.neg, .slice A8 fp.num.length a8, .slice B8 fp.den.length b8]) (by simp)).cell 2
  go_wp2_with fail
  refine (HSame.out A1 B1 a1 b1 A8 B8 a8 b8 w12 (HK.out.own (A1, a1, fp.num) (by simp)).rd (HK.out.own (B1, b1, fp.den) (by simp)).rd (HK.out.own (A8, a8, fp.num) (by simp)).rd (HK.out.own (B8, b8, fp.den) (by simp)).rd).mono ?_
  rintro e w13 ⟨rfl, hB⟩
  have HK := Lib.hid (HK.out.below hB)
  clear hB p0 p1 p2 q0 q1 q2
  go_wp2
  go_ret
  exact ⟨rfl, HK.out.low⟩
end Go.Proofs.YtbjclfmplndkcaaGreatDoor
