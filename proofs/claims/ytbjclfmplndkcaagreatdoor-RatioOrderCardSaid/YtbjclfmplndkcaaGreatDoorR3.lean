/-
  RatioOrder, walked.
-/
import Derived.Test.YtbjclfmplndkcaaGreatDoorRy
import Derived.Deep.DeepCutAuto
import Derived.Test.YtbjclfmplndkcaaGreatDoorRu
import Derived.Test.YtbjclfmplndkcaaGreatDoorRl
import Derived.Deep.RegionHeld3
set_option linter.unusedVariables false
set_option linter.unusedSimpArgs false
set_option linter.unnecessarySimpa false
namespace Go.Proofs.YtbjclfmplndkcaaGreatDoor
open Go.RowKit Pl


set_option maxRecDepth 100000 in
set_option maxHeartbeats 8000000 in
theorem ro_y33 (f k : F) (A A' : Option Addr) (c c' : Nat) (C C' : Option Addr) (d d' : Nat) (w : World) (h : Rd w A f.num) (h' : Rd w A' f.den) (hc : f.num.length ≤ c) (hc' : f.den.length ≤ c')
    (k1 : Rd w C k.num) (k2 : Rd w C' k.den) (hd : k.num.length ≤ d) (hd' : k.den.length ≤ d') (htab : Tab w) (hlong : klongs [(f.neg, (A, f.num.length, c), (A', f.den.length, c')), (k.neg, (C, k.num.length, d), (C', k.den.length, d'))] = false) (hf : f.ok) (hk : k.ok) (less nx : F) (hsub : subR f k = (less, 3)) (hadd : addR (F.of (f.q.floor : Rat)) ⟨false, [1], [1]⟩ = (nx, 3)) :
    Calls Tryz.prog 3 #[.agg #[.bool f.neg, .slice A f.num.length c, .slice A' f.den.length c'], .agg #[.bool k.neg, .slice C k.num.length d, .slice C' k.den.length d']] w fun e w' => e = .returned (.bool true) ∧ Below w.heap.size w w' := by
  have h60 := len60 hlong hf
  have HLONG := Lib.hid hlong
  clear hlong
  have C1 := fun W r1 r2 r3 r4 => rCompare_yes f k A A' c c' C C' d d' W r1 r2 hc hc' r3 r4 hd hd' hf hk
  have C2 := fun W r1 r2 r3 r4 => rCompare_yes k f C C' d d' A A' c c' W r1 r2 hd hd' r3 r4 hc hc' hk hf
  have en : cmpF k f = - cmpF f k := by rw [cmp_q hk hf, cmp_q hf hk]; exact cmpQ_neg _ _
  rw [en] at C2
  have hx : -1 ≤ cmpF f k ∧ cmpF f k ≤ 1 := by rw [cmp_q hf hk]; rcases cmpQ_three f.q k.q with e | e | e <;> rw [e] <;> omega
  have SM := fun W r1 r2 r3 r4 => Same_any f k A A' c c' C C' d d' W r1 r2 r3 r4
  rw [same_q hf hk] at SM
  have SB := fun W r1 r2 r3 r4 => Sub0_any f k A A' c c' C C' d d' W r1 r2 hc hc' r3 r4 hd hd'
  rw [hsub] at SB
  have FL := Lib.hid (fun W r1 r2 => Floor_ok f A A' c c' W r1 r2 hc hc' hf)
  obtain ⟨hft, hfl⟩ := floor_tell hf h60
  have MK := fun B b A' c' W r1 r2 c1 c2 => Make_ok f.neg false (words (flo f)) [1] B A' b c' W r1 r2 c1 c2 (words_norm _) ⟨InR.one (by omega) (by omega), by simp⟩ (by omega) (by simp) (by simp) (wchk_floor f hf hfl) rfl
  rw [hft] at MK
  have hgo := (tell_good' hft).1
  have hgq := F.q_of (f.q.floor : Rat)
  have CG := fun A3 B3 a3 b3 W r3 r4 c3 c4 r1 r2 => rCompare_yes (F.of (f.q.floor : Rat)) f A3 B3 a3 b3 A A' c c' W r3 r4 c3 c4 r1 r2 hc hc' hgo hf
  have hu := floor_cmp hf hgo
  have e11 : tell (smallQ 1 1) = (⟨false, [1], [1]⟩, 0) := by kernel_rfl
  have AD := fun A3 B3 a3 b3 A4 B4 a4 b4 W r1 r2 c1 c2 r3 r4 c3 c4 => Add0_any (F.of (f.q.floor : Rat)) ⟨false, [1], [1]⟩ A3 B3 a3 b3 A4 B4 a4 b4 W r1 r2 c1 c2 r3 r4 c3 c4
  rw [hadd] at AD
  have SS := Lib.hid (fun W => small0 e11 W (by omega) (by omega) (by omega) (by omega) (by omega))
  have hnz : nx = F.zero := add_three hadd hgo (tell_good' e11).1
  have hzz : (if chk f = 0 then chk F.zero else chk f) = 11 := by rw [if_pos ((chk_ok hf.1.1 hf.2.1.1).2 hf)]; rfl
  have CN := fun A5 B5 a5 b5 W r1 r2 r3 r4 c3 c4 => rCompare_no f F.zero A A' c c' A5 B5 a5 b5 W r1 r2 hc hc' r3 r4 c3 c4 (by rw [hzz]; omega)
  rw [hzz, ← hnz] at CN
  clear hzz hnz
  have HC1 := Lib.hid C1
  have HC2 := Lib.hid C2
  have HSM := Lib.hid SM
  have HSB := Lib.hid SB
  have HMK := Lib.hid MK
  have HCG := Lib.hid CG
  have HAD := Lib.hid AD
  have HCN := Lib.hid CN
  clear C1 C2 SM SB MK CG AD CN en e11 hsub hadd hf hk hgo hgq hft h60
  generalize cmpF (F.of (f.q.floor : Rat)) f = u at *
  generalize cmpF f k = x at *
  obtain ⟨sm, hsm⟩ : ∃ sm, (x == 0) = sm := ⟨_, rfl⟩
  have hsm2 : decide (x = 0) = sm := by rw [← hsm]; rfl
  rw [hsm2] at HSM
  clear hsm2
  have hx1 := hx.1
  have hx2 := hx.2
  clear hx
  have hfl2 : (words (flo f)).length ≤ 61 := hfl
  clear hfl
  generalize words (flo f) = LL at *
  generalize F.of (f.q.floor : Rat) = fl at *
  generalize (⟨false, [1], [1]⟩ : F) = f11 at *
  obtain ⟨w0, e0, hK0⟩ := kp2 w 24 24 #[.bool f.neg, .slice A f.num.length c, .slice A' f.den.length c'] #[.bool k.neg, .slice C k.num.length d, .slice C' k.den.length d']
  have HK := Lib.hid hK0
  have HT := Lib.hid htab
  clear hK0 htab
  go_enter Tryz.func3, Tryz.ntmps3
  go_wp2_with fail
  rw [← e0]
  clear e0
  refine (awake_any w0 (HT.out.low HK.out.low (Nat.le_refl _))).mono ?_
  rintro e w1 ⟨rfl, hB⟩
  have HK := Lib.hid (HK.out.below hB)
  clear hB
  have p0 : w1.cell? ⟨w.heap.size, 0, none⟩ = some (.bool f.neg) := (HK.out.blk (w.heap.size, 24, #[.bool f.neg, .slice A f.num.length c, .slice A' f.den.length c']) (by simp)).cell 0
  have p1 : w1.cell? ⟨w.heap.size, 1, none⟩ = some (.slice A f.num.length c) := (HK.out.blk (w.heap.size, 24, #[.bool f.neg, .slice A f.num.length c, .slice A' f.den.length c']) (by simp)).cell 1
  have p2 : w1.cell? ⟨w.heap.size, 2, none⟩ = some (.slice A' f.den.length c') := (HK.out.blk (w.heap.size, 24, #[.bool f.neg, .slice A f.num.length c, .slice A' f.den.length c']) (by simp)).cell 2
  have q0 : w1.cell? ⟨w.heap.size + 1, 0, none⟩ = some (.bool k.neg) := (HK.out.blk (w.heap.size + 1, 24, #[.bool k.neg, .slice C k.num.length d, .slice C' k.den.length d']) (by simp)).cell 0
  have q1 : w1.cell? ⟨w.heap.size + 1, 1, none⟩ = some (.slice C k.num.length d) := (HK.out.blk (w.heap.size + 1, 24, #[.bool k.neg, .slice C k.num.length d, .slice C' k.den.length d']) (by simp)).cell 1
  have q2 : w1.cell? ⟨w.heap.size + 1, 2, none⟩ = some (.slice C' k.den.length d') := (HK.out.blk (w.heap.size + 1, 24, #[.bool k.neg, .slice C k.num.length d, .slice C' k.den.length d']) (by simp)).cell 2
  go_wp2_with fail
  refine (Long_any ⟨w1.heap.size, 0, none⟩ 2 [(f.neg, (A, f.num.length, c), (A', f.den.length, c')), (k.neg, (C, k.num.length, d), (C', k.den.length, d'))] _ (rs2 w1 _ _ h.len h'.len k1.len k2.len)).mono ?_
  rw [HLONG.out]
  rintro e w2 ⟨rfl, hw2⟩
  have HK := Lib.hid (HK.out.below ((Below.refl _ _).alloc (Nat.le_refl _) (.cells #[.bool f.neg, .slice A f.num.length c, .slice A' f.den.length c', .bool k.neg, .slice C k.num.length d, .slice C' k.den.length d'] 24)))
  rw [hw2] at HK
  clear hw2
  clear p0 p1 p2 q0 q1 q2
  have p0 : w2.cell? ⟨w.heap.size, 0, none⟩ = some (.bool f.neg) := (HK.out.blk (w.heap.size, 24, #[.bool f.neg, .slice A f.num.length c, .slice A' f.den.length c']) (by simp)).cell 0
  have p1 : w2.cell? ⟨w.heap.size, 1, none⟩ = some (.slice A f.num.length c) := (HK.out.blk (w.heap.size, 24, #[.bool f.neg, .slice A f.num.length c, .slice A' f.den.length c']) (by simp)).cell 1
  have p2 : w2.cell? ⟨w.heap.size, 2, none⟩ = some (.slice A' f.den.length c') := (HK.out.blk (w.heap.size, 24, #[.bool f.neg, .slice A f.num.length c, .slice A' f.den.length c']) (by simp)).cell 2
  have q0 : w2.cell? ⟨w.heap.size + 1, 0, none⟩ = some (.bool k.neg) := (HK.out.blk (w.heap.size + 1, 24, #[.bool k.neg, .slice C k.num.length d, .slice C' k.den.length d']) (by simp)).cell 0
  have q1 : w2.cell? ⟨w.heap.size + 1, 1, none⟩ = some (.slice C k.num.length d) := (HK.out.blk (w.heap.size + 1, 24, #[.bool k.neg, .slice C k.num.length d, .slice C' k.den.length d']) (by simp)).cell 1
  have q2 : w2.cell? ⟨w.heap.size + 1, 2, none⟩ = some (.slice C' k.den.length d') := (HK.out.blk (w.heap.size + 1, 24, #[.bool k.neg, .slice C k.num.length d, .slice C' k.den.length d']) (by simp)).cell 2
  go_wp2_with fail
  refine (HC1.out _ (h.below HK.out.low) (h'.below HK.out.low) (k1.below HK.out.low) (k2.below HK.out.low)).mono ?_
  rintro e w3 ⟨rfl, hB⟩
  have HK := Lib.hid (HK.out.below hB)
  clear hB
  clear p0 p1 p2 q0 q1 q2
  have p0 : w3.cell? ⟨w.heap.size, 0, none⟩ = some (.bool f.neg) := (HK.out.blk (w.heap.size, 24, #[.bool f.neg, .slice A f.num.length c, .slice A' f.den.length c']) (by simp)).cell 0
  have p1 : w3.cell? ⟨w.heap.size, 1, none⟩ = some (.slice A f.num.length c) := (HK.out.blk (w.heap.size, 24, #[.bool f.neg, .slice A f.num.length c, .slice A' f.den.length c']) (by simp)).cell 1
  have p2 : w3.cell? ⟨w.heap.size, 2, none⟩ = some (.slice A' f.den.length c') := (HK.out.blk (w.heap.size, 24, #[.bool f.neg, .slice A f.num.length c, .slice A' f.den.length c']) (by simp)).cell 2
  have q0 : w3.cell? ⟨w.heap.size + 1, 0, none⟩ = some (.bool k.neg) := (HK.out.blk (w.heap.size + 1, 24, #[.bool k.neg, .slice C k.num.length d, .slice C' k.den.length d']) (by simp)).cell 0
  have q1 : w3.cell? ⟨w.heap.size + 1, 1, none⟩ = some (.slice C k.num.length d) := (HK.out.blk (w.heap.size + 1, 24, #[.bool k.neg, .slice C k.num.length d, .slice C' k.den.length d']) (by simp)).cell 1
  have q2 : w3.cell? ⟨w.heap.size + 1, 2, none⟩ = some (.slice C' k.den.length d') := (HK.out.blk (w.heap.size + 1, 24, #[.bool k.neg, .slice C k.num.length d, .slice C' k.den.length d']) (by simp)).cell 2
  go_wp2_with fail
  refine (HC2.out _ (k1.below HK.out.low) (k2.below HK.out.low) (h.below HK.out.low) (h'.below HK.out.low)).mono ?_
  rintro e w4 ⟨rfl, hB⟩
  have HK := Lib.hid (HK.out.below hB)
  clear hB
  clear p0 p1 p2 q0 q1 q2
  have p0 : w4.cell? ⟨w.heap.size, 0, none⟩ = some (.bool f.neg) := (HK.out.blk (w.heap.size, 24, #[.bool f.neg, .slice A f.num.length c, .slice A' f.den.length c']) (by simp)).cell 0
  have p1 : w4.cell? ⟨w.heap.size, 1, none⟩ = some (.slice A f.num.length c) := (HK.out.blk (w.heap.size, 24, #[.bool f.neg, .slice A f.num.length c, .slice A' f.den.length c']) (by simp)).cell 1
  have p2 : w4.cell? ⟨w.heap.size, 2, none⟩ = some (.slice A' f.den.length c') := (HK.out.blk (w.heap.size, 24, #[.bool f.neg, .slice A f.num.length c, .slice A' f.den.length c']) (by simp)).cell 2
  have q0 : w4.cell? ⟨w.heap.size + 1, 0, none⟩ = some (.bool k.neg) := (HK.out.blk (w.heap.size + 1, 24, #[.bool k.neg, .slice C k.num.length d, .slice C' k.den.length d']) (by simp)).cell 0
  have q1 : w4.cell? ⟨w.heap.size + 1, 1, none⟩ = some (.slice C k.num.length d) := (HK.out.blk (w.heap.size + 1, 24, #[.bool k.neg, .slice C k.num.length d, .slice C' k.den.length d']) (by simp)).cell 1
  have q2 : w4.cell? ⟨w.heap.size + 1, 2, none⟩ = some (.slice C' k.den.length d') := (HK.out.blk (w.heap.size + 1, 24, #[.bool k.neg, .slice C k.num.length d, .slice C' k.den.length d']) (by simp)).cell 2
  go_wp2_with fail
  refine (HSB.out _ (h.below HK.out.low) (h'.below HK.out.low) (k1.below HK.out.low) (k2.below HK.out.low)).mono ?_
  rintro e w5 ⟨v, rfl, ⟨A1, a1, B1, b1, hv, h1, h2⟩, hB⟩
  have HK := Lib.hid (((HK.out.below hB).add h1 HK.out.size).add h2 HK.out.size)
  clear h1 h2 hB
  subst hv
  clear p0 p1 p2 q0 q1 q2
  have HK := Lib.hid (HK.out.alloc 24 #[.bool less.neg, .slice A1 less.num.length a1, .slice B1 less.den.length b1])
  obtain ⟨w5', hW⟩ : ∃ W, W = w5.alloc (.cells #[.bool less.neg, .slice A1 less.num.length a1, .slice B1 less.den.length b1] 24) := ⟨_, rfl⟩
  rw [← hW] at HK
  have p0 : (w5.alloc (.cells #[.bool less.neg, .slice A1 less.num.length a1, .slice B1 less.den.length b1] 24)).cell? ⟨w.heap.size, 0, none⟩ = some (.bool f.neg) := by rw [← hW]; exact (HK.out.blk (w.heap.size, 24, #[.bool f.neg, .slice A f.num.length c, .slice A' f.den.length c']) (by simp)).cell 0
  have p1 : (w5.alloc (.cells #[.bool less.neg, .slice A1 less.num.length a1, .slice B1 less.den.length b1] 24)).cell? ⟨w.heap.size, 1, none⟩ = some (.slice A f.num.length c) := by rw [← hW]; exact (HK.out.blk (w.heap.size, 24, #[.bool f.neg, .slice A f.num.length c, .slice A' f.den.length c']) (by simp)).cell 1
  have p2 : (w5.alloc (.cells #[.bool less.neg, .slice A1 less.num.length a1, .slice B1 less.den.length b1] 24)).cell? ⟨w.heap.size, 2, none⟩ = some (.slice A' f.den.length c') := by rw [← hW]; exact (HK.out.blk (w.heap.size, 24, #[.bool f.neg, .slice A f.num.length c, .slice A' f.den.length c']) (by simp)).cell 2
  have q0 : (w5.alloc (.cells #[.bool less.neg, .slice A1 less.num.length a1, .slice B1 less.den.length b1] 24)).cell? ⟨w.heap.size + 1, 0, none⟩ = some (.bool k.neg) := by rw [← hW]; exact (HK.out.blk (w.heap.size + 1, 24, #[.bool k.neg, .slice C k.num.length d, .slice C' k.den.length d']) (by simp)).cell 0
  have q1 : (w5.alloc (.cells #[.bool less.neg, .slice A1 less.num.length a1, .slice B1 less.den.length b1] 24)).cell? ⟨w.heap.size + 1, 1, none⟩ = some (.slice C k.num.length d) := by rw [← hW]; exact (HK.out.blk (w.heap.size + 1, 24, #[.bool k.neg, .slice C k.num.length d, .slice C' k.den.length d']) (by simp)).cell 1
  have q2 : (w5.alloc (.cells #[.bool less.neg, .slice A1 less.num.length a1, .slice B1 less.den.length b1] 24)).cell? ⟨w.heap.size + 1, 2, none⟩ = some (.slice C' k.den.length d') := by rw [← hW]; exact (HK.out.blk (w.heap.size + 1, 24, #[.bool k.neg, .slice C k.num.length d, .slice C' k.den.length d']) (by simp)).cell 2
  go_wp2_with fail
  rw [← hW]
  clear hW
  clear p0 p1 p2 q0 q1 q2
  refine (HSM.out _ (h.below HK.out.low) (h'.below HK.out.low) (k1.below HK.out.low) (k2.below HK.out.low)).mono ?_
  rintro e w6 ⟨rfl, hB⟩
  have HK := Lib.hid (HK.out.below hB)
  clear hB
  have p0 : w6.cell? ⟨w.heap.size, 0, none⟩ = some (.bool f.neg) := (HK.out.blk (w.heap.size, 24, #[.bool f.neg, .slice A f.num.length c, .slice A' f.den.length c']) (by simp)).cell 0
  have p1 : w6.cell? ⟨w.heap.size, 1, none⟩ = some (.slice A f.num.length c) := (HK.out.blk (w.heap.size, 24, #[.bool f.neg, .slice A f.num.length c, .slice A' f.den.length c']) (by simp)).cell 1
  have p2 : w6.cell? ⟨w.heap.size, 2, none⟩ = some (.slice A' f.den.length c') := (HK.out.blk (w.heap.size, 24, #[.bool f.neg, .slice A f.num.length c, .slice A' f.den.length c']) (by simp)).cell 2
  have q0 : w6.cell? ⟨w.heap.size + 1, 0, none⟩ = some (.bool k.neg) := (HK.out.blk (w.heap.size + 1, 24, #[.bool k.neg, .slice C k.num.length d, .slice C' k.den.length d']) (by simp)).cell 0
  have q1 : w6.cell? ⟨w.heap.size + 1, 1, none⟩ = some (.slice C k.num.length d) := (HK.out.blk (w.heap.size + 1, 24, #[.bool k.neg, .slice C k.num.length d, .slice C' k.den.length d']) (by simp)).cell 1
  have q2 : w6.cell? ⟨w.heap.size + 1, 2, none⟩ = some (.slice C' k.den.length d') := (HK.out.blk (w.heap.size + 1, 24, #[.bool k.neg, .slice C k.num.length d, .slice C' k.den.length d']) (by simp)).cell 2
  go_wp2_with fail
  refine (FL.out _ (h.below HK.out.low) (h'.below HK.out.low)).mono ?_
  rintro e w9 ⟨B2, b2, rfl, hO, hB⟩
  have HK := Lib.hid ((HK.out.below hB).add hO HK.out.size)
  clear hO hB
  clear p0 p1 p2 q0 q1 q2
  have HK := Lib.hid (HK.out.below ((Below.refl _ _).alloc (Nat.le_refl _) (.cells #[.bool f.neg, .slice B2 LL.length b2] 37)))
  have HK := Lib.hid ((HK.out.below ((Below.refl _ _).alloc (Nat.le_refl _) (.cells #[.int .u32 1] 40))).add (one_ow (Nat.le_refl _)) HK.out.size)
  rw [alloc_size] at HK
  have HK := Lib.hid (HK.out.below ((Below.refl _ _).alloc (Nat.le_refl _) (.cells #[.bool false, .slice (some ⟨w9.heap.size + 1, 0, none⟩) 1 1] 37)))
  go_wp2_with fail
  refine (HMK.out B2 b2 (some ⟨w9.heap.size + 1, 0, none⟩) 1 _ (HK.out.own (B2, b2, LL) (by simp)).rd (HK.out.own (some ⟨w9.heap.size + 1, 0, none⟩, 1, [1]) (by simp)).rd (HK.out.own (B2, b2, LL) (by simp)).le (HK.out.own (some ⟨w9.heap.size + 1, 0, none⟩, 1, [1]) (by simp)).le).mono ?_
  rintro e w10 ⟨v, rfl, ⟨A3, a3, B3, b3, hv, h1, h2⟩, hB⟩
  have HK := Lib.hid (((HK.out.below hB).add h1 HK.out.size).add h2 HK.out.size)
  clear h1 h2 hB
  subst hv
  have HK := Lib.hid (HK.out.alloc 24 #[.bool fl.neg, .slice A3 fl.num.length a3, .slice B3 fl.den.length b3])
  obtain ⟨w10', hW⟩ : ∃ W, W = w10.alloc (.cells #[.bool fl.neg, .slice A3 fl.num.length a3, .slice B3 fl.den.length b3] 24) := ⟨_, rfl⟩
  rw [← hW] at HK
  go_wp2_with fail
  rw [← hW]
  clear hW
  have L1 := Lib.hid (HK.out.blk (w.heap.size + 1, 24, #[.bool k.neg, .slice C k.num.length d, .slice C' k.den.length d']) (by simp)).lt
  have L2 := Lib.hid (HK.out.blk (w10.heap.size, 24, #[.bool fl.neg, .slice A3 fl.num.length a3, .slice B3 fl.den.length b3]) (by simp)).lt
  have L0 := Lib.hid (HK.out.blk (w5.heap.size, 24, #[.bool less.neg, .slice A1 less.num.length a1, .slice B1 less.den.length b1]) (by simp)).lt
  have HR := Lib.hid (HK.out.sub1 (x := (w10.heap.size, 24, #[.bool fl.neg, .slice A3 fl.num.length a3, .slice B3 fl.den.length b3])) (by simp))
  go_upto_region 16 with fail
  go_cut [17, 18] (fun s17 s18 wx => NextAt w [(w.heap.size, 24, #[.bool f.neg, .slice A f.num.length c, .slice A' f.den.length c']), (w.heap.size + 1, 24, #[.bool k.neg, .slice C k.num.length d, .slice C' k.den.length d']), (w10.heap.size, 24, #[.bool fl.neg, .slice A3 fl.num.length a3, .slice B3 fl.den.length b3])] [(A3, a3, fl.num), (B3, b3, fl.den)] nx 3 s17 s18 wx)
  case first =>
    have L1 := L1.out
    have L2 := L2.out
    have L0 := L0.out
    obtain ⟨_, r0, r1, r2⟩ := HR.out.tri
    go_region_held3 (fun W => Kp w [(w10.heap.size, 24, #[.bool fl.neg, .slice A3 fl.num.length a3, .slice B3 fl.den.length b3])] [] W ∧ W.cell? ⟨w10.heap.size, 0, none⟩ = some (.bool fl.neg) ∧ W.cell? ⟨w10.heap.size, 1, none⟩ = some (.slice A3 fl.num.length a3) ∧ W.cell? ⟨w10.heap.size, 2, none⟩ = some (.slice B3 fl.den.length b3)) (first | exact HR.out.tri | exact HR.out.drew.tri | exact (HR.out.below ((Below.refl _ _).alloc (Nat.le_refl _) _)).tri | exact (HR.out.drew.below ((Below.refl _ _).alloc (Nat.le_refl _) _)).tri | exact ((HK.out.store5 ⟨by simp only; omega, by simp only; omega, by simp only; omega, by simp only; omega⟩ (by omega) _ _ _).sub1 (x := (w10.heap.size, 24, #[.bool fl.neg, .slice A3 fl.num.length a3, .slice B3 fl.den.length b3])) (by simp)).tri) (first | (go_at_call 14; (with_reducible refine (SS.out _).mono ?_); rintro e w11 ⟨v1, rfl, ⟨A4, a4, B4, b4, hv1, h1, h2⟩, hB⟩; have L3 := hB.size; (try simp at L3); (first | have HK := Lib.hid (((HK.out.below hB).add h1 HK.out.size).add h2 HK.out.size) | have HK := Lib.hid (((HK.out.drew.below hB).add h1 HK.out.drew.size).add h2 HK.out.drew.size) | have HK := Lib.hid ((((HK.out.alloc 24 #[.bool false, .slice none 0 0, .slice none 0 0]).below hB).add h1 (HK.out.alloc 24 #[.bool false, .slice none 0 0, .slice none 0 0]).size).add h2 (HK.out.alloc 24 #[.bool false, .slice none 0 0, .slice none 0 0]).size) | have HK := Lib.hid ((((HK.out.alloc 24 #[.bool false, .slice none 0 0, .slice none 0 0]).drew.below hB).add h1 (HK.out.alloc 24 #[.bool false, .slice none 0 0, .slice none 0 0]).drew.size).add h2 (HK.out.alloc 24 #[.bool false, .slice none 0 0, .slice none 0 0]).drew.size)); have HR := Lib.hid (HK.out.sub1 (x := (w10.heap.size, 24, #[.bool fl.neg, .slice A3 fl.num.length a3, .slice B3 fl.den.length b3])) (by simp)); clear h1 h2 hB; subst hv1) | (go_at_call 13; (first | (with_reducible refine (HAD.out A3 B3 a3 b3 A4 B4 a4 b4 _ (HK.out.own (A3, a3, fl.num) (by simp)).rd (HK.out.own (B3, b3, fl.den) (by simp)).rd (HK.out.own (A3, a3, fl.num) (by simp)).le (HK.out.own (B3, b3, fl.den) (by simp)).le (HK.out.own (A4, a4, f11.num) (by simp)).rd (HK.out.own (B4, b4, f11.den) (by simp)).rd (HK.out.own (A4, a4, f11.num) (by simp)).le (HK.out.own (B4, b4, f11.den) (by simp)).le).mono ?_) | (have HK := Lib.hid (HK.out.alloc 24 #[.bool false, .slice none 0 0, .slice none 0 0]); (with_reducible refine (HAD.out A3 B3 a3 b3 A4 B4 a4 b4 _ (HK.out.own (A3, a3, fl.num) (by simp)).rd (HK.out.own (B3, b3, fl.den) (by simp)).rd (HK.out.own (A3, a3, fl.num) (by simp)).le (HK.out.own (B3, b3, fl.den) (by simp)).le (HK.out.own (A4, a4, f11.num) (by simp)).rd (HK.out.own (B4, b4, f11.den) (by simp)).rd (HK.out.own (A4, a4, f11.num) (by simp)).le (HK.out.own (B4, b4, f11.den) (by simp)).le).mono ?_))); rintro e w12 ⟨v2, rfl, ⟨A5, a5, B5, b5, hv2, h1, h2⟩, hB⟩; have HK := Lib.hid (((HK.out.below hB).add h1 HK.out.size).add h2 HK.out.size); have HR := Lib.hid (HK.out.sub1 (x := (w10.heap.size, 24, #[.bool fl.neg, .slice A3 fl.num.length a3, .slice B3 fl.den.length b3])) (by simp)); clear h1 h2 hB; subst hv2; (try (obtain ⟨z0, z1, z2, zf⟩ := HK.out.last5))))
    all_goals (go_wp2_with fail; go_meet; first | exact ⟨_, A5, a5, B5, b5, rfl, rfl, (HK.out.store5 ⟨by simp only; omega, by simp only; omega, by simp only; omega, by simp only; omega⟩ (by omega) _ _ _).subs (fun x h => h) (by simp)⟩ | exact ⟨w12.heap.size, A5, a5, B5, b5, rfl, rfl, (HK.out.alloc 24 #[.bool nx.neg, .slice A5 nx.num.length a5, .slice B5 nx.den.length b5]).subs (by simp) (by simp)⟩)
  case rest =>
    obtain ⟨gn, A5, a5, B5, b5, rfl, rfl, hK⟩ := hcut
    have HK := Lib.hid hK
    clear hK HR SS HAD
    have p0 : wc.cell? ⟨w.heap.size, 0, none⟩ = some (.bool f.neg) := (HK.out.blk (w.heap.size, 24, #[.bool f.neg, .slice A f.num.length c, .slice A' f.den.length c']) (by simp)).cell 0
    have p1 : wc.cell? ⟨w.heap.size, 1, none⟩ = some (.slice A f.num.length c) := (HK.out.blk (w.heap.size, 24, #[.bool f.neg, .slice A f.num.length c, .slice A' f.den.length c']) (by simp)).cell 1
    have p2 : wc.cell? ⟨w.heap.size, 2, none⟩ = some (.slice A' f.den.length c') := (HK.out.blk (w.heap.size, 24, #[.bool f.neg, .slice A f.num.length c, .slice A' f.den.length c']) (by simp)).cell 2
    have s0 : wc.cell? ⟨w10.heap.size, 0, none⟩ = some (.bool fl.neg) := (HK.out.blk (w10.heap.size, 24, #[.bool fl.neg, .slice A3 fl.num.length a3, .slice B3 fl.den.length b3]) (by simp)).cell 0
    have s1 : wc.cell? ⟨w10.heap.size, 1, none⟩ = some (.slice A3 fl.num.length a3) := (HK.out.blk (w10.heap.size, 24, #[.bool fl.neg, .slice A3 fl.num.length a3, .slice B3 fl.den.length b3]) (by simp)).cell 1
    have s2 : wc.cell? ⟨w10.heap.size, 2, none⟩ = some (.slice B3 fl.den.length b3) := (HK.out.blk (w10.heap.size, 24, #[.bool fl.neg, .slice A3 fl.num.length a3, .slice B3 fl.den.length b3]) (by simp)).cell 2
    go_wp2_with fail
    clear p0 p1 p2 s0 s1 s2
    refine (HCG.out A3 B3 a3 b3 _ (HK.out.own (A3, a3, fl.num) (by simp)).rd (HK.out.own (B3, b3, fl.den) (by simp)).rd (HK.out.own (A3, a3, fl.num) (by simp)).le (HK.out.own (B3, b3, fl.den) (by simp)).le (h.below HK.out.low) (h'.below HK.out.low)).mono ?_
    rintro e w13 ⟨rfl, hB⟩
    have HK := Lib.hid (HK.out.below hB)
    clear hB
    have p0 : w13.cell? ⟨w.heap.size, 0, none⟩ = some (.bool f.neg) := (HK.out.blk (w.heap.size, 24, #[.bool f.neg, .slice A f.num.length c, .slice A' f.den.length c']) (by simp)).cell 0
    have p1 : w13.cell? ⟨w.heap.size, 1, none⟩ = some (.slice A f.num.length c) := (HK.out.blk (w.heap.size, 24, #[.bool f.neg, .slice A f.num.length c, .slice A' f.den.length c']) (by simp)).cell 1
    have p2 : w13.cell? ⟨w.heap.size, 2, none⟩ = some (.slice A' f.den.length c') := (HK.out.blk (w.heap.size, 24, #[.bool f.neg, .slice A f.num.length c, .slice A' f.den.length c']) (by simp)).cell 2
    have s0 : w13.cell? ⟨gn, 0, none⟩ = some (.bool nx.neg) := (HK.out.blk (gn, 24, #[.bool nx.neg, .slice A5 nx.num.length a5, .slice B5 nx.den.length b5]) (by simp)).cell 0
    have s1 : w13.cell? ⟨gn, 1, none⟩ = some (.slice A5 nx.num.length a5) := (HK.out.blk (gn, 24, #[.bool nx.neg, .slice A5 nx.num.length a5, .slice B5 nx.den.length b5]) (by simp)).cell 1
    have s2 : w13.cell? ⟨gn, 2, none⟩ = some (.slice B5 nx.den.length b5) := (HK.out.blk (gn, 24, #[.bool nx.neg, .slice A5 nx.num.length a5, .slice B5 nx.den.length b5]) (by simp)).cell 2
    go_wp2_with fail
    refine (HCN.out A5 B5 a5 b5 _ (h.below HK.out.low) (h'.below HK.out.low) (HK.out.own (A5, a5, nx.num) (by simp)).rd (HK.out.own (B5, b5, nx.den) (by simp)).rd (HK.out.own (A5, a5, nx.num) (by simp)).le (HK.out.own (B5, b5, nx.den) (by simp)).le).mono ?_
    rintro e w14 ⟨rfl, hB⟩
    have HK := Lib.hid (HK.out.below hB)
    clear hB
    clear p0 p1 p2 s0 s1 s2
    go_wp2
    go_ret
    exact ⟨rfl, HK.out.low⟩
end Go.Proofs.YtbjclfmplndkcaaGreatDoor
