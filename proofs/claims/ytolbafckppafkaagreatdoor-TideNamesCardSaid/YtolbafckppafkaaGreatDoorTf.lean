/-
  PACKAGE tide: Print.
-/
import Derived.Test.YtolbafckppafkaaGreatDoorTc
import Derived.Test.YtolbafckppafkaaGreatDoorTd
import Derived.Test.YtolbafckppafkaaGreatDoorGd
import Derived.Test.YtolbafckppafkaaGreatDoorShD
import Derived.Lib.ItoaLen
import Derived.Lib.Join
import Derived.Deep.RegionHeld3
import Derived.Deep.DeepCutAuto
set_option linter.unusedVariables false
set_option linter.unusedSimpArgs false
set_option linter.unnecessarySimpa false
namespace Go.Proofs.YtolbafckppafkaaGreatDoor
open Go.RowKit Pl

/-- what is printed of a constituent -/
def showT (t : Td) : List UInt8 := t.name ++ 32 :: (Lib.itoa t.far ++ 32 :: (Lib.itoa t.near ++ 32 :: (printG t.re t.im).1))
def printT (t : Td) : List UInt8 × Int := if tchk t ≠ 0 then ([], tchk t) else if (printG t.re t.im).2 ≠ 0 then ([], (printG t.re t.im).2) else if 65536 < (showT t).length then ([], 3) else (showT t, 0)

theorem printG_len (f k : F) : (printG f k).1.length ≤ 65536 := by
  unfold printG
  split
  · simp
  · split
    · simp
    · simp only; omega
theorem tchk_name {t : Td} (h : tchk t = 0) : t.name.length ≤ 20 := by
  unfold tchk at h
  by_cases hn : okName t.name = false
  · rw [if_pos hn] at h; cases h
  · have hn' : okName t.name = true := by cases hb : okName t.name <;> simp_all
    unfold okName at hn'
    simp only [Bool.and_eq_true, decide_eq_true_eq] at hn'
    exact hn'.1.1.2

theorem Kp.al {w W : World} {bs : List (Nat × TypeId × Array Value)} {os : List (Option Addr × Nat × List Int)} (h : Kp w bs os W) (o : Obj) : Kp w bs os (W.alloc o) := h.below ((Below.refl _ _).alloc (Nat.le_refl _) o)
theorem Kp.top3 {w W : World} {g : Nat} {t : TypeId} {a b c d e f x y z : Value} {os : List (Option Addr × Nat × List Int)} (h : Kp w [(g, t, #[a, b, c, d, e, f, x, y, z])] os W) :
    Kp w [(g, t, #[a, b, c, d, e, f, x, y, z])] os W ∧ W.cell? ⟨g, 0, none⟩ = some a ∧ W.cell? ⟨g, 1, none⟩ = some b ∧ W.cell? ⟨g, 2, none⟩ = some c :=
  ⟨h, h.b0.cell 0, h.b0.cell 1, h.b0.cell 2⟩

theorem Join4 (a b c d : List UInt8) (hl : a.length + b.length + c.length + d.length ≤ 1000000) (W : World) (g : Nat) (hk : Blk W g 9 #[.string ⟨a.toArray⟩, .string ⟨b.toArray⟩, .string ⟨c.toArray⟩, .string ⟨d.toArray⟩]) :
    Calls Tryz.prog 55 #[.slice (some ⟨g, 0, none⟩) 4 4, .string ⟨#[32]⟩] W fun e w' => e = .returned (.string ⟨(a ++ 32 :: (b ++ 32 :: (c ++ 32 :: d))).toArray⟩) ∧ Below W.heap.size W w' := by
  have e : Lib.join (([⟨a.toArray⟩, ⟨b.toArray⟩, ⟨c.toArray⟩, ⟨d.toArray⟩] : List ByteArray).map (·.data.toList)) (⟨#[32]⟩ : ByteArray).data.toList = a ++ 32 :: (b ++ 32 :: (c ++ 32 :: d)) := by
    show Lib.join [a, b, c, d] [32] = _
    rw [Lib.join_cons]
    simp [Lib.joinTail]
  have J := Tryz.strings_Join g 0 4 [⟨a.toArray⟩, ⟨b.toArray⟩, ⟨c.toArray⟩, ⟨d.toArray⟩] ⟨#[32]⟩ W (by
    intro j x hx
    match j, hx with
    | 0, hx => injection hx with hx; subst hx; exact hk.cell 0
    | 1, hx => injection hx with hx; subst hx; exact hk.cell 1
    | 2, hx => injection hx with hx; subst hx; exact hk.cell 2
    | 3, hx => injection hx with hx; subst hx; exact hk.cell 3
    | j + 4, hx => simp at hx) hk.lt (by simp) (by simp) (by rw [e]; simp only [List.length_append, List.length_cons]; omega)
  rw [e] at J
  exact J

set_option maxHeartbeats 4000000 in
theorem tPrint_any (t : Td) (L M : Loc) (w : World) (ht : t.inr) (h : RdL w t.re L) (h' : RdL w t.im M) (htab : Tab w) :
    Calls Tryz.prog 28 #[valT t L M] w fun e w' => e = .returned (.tuple #[.string ⟨(printT t).1.toArray⟩, .int .i64 (printT t).2]) ∧ Below w.heap.size w w' := by
  have C1 := Lib.hid (fun W r1 r2 => tCheck_any t L M W ht r1 r2)
  have G1 := Lib.hid (fun W r1 r2 tb => gPrint_any t.re L t.im M W r1 r2 tb)
  have HT := Lib.hid htab
  have hpl := printG_len t.re t.im
  have H1 := Lib.hid h
  have H2 := Lib.hid h'
  have hnl := @tchk_name t
  obtain ⟨hf, hn, hs⟩ := ht
  unfold printT showT
  obtain ⟨name, far, near, re, im⟩ := t
  unfold valT at C1 ⊢
  unfold valG at G1
  simp only at *
  have I1 := Lib.hid (fun W tb => Itoa_any far (by omega) (by omega) W tb)
  have I2 := Lib.hid (fun W tb => Itoa_any near (by omega) (by omega) W tb)
  have l1 := Lib.itoa_length_le far (by omega) (by omega)
  have l2 := Lib.itoa_length_le near (by omega) (by omega)
  obtain ⟨hf1, hf2⟩ := hf
  obtain ⟨hn1, hn2⟩ := hn
  generalize tchk ⟨name, far, near, re, im⟩ = z at *
  generalize printG re im = pg at *
  obtain ⟨s, y⟩ := pg
  simp only at G1 hpl ⊢
  generalize Lib.itoa far = x1 at *
  generalize Lib.itoa near = x2 at *
  clear htab h h'
  generalize Value.bool re.neg = v0 at *
  generalize Value.slice L.A re.num.length L.c = v1 at *
  generalize Value.slice L.B re.den.length L.d = v2 at *
  generalize Value.bool im.neg = v3 at *
  generalize Value.slice M.A im.num.length M.c = v4 at *
  generalize Value.slice M.B im.den.length M.d = v5 at *
  obtain ⟨w0, e0, hK0⟩ := kq1 w 31 #[.string ⟨name.toArray⟩, .int .i32 far, .int .i32 near, v0, v1, v2, v3, v4, v5]
  have HK := Lib.hid hK0
  clear hK0
  by_cases hz : z = 0
  case neg =>
    rw [if_pos hz]
    have hz' : (z != 0) = true := bne_iff_ne.2 hz
    go_enter Tryz.func28, Tryz.ntmps28
    go_wp2_with fail
    rw [← e0]
    clear e0
    obtain ⟨p0, p1, p2, p3, p4, p5, p6, p7, p8⟩ := Blk.nine HK.out.b0
    go_wp2_with fail
    refine (C1.out w0 (H1.out.below HK.out.low) (H2.out.below HK.out.low)).mono ?_
    rintro e w1 ⟨rfl, hB⟩
    have HB := Lib.hid (below_trans HK.out.low hB)
    clear hB
    go_wp2
    go_ret2
    exact ⟨rfl, HB.out⟩
  have hnl := hnl hz
  subst hz
  rw [if_neg (by decide)]
  by_cases hy : y = 0
  case neg =>
    rw [if_pos hy]
    have hy' : (y != 0) = true := bne_iff_ne.2 hy
    go_enter Tryz.func28, Tryz.ntmps28
    go_wp2_with fail
    rw [← e0]
    clear e0
    obtain ⟨p0, p1, p2, p3, p4, p5, p6, p7, p8⟩ := Blk.nine HK.out.b0
    go_wp2_with fail
    refine (C1.out w0 (H1.out.below HK.out.low) (H2.out.below HK.out.low)).mono ?_
    rintro e w1 ⟨rfl, hB⟩
    have HK := Lib.hid (HK.out.below hB)
    clear hB p0 p1 p2 p3 p4 p5 p6 p7 p8
    obtain ⟨p0, p1, p2, p3, p4, p5, p6, p7, p8⟩ := Blk.nine HK.out.b0
    go_wp2_with fail
    refine (G1.out w1 (H1.out.below HK.out.low) (H2.out.below HK.out.low) (HT.out.low HK.out.low (Nat.le_refl _))).mono ?_
    rintro e w2 ⟨rfl, hB⟩
    have HB := Lib.hid (below_trans HK.out.low hB)
    clear hB
    go_wp2
    go_ret2
    exact ⟨rfl, HB.out⟩
  subst hy
  rw [if_neg (by decide)]
  have J := Lib.hid (fun W g hk => Join4 name x1 x2 s (by omega) W g hk)
  have hjl : (name ++ 32 :: (x1 ++ 32 :: (x2 ++ 32 :: s))).length ≤ 100000 := by simp only [List.length_append, List.length_cons]; omega
  obtain ⟨ans, hans⟩ : ∃ ans, ans = (if 65536 < (name ++ 32 :: (x1 ++ 32 :: (x2 ++ 32 :: s))).length then (([], 3) : List UInt8 × Int) else (name ++ 32 :: (x1 ++ 32 :: (x2 ++ 32 :: s)), 0)) := ⟨_, rfl⟩
  rw [← hans]
  generalize name ++ 32 :: (x1 ++ 32 :: (x2 ++ 32 :: s)) = j at *
  have HA := Lib.hid hans
  clear hans
  go_enter Tryz.func28, Tryz.ntmps28
  go_wp2_with fail
  rw [← e0]
  clear e0
  obtain ⟨p0, p1, p2, p3, p4, p5, p6, p7, p8⟩ := Blk.nine HK.out.b0
  go_wp2_with fail
  refine (C1.out w0 (H1.out.below HK.out.low) (H2.out.below HK.out.low)).mono ?_
  rintro e w1 ⟨rfl, hB⟩
  have HK := Lib.hid (HK.out.below hB)
  clear hB p0 p1 p2 p3 p4 p5 p6 p7 p8
  obtain ⟨p0, p1, p2, p3, p4, p5, p6, p7, p8⟩ := Blk.nine HK.out.b0
  go_wp2_with fail
  refine (G1.out w1 (H1.out.below HK.out.low) (H2.out.below HK.out.low) (HT.out.low HK.out.low (Nat.le_refl _))).mono ?_
  rintro e w2 ⟨rfl, hB⟩
  have HK := Lib.hid (HK.out.below hB)
  clear hB p0 p1 p2 p3 p4 p5 p6 p7 p8
  rw [← IntWalk.i64_in far (by omega)] at I1
  rw [← IntWalk.i64_in near (by omega)] at I2
  have I1' := Lib.hid (fun (W : World) (hK : Kp w [(w.heap.size, 31, #[.string ⟨name.toArray⟩, .int .i32 far, .int .i32 near, v0, v1, v2, v3, v4, v5])] [] W) => I1.out W (HT.out.low hK.low (Nat.le_refl _)))
  have I2' := Lib.hid (fun (W : World) (hK : Kp w [(w.heap.size, 31, #[.string ⟨name.toArray⟩, .int .i32 far, .int .i32 near, v0, v1, v2, v3, v4, v5])] [] W) => I2.out W (HT.out.low hK.low (Nat.le_refl _)))
  go_upto_region 7 with fail
  go_cut [7] (fun s7 wx => s7 = .string ⟨j.toArray⟩ ∧ Below w.heap.size w wx)
  case first =>
    obtain ⟨_, p0, p1, p2⟩ := HK.out.top3
    go_region_held3 (fun W => Kp w [(w.heap.size, 31, #[.string ⟨name.toArray⟩, .int .i32 far, .int .i32 near, v0, v1, v2, v3, v4, v5])] [] W ∧ W.cell? ⟨w.heap.size, 0, none⟩ = some (.string ⟨name.toArray⟩) ∧ W.cell? ⟨w.heap.size, 1, none⟩ = some (.int .i32 far) ∧ W.cell? ⟨w.heap.size, 2, none⟩ = some (.int .i32 near)) (first | exact HK.out.top3 | exact HK.out.drew.top3 | exact (HK.out.al _).top3 | exact (HK.out.drew.al _).top3 | exact (HK.out.al _).drew.top3 | exact (HK.out.drew.al _).drew.top3) (first | (go_at_call 56; (with_reducible refine (I1'.out _ ?_).mono ?_); (first | exact HK.out | exact HK.out.drew | exact HK.out.drewN _); rintro e w3 ⟨rfl, hB⟩; (first | have HK := Lib.hid (HK.out.below hB) | have HK := Lib.hid (HK.out.drew.below hB)); clear hB) | (go_at_call 56; (with_reducible refine (I2'.out _ ?_).mono ?_); (first | exact HK.out | exact HK.out.drew | exact HK.out.drewN _); rintro e w3 ⟨rfl, hB⟩; (first | have HK := Lib.hid (HK.out.below hB) | have HK := Lib.hid (HK.out.drew.below hB)); clear hB) | (go_at_call 55; (with_reducible refine (J.out _ _ ?_).mono ?_); (first | exact Blk.new _ _ _ | exact (Blk.new _ _ _).drew | exact (Blk.new _ _ _).drewN _); rintro e w3 ⟨rfl, hB⟩; (first | have HK := Lib.hid ((HK.out.al _).below hB) | have HK := Lib.hid ((HK.out.drew.al _).below hB) | have HK := Lib.hid ((HK.out.al _).drew.below hB) | have HK := Lib.hid ((HK.out.drew.al _).drew.below hB)); clear hB))
    all_goals (go_wp2_with fail; go_meet; exact ⟨rfl, HK.out.low⟩)
  case rest =>
    obtain ⟨rfl, hB⟩ := hcut
    have HB := Lib.hid hB
    clear hB HK
    by_cases hl : 65536 < j.length
    all_goals
      have hA := HA.out
      first | rw [if_pos hl] at hA | rw [if_neg hl] at hA
      subst hA
      clear HA
      go_wp2
      go_ret2
      exact ⟨rfl, HB.out⟩
end Go.Proofs.YtolbafckppafkaaGreatDoor
