/-
  slackwaterlaw13: TideNames, walked.
-/
import Derived.Test.YtolbafckppafkaaGreatDoorTj
set_option linter.unusedVariables false
set_option linter.unusedSimpArgs false
set_option linter.unnecessarySimpa false
namespace Go.Proofs.YtolbafckppafkaaGreatDoor
open Go.RowKit Pl

def goodAt (l : List UInt8) (j : Nat) (hj : j < l.length) : Prop := isL ((l[j]'hj).toNat : Int) = true ∨ (0 < j ∧ 48 ≤ ((l[j]'hj).toNat : Int) ∧ ((l[j]'hj).toNat : Int) ≤ 57)
/-- what the loop knows behind k rounds -/
def NInv (l : List UInt8) (k : Nat) (b : Bool) : Prop := (b = true → (0 < l.length ∧ l.length ≤ 20) ∧ ∀ j, ∀ hj : j < l.length, j < k → goodAt l j hj) ∧ (b = false → okName l = false)
theorem NInv.start (l : List UInt8) : NInv l 0 (decide (0 < l.length ∧ l.length ≤ 20)) := by
  refine ⟨fun h => ⟨of_decide_eq_true h, fun j _ h => absurd h (Nat.not_lt_zero _)⟩, fun h => ?_⟩
  unfold okName; rw [h]; rfl
theorem NInv.start0 {l : List UInt8} (hc : l.length < 1) : NInv l 0 false := by
  have h := NInv.start l
  rw [decide_eq_false (by omega)] at h; exact h
theorem NInv.start1 {l : List UInt8} (hc : ¬ l.length < 1) : NInv l 0 (decide ((l.length : Int) ≤ 20)) := by
  have e : decide ((l.length : Int) ≤ 20) = decide (0 < l.length ∧ l.length ≤ 20) := by rw [decide_eq_decide]; omega
  rw [e]; exact NInv.start l
theorem NInv.step {l : List UInt8} {k : Nat} (h : NInv l k true) (hk : k < l.length) (hg : goodAt l k hk) : NInv l (k + 1) true := by
  refine ⟨fun _ => ⟨(h.1 rfl).1, fun j hj hjk => ?_⟩, fun h => by cases h⟩
  rcases Nat.lt_succ_iff_lt_or_eq.1 hjk with h2 | h2
  · exact (h.1 rfl).2 j hj h2
  · subst h2; exact hg
theorem NInv.stop {l : List UInt8} {k : Nat} (hk : k < l.length) (hg : ¬ goodAt l k hk) : NInv l (k + 1) false := by
  refine ⟨fun h => (by cases h), fun _ => ?_⟩
  cases k with
  | zero =>
    have hh : (l.headD 0) = l[0]'hk := by cases l with | nil => exact absurd hk (Nat.lt_irrefl _) | cons a l => rfl
    have : isL ((l[0]'hk).toNat : Int) = false := Bool.eq_false_iff.2 fun h => hg (.inl h)
    unfold okName; rw [hh, this]; simp
  | succ k =>
    refine okName_bad l (k + 1) hk ?_
    unfold isLD
    rw [Bool.or_eq_false_iff]
    exact ⟨Bool.eq_false_iff.2 fun h => hg (.inl h), decide_eq_false fun h => hg (.inr ⟨Nat.succ_pos _, h⟩)⟩
theorem NInv.end_ {l : List UInt8} {k : Nat} {b : Bool} (h : NInv l k b) (he : b = true → l.length ≤ k) : okName l = b := by
  cases b with
  | false => exact h.2 rfl
  | true =>
    obtain ⟨h1, h2⟩ := h.1 rfl
    have hl := he rfl
    have h0 := h2 0 h1.1 (by omega)
    have hh : (l.headD 0) = l[0]'h1.1 := by cases l with | nil => exact absurd h1.1 (Nat.lt_irrefl _) | cons a l => rfl
    refine okName_good l h1 ?_ fun k hk => ?_
    · rw [hh]
      rcases h0 with h0 | h0
      · exact h0
      · exact absurd h0.1 (Nat.lt_irrefl _)
    · unfold isLD
      rcases h2 k hk (by omega) with h | h
      · rw [h]; rfl
      · rw [decide_eq_true h.2, Bool.or_true]

theorem ex_name (l : List UInt8) : tchk ⟨l, 8, 1, ⟨false, [3], [2]⟩, ⟨true, [1], [1]⟩⟩ = if okName l = false then 4 else 0 := by
  have e1 : okRotor 8 1 = true := by kernel_rfl
  have e2 : ck2 ⟨false, [3], [2]⟩ ⟨true, [1], [1]⟩ = 0 := by kernel_rfl
  unfold tchk
  simp only [e1, e2]
  rfl

set_option maxRecDepth 100000 in
set_option maxHeartbeats 8000000 in
theorem TideNames_any (l : List UInt8) (w : World) (hs : l.length ≤ 9223372036854775807) (htab : Tab w) (herr : Errs w) :
    Calls Tryz.prog 3 #[.string ⟨l.toArray⟩] w fun e w' => e = .returned (.bool true) ∧ Below w.heap.size w w' := by
  have EX := fun W => example_any W
  have hin : (⟨l, 8, 1, ⟨false, [3], [2]⟩, ⟨true, [1], [1]⟩⟩ : Td).inr := ⟨(by decide : (-2147483648 : Int) ≤ 8 ∧ (8 : Int) ≤ 2147483647), (by decide : (-2147483648 : Int) ≤ 1 ∧ (1 : Int) ≤ 2147483647), hs⟩
  have CK := fun L M W h h' => tCheck_any ⟨l, 8, 1, ⟨false, [3], [2]⟩, ⟨true, [1], [1]⟩⟩ L M W hin h h'
  rw [ex_name] at CK
  unfold ToldV exT at EX
  clear hin
  generalize (⟨false, [3], [2]⟩ : F) = f at *
  generalize (⟨true, [1], [1]⟩ : F) = k0 at *
  unfold valT at EX CK
  simp only at EX CK
  have HEX := Lib.hid EX
  have HCK := Lib.hid CK
  have HNM := Lib.hid (fun W => Name_any l W hs)
  have AW := Lib.hid (awake13 w htab herr)
  clear EX CK htab herr
  have HS0 := Lib.hid (NInv.start l)
  have AT : ∀ (L : Prop), L → L := fun _ h => h
  go_enter Tryz.func3, Tryz.ntmps3
  go_wp2_with fail
  refine AW.out.mono ?_
  rintro e w1 ⟨rfl, hB⟩
  have HB := Lib.hid hB
  clear hB AW AT
  obtain ⟨r0, hr0⟩ : ∃ r : Bool, r = decide (0 < l.length ∧ l.length ≤ 20) := ⟨_, rfl⟩
  rw [← hr0] at HS0
  have HR0 := Lib.hid hr0
  clear hr0
  go_wp2_with fail
  all_goals
    go_loopw [5, 4] (fun i j wr => ∃ (k : Nat) (b : Bool), k ≤ l.length ∧ i = .int .i64 k ∧ j = .bool b ∧ w1 = wr ∧ Hid (NInv l k b)) (fun i _ _ => l.length - (intOf i).toNat)
    case atStart =>
      by_cases hc : l.length < 1
      · first | (exfalso; omega) | exact ⟨0, false, Nat.zero_le _, rfl, rfl, rfl, Lib.hid (NInv.start0 hc)⟩
      · first | (exfalso; omega) | exact ⟨0, _, Nat.zero_le _, rfl, rfl, rfl, Lib.hid (NInv.start1 hc)⟩
    case round =>
      obtain ⟨k, b, hk, rfl, rfl, rfl, HI⟩ := hrel
      cases b
      · by_cases h0 : k < l.length
        · have hkl : (k : Int) < (l.length : Int) := by omega
          try (exfalso; omega)
          all_goals
            have HQ := HI.out.end_ (by intro h; cases h)
            have HNMt := HNM.out
            rw [HQ] at HNMt
            have HN := Lib.hid HNMt
            have HCKt := HCK.out
            rw [HQ] at HCKt
            rw [if_pos rfl] at HCKt
            have HC := Lib.hid HCKt
            clear HNM HCK HS0 HR0 HI HQ HNMt HCKt
            go_wp2_with fail
            refine (HEX.out w1).mono ?_
            rintro e w2 ⟨L, M, rfl, hO1, hO2, hB2⟩
            have hW := (Below.refl w2.heap.size w2).alloc (Nat.le_refl _) (.cells #[.string ⟨l.toArray⟩, .int .i32 8, .int .i32 1, .bool f.neg, .slice L.A f.num.length L.c, .slice L.B f.den.length L.d, .bool k0.neg, .slice M.A k0.num.length M.c, .slice M.B k0.den.length M.d] 31)
            have R1 := Lib.hid (hO1.rd.below hW)
            have R2 := Lib.hid (hO2.rd.below hW)
            have HK2 := Lib.hid (Blk.new w2 31 #[.string ⟨l.toArray⟩, .int .i32 8, .int .i32 1, .bool f.neg, .slice L.A f.num.length L.c, .slice L.B f.den.length L.d, .bool k0.neg, .slice M.A k0.num.length M.c, .slice M.B k0.den.length M.d])
            have HBB := Lib.hid (below_trans (below_trans HB.out hB2) hW)
            clear hO1 hO2 hB2 hW HEX HB
            go_wp2_with fail
            refine (HN.out _).mono ?_
            rintro e w3 ⟨rfl, rfl⟩
            go_wp2_with fail
            refine (HC.out L M _ R1.out R2.out).mono ?_
            rintro e w4 ⟨rfl, hB4⟩
            have HB4 := Lib.hid (below_trans HBB.out hB4)
            have hk := HK2.out.below hB4 HK2.out.lt
            obtain ⟨p0, p1, p2, p3, p4, p5, p6, p7, p8⟩ := Blk.nine hk
            have R3 := Lib.hid (R1.out.below hB4)
            have R4 := Lib.hid (R2.out.below hB4)
            clear hB4 hk R1 R2 HK2 HBB
            go_wp2_with fail
            refine (HC.out L M _ R3.out R4.out).mono ?_
            rintro e w5 ⟨rfl, hB5⟩
            have HB5 := Lib.hid (below_trans HB4.out hB5)
            clear hB5
            go_wp2
            go_ret
            exact ⟨rfl, HB5.out⟩
        · have hkl : ¬ (k : Int) < (l.length : Int) := by omega
          have HQ := HI.out.end_ (by intro h; cases h)
          have HNMt := HNM.out
          rw [HQ] at HNMt
          have HN := Lib.hid HNMt
          have HCKt := HCK.out
          rw [HQ] at HCKt
          rw [if_pos rfl] at HCKt
          have HC := Lib.hid HCKt
          clear HNM HCK HS0 HR0 HI HQ HNMt HCKt
          go_wp2_with fail
          refine (HEX.out w1).mono ?_
          rintro e w2 ⟨L, M, rfl, hO1, hO2, hB2⟩
          have hW := (Below.refl w2.heap.size w2).alloc (Nat.le_refl _) (.cells #[.string ⟨l.toArray⟩, .int .i32 8, .int .i32 1, .bool f.neg, .slice L.A f.num.length L.c, .slice L.B f.den.length L.d, .bool k0.neg, .slice M.A k0.num.length M.c, .slice M.B k0.den.length M.d] 31)
          have R1 := Lib.hid (hO1.rd.below hW)
          have R2 := Lib.hid (hO2.rd.below hW)
          have HK2 := Lib.hid (Blk.new w2 31 #[.string ⟨l.toArray⟩, .int .i32 8, .int .i32 1, .bool f.neg, .slice L.A f.num.length L.c, .slice L.B f.den.length L.d, .bool k0.neg, .slice M.A k0.num.length M.c, .slice M.B k0.den.length M.d])
          have HBB := Lib.hid (below_trans (below_trans HB.out hB2) hW)
          clear hO1 hO2 hB2 hW HEX HB
          go_wp2_with fail
          refine (HN.out _).mono ?_
          rintro e w3 ⟨rfl, rfl⟩
          go_wp2_with fail
          refine (HC.out L M _ R1.out R2.out).mono ?_
          rintro e w4 ⟨rfl, hB4⟩
          have HB4 := Lib.hid (below_trans HBB.out hB4)
          have hk := HK2.out.below hB4 HK2.out.lt
          obtain ⟨p0, p1, p2, p3, p4, p5, p6, p7, p8⟩ := Blk.nine hk
          have R3 := Lib.hid (R1.out.below hB4)
          have R4 := Lib.hid (R2.out.below hB4)
          clear hB4 hk R1 R2 HK2 HBB
          go_wp2_with fail
          refine (HC.out L M _ R3.out R4.out).mono ?_
          rintro e w5 ⟨rfl, hB5⟩
          have HB5 := Lib.hid (below_trans HB4.out hB5)
          clear hB5
          go_wp2
          go_ret
          exact ⟨rfl, HB5.out⟩
      · by_cases h0 : k < l.length
        · have hkl : (k : Int) < (l.length : Int) := by omega
          try (exfalso; omega)
          all_goals
           have hb : k < (⟨l.toArray⟩ : ByteArray).size := by show k < l.toArray.size; simpa using h0
           have HV : Hid ((⟨l.toArray⟩ : ByteArray)[k]'hb = l[k]'h0) := Lib.hid rfl
           have GS := fun hg => HI.out.step h0 hg
           have GP := fun hg => NInv.stop h0 hg
           unfold goodAt at GS GP
           rw [← HV.out] at GS GP
           have HGS := Lib.hid GS
           have HGP := Lib.hid GP
           clear GS GP HNM HCK HS0 HR0 HI HEX
           have hcase : (((((⟨l.toArray⟩ : ByteArray)[k]'hb).toNat : Nat) : Int) < 48) ∨ (48 ≤ ((((⟨l.toArray⟩ : ByteArray)[k]'hb).toNat : Nat) : Int) ∧ ((((⟨l.toArray⟩ : ByteArray)[k]'hb).toNat : Nat) : Int) ≤ 57) ∨ (58 ≤ ((((⟨l.toArray⟩ : ByteArray)[k]'hb).toNat : Nat) : Int) ∧ ((((⟨l.toArray⟩ : ByteArray)[k]'hb).toNat : Nat) : Int) ≤ 64) ∨ (65 ≤ ((((⟨l.toArray⟩ : ByteArray)[k]'hb).toNat : Nat) : Int) ∧ ((((⟨l.toArray⟩ : ByteArray)[k]'hb).toNat : Nat) : Int) ≤ 90) ∨ (91 ≤ ((((⟨l.toArray⟩ : ByteArray)[k]'hb).toNat : Nat) : Int) ∧ ((((⟨l.toArray⟩ : ByteArray)[k]'hb).toNat : Nat) : Int) ≤ 96) ∨ (97 ≤ ((((⟨l.toArray⟩ : ByteArray)[k]'hb).toNat : Nat) : Int) ∧ ((((⟨l.toArray⟩ : ByteArray)[k]'hb).toNat : Nat) : Int) ≤ 122) ∨ (123 ≤ ((((⟨l.toArray⟩ : ByteArray)[k]'hb).toNat : Nat) : Int)) := by omega
           rcases hcase with h0 | h1 | h2 | h3 | h4 | h5 | h6
           · have G := Lib.hid (HGP.out (by unfold isL; intro h; rcases h with h | h; all_goals (first | omega | (simp at h; omega))))
             by_cases hz : 0 < k
             · have hz' : (0 : Int) < (k : Int) := by omega
               have x0 : ¬ 65 ≤ ((((⟨l.toArray⟩ : ByteArray)[k]'hb).toNat : Nat) : Int) := by omega
               have x1 : ((((⟨l.toArray⟩ : ByteArray)[k]'hb).toNat : Nat) : Int) ≤ 90 := by omega
               have x2 : ¬ 97 ≤ ((((⟨l.toArray⟩ : ByteArray)[k]'hb).toNat : Nat) : Int) := by omega
               have x3 : ((((⟨l.toArray⟩ : ByteArray)[k]'hb).toNat : Nat) : Int) ≤ 122 := by omega
               have x4 : ¬ 48 ≤ ((((⟨l.toArray⟩ : ByteArray)[k]'hb).toNat : Nat) : Int) := by omega
               have x5 : ((((⟨l.toArray⟩ : ByteArray)[k]'hb).toNat : Nat) : Int) ≤ 57 := by omega
               clear h0 HGS HGP
               go_wp2
               go_roundw
               case rel => exact ⟨k + 1, false, by omega, by go_num, rfl, by first | rfl | trivial, G⟩
               case measure => first | (simp [intOf]; done) | (simp [intOf]; omega)
             · have hz' : k = 0 := by omega
               subst hz'
               have x0 : ¬ 65 ≤ ((((⟨l.toArray⟩ : ByteArray)[0]'hb).toNat : Nat) : Int) := by omega
               have x1 : ((((⟨l.toArray⟩ : ByteArray)[0]'hb).toNat : Nat) : Int) ≤ 90 := by omega
               have x2 : ¬ 97 ≤ ((((⟨l.toArray⟩ : ByteArray)[0]'hb).toNat : Nat) : Int) := by omega
               have x3 : ((((⟨l.toArray⟩ : ByteArray)[0]'hb).toNat : Nat) : Int) ≤ 122 := by omega
               have x4 : ¬ 48 ≤ ((((⟨l.toArray⟩ : ByteArray)[0]'hb).toNat : Nat) : Int) := by omega
               have x5 : ((((⟨l.toArray⟩ : ByteArray)[0]'hb).toNat : Nat) : Int) ≤ 57 := by omega
               clear h0 HGS HGP
               go_wp2
               go_roundw
               case rel => exact ⟨0 + 1, false, by omega, by go_num, rfl, by first | rfl | trivial, G⟩
               case measure => first | (simp [intOf]; done) | (simp [intOf]; omega)
           · by_cases hz : 0 < k
             · have hz' : (0 : Int) < (k : Int) := by omega
               have x0 : ¬ 65 ≤ ((((⟨l.toArray⟩ : ByteArray)[k]'hb).toNat : Nat) : Int) := by omega
               have x1 : ((((⟨l.toArray⟩ : ByteArray)[k]'hb).toNat : Nat) : Int) ≤ 90 := by omega
               have x2 : ¬ 97 ≤ ((((⟨l.toArray⟩ : ByteArray)[k]'hb).toNat : Nat) : Int) := by omega
               have x3 : ((((⟨l.toArray⟩ : ByteArray)[k]'hb).toNat : Nat) : Int) ≤ 122 := by omega
               have x4 : 48 ≤ ((((⟨l.toArray⟩ : ByteArray)[k]'hb).toNat : Nat) : Int) := by omega
               have x5 : ((((⟨l.toArray⟩ : ByteArray)[k]'hb).toNat : Nat) : Int) ≤ 57 := by omega
               have G := Lib.hid (HGS.out (.inr ⟨hz, by omega, by omega⟩))
               clear h1 HGS HGP
               go_wp2
               go_roundw
               case rel => exact ⟨k + 1, true, by omega, by go_num, rfl, by first | rfl | trivial, G⟩
               case measure => first | (simp [intOf]; done) | (simp [intOf]; omega)
             · have hz' : k = 0 := by omega
               subst hz'
               have x0 : ¬ 65 ≤ ((((⟨l.toArray⟩ : ByteArray)[0]'hb).toNat : Nat) : Int) := by omega
               have x1 : ((((⟨l.toArray⟩ : ByteArray)[0]'hb).toNat : Nat) : Int) ≤ 90 := by omega
               have x2 : ¬ 97 ≤ ((((⟨l.toArray⟩ : ByteArray)[0]'hb).toNat : Nat) : Int) := by omega
               have x3 : ((((⟨l.toArray⟩ : ByteArray)[0]'hb).toNat : Nat) : Int) ≤ 122 := by omega
               have x4 : 48 ≤ ((((⟨l.toArray⟩ : ByteArray)[0]'hb).toNat : Nat) : Int) := by omega
               have x5 : ((((⟨l.toArray⟩ : ByteArray)[0]'hb).toNat : Nat) : Int) ≤ 57 := by omega
               have G := Lib.hid (HGP.out (by unfold isL; intro h; rcases h with h | h; all_goals (first | omega | (simp at h; omega))))
               clear h1 HGS HGP
               go_wp2
               go_roundw
               case rel => exact ⟨0 + 1, false, by omega, by go_num, rfl, by first | rfl | trivial, G⟩
               case measure => first | (simp [intOf]; done) | (simp [intOf]; omega)
           · have G := Lib.hid (HGP.out (by unfold isL; intro h; rcases h with h | h; all_goals (first | omega | (simp at h; omega))))
             by_cases hz : 0 < k
             · have hz' : (0 : Int) < (k : Int) := by omega
               have x0 : ¬ 65 ≤ ((((⟨l.toArray⟩ : ByteArray)[k]'hb).toNat : Nat) : Int) := by omega
               have x1 : ((((⟨l.toArray⟩ : ByteArray)[k]'hb).toNat : Nat) : Int) ≤ 90 := by omega
               have x2 : ¬ 97 ≤ ((((⟨l.toArray⟩ : ByteArray)[k]'hb).toNat : Nat) : Int) := by omega
               have x3 : ((((⟨l.toArray⟩ : ByteArray)[k]'hb).toNat : Nat) : Int) ≤ 122 := by omega
               have x4 : 48 ≤ ((((⟨l.toArray⟩ : ByteArray)[k]'hb).toNat : Nat) : Int) := by omega
               have x5 : ¬ ((((⟨l.toArray⟩ : ByteArray)[k]'hb).toNat : Nat) : Int) ≤ 57 := by omega
               clear h2 HGS HGP
               go_wp2
               go_roundw
               case rel => exact ⟨k + 1, false, by omega, by go_num, rfl, by first | rfl | trivial, G⟩
               case measure => first | (simp [intOf]; done) | (simp [intOf]; omega)
             · have hz' : k = 0 := by omega
               subst hz'
               have x0 : ¬ 65 ≤ ((((⟨l.toArray⟩ : ByteArray)[0]'hb).toNat : Nat) : Int) := by omega
               have x1 : ((((⟨l.toArray⟩ : ByteArray)[0]'hb).toNat : Nat) : Int) ≤ 90 := by omega
               have x2 : ¬ 97 ≤ ((((⟨l.toArray⟩ : ByteArray)[0]'hb).toNat : Nat) : Int) := by omega
               have x3 : ((((⟨l.toArray⟩ : ByteArray)[0]'hb).toNat : Nat) : Int) ≤ 122 := by omega
               have x4 : 48 ≤ ((((⟨l.toArray⟩ : ByteArray)[0]'hb).toNat : Nat) : Int) := by omega
               have x5 : ¬ ((((⟨l.toArray⟩ : ByteArray)[0]'hb).toNat : Nat) : Int) ≤ 57 := by omega
               clear h2 HGS HGP
               go_wp2
               go_roundw
               case rel => exact ⟨0 + 1, false, by omega, by go_num, rfl, by first | rfl | trivial, G⟩
               case measure => first | (simp [intOf]; done) | (simp [intOf]; omega)
           · have x0 : 65 ≤ ((((⟨l.toArray⟩ : ByteArray)[k]'hb).toNat : Nat) : Int) := by omega
             have x1 : ((((⟨l.toArray⟩ : ByteArray)[k]'hb).toNat : Nat) : Int) ≤ 90 := by omega
             have x2 : ¬ 97 ≤ ((((⟨l.toArray⟩ : ByteArray)[k]'hb).toNat : Nat) : Int) := by omega
             have x3 : ((((⟨l.toArray⟩ : ByteArray)[k]'hb).toNat : Nat) : Int) ≤ 122 := by omega
             have x4 : 48 ≤ ((((⟨l.toArray⟩ : ByteArray)[k]'hb).toNat : Nat) : Int) := by omega
             have x5 : ¬ ((((⟨l.toArray⟩ : ByteArray)[k]'hb).toNat : Nat) : Int) ≤ 57 := by omega
             have G := Lib.hid (HGS.out (.inl (by unfold isL; simp; omega)))
             clear h3 HGS HGP
             go_wp2
             go_roundw
             case rel => exact ⟨k + 1, true, by omega, by go_num, rfl, by first | rfl | trivial, G⟩
             case measure => first | (simp [intOf]; done) | (simp [intOf]; omega)
           · have G := Lib.hid (HGP.out (by unfold isL; intro h; rcases h with h | h; all_goals (first | omega | (simp at h; omega))))
             by_cases hz : 0 < k
             · have hz' : (0 : Int) < (k : Int) := by omega
               have x0 : 65 ≤ ((((⟨l.toArray⟩ : ByteArray)[k]'hb).toNat : Nat) : Int) := by omega
               have x1 : ¬ ((((⟨l.toArray⟩ : ByteArray)[k]'hb).toNat : Nat) : Int) ≤ 90 := by omega
               have x2 : ¬ 97 ≤ ((((⟨l.toArray⟩ : ByteArray)[k]'hb).toNat : Nat) : Int) := by omega
               have x3 : ((((⟨l.toArray⟩ : ByteArray)[k]'hb).toNat : Nat) : Int) ≤ 122 := by omega
               have x4 : 48 ≤ ((((⟨l.toArray⟩ : ByteArray)[k]'hb).toNat : Nat) : Int) := by omega
               have x5 : ¬ ((((⟨l.toArray⟩ : ByteArray)[k]'hb).toNat : Nat) : Int) ≤ 57 := by omega
               clear h4 HGS HGP
               go_wp2
               go_roundw
               case rel => exact ⟨k + 1, false, by omega, by go_num, rfl, by first | rfl | trivial, G⟩
               case measure => first | (simp [intOf]; done) | (simp [intOf]; omega)
             · have hz' : k = 0 := by omega
               subst hz'
               have x0 : 65 ≤ ((((⟨l.toArray⟩ : ByteArray)[0]'hb).toNat : Nat) : Int) := by omega
               have x1 : ¬ ((((⟨l.toArray⟩ : ByteArray)[0]'hb).toNat : Nat) : Int) ≤ 90 := by omega
               have x2 : ¬ 97 ≤ ((((⟨l.toArray⟩ : ByteArray)[0]'hb).toNat : Nat) : Int) := by omega
               have x3 : ((((⟨l.toArray⟩ : ByteArray)[0]'hb).toNat : Nat) : Int) ≤ 122 := by omega
               have x4 : 48 ≤ ((((⟨l.toArray⟩ : ByteArray)[0]'hb).toNat : Nat) : Int) := by omega
               have x5 : ¬ ((((⟨l.toArray⟩ : ByteArray)[0]'hb).toNat : Nat) : Int) ≤ 57 := by omega
               clear h4 HGS HGP
               go_wp2
               go_roundw
               case rel => exact ⟨0 + 1, false, by omega, by go_num, rfl, by first | rfl | trivial, G⟩
               case measure => first | (simp [intOf]; done) | (simp [intOf]; omega)
           · have x0 : 65 ≤ ((((⟨l.toArray⟩ : ByteArray)[k]'hb).toNat : Nat) : Int) := by omega
             have x1 : ¬ ((((⟨l.toArray⟩ : ByteArray)[k]'hb).toNat : Nat) : Int) ≤ 90 := by omega
             have x2 : 97 ≤ ((((⟨l.toArray⟩ : ByteArray)[k]'hb).toNat : Nat) : Int) := by omega
             have x3 : ((((⟨l.toArray⟩ : ByteArray)[k]'hb).toNat : Nat) : Int) ≤ 122 := by omega
             have x4 : 48 ≤ ((((⟨l.toArray⟩ : ByteArray)[k]'hb).toNat : Nat) : Int) := by omega
             have x5 : ¬ ((((⟨l.toArray⟩ : ByteArray)[k]'hb).toNat : Nat) : Int) ≤ 57 := by omega
             have G := Lib.hid (HGS.out (.inl (by unfold isL; simp; omega)))
             clear h5 HGS HGP
             go_wp2
             go_roundw
             case rel => exact ⟨k + 1, true, by omega, by go_num, rfl, by first | rfl | trivial, G⟩
             case measure => first | (simp [intOf]; done) | (simp [intOf]; omega)
           · have G := Lib.hid (HGP.out (by unfold isL; intro h; rcases h with h | h; all_goals (first | omega | (simp at h; omega))))
             by_cases hz : 0 < k
             · have hz' : (0 : Int) < (k : Int) := by omega
               have x0 : 65 ≤ ((((⟨l.toArray⟩ : ByteArray)[k]'hb).toNat : Nat) : Int) := by omega
               have x1 : ¬ ((((⟨l.toArray⟩ : ByteArray)[k]'hb).toNat : Nat) : Int) ≤ 90 := by omega
               have x2 : 97 ≤ ((((⟨l.toArray⟩ : ByteArray)[k]'hb).toNat : Nat) : Int) := by omega
               have x3 : ¬ ((((⟨l.toArray⟩ : ByteArray)[k]'hb).toNat : Nat) : Int) ≤ 122 := by omega
               have x4 : 48 ≤ ((((⟨l.toArray⟩ : ByteArray)[k]'hb).toNat : Nat) : Int) := by omega
               have x5 : ¬ ((((⟨l.toArray⟩ : ByteArray)[k]'hb).toNat : Nat) : Int) ≤ 57 := by omega
               clear h6 HGS HGP
               go_wp2
               go_roundw
               case rel => exact ⟨k + 1, false, by omega, by go_num, rfl, by first | rfl | trivial, G⟩
               case measure => first | (simp [intOf]; done) | (simp [intOf]; omega)
             · have hz' : k = 0 := by omega
               subst hz'
               have x0 : 65 ≤ ((((⟨l.toArray⟩ : ByteArray)[0]'hb).toNat : Nat) : Int) := by omega
               have x1 : ¬ ((((⟨l.toArray⟩ : ByteArray)[0]'hb).toNat : Nat) : Int) ≤ 90 := by omega
               have x2 : 97 ≤ ((((⟨l.toArray⟩ : ByteArray)[0]'hb).toNat : Nat) : Int) := by omega
               have x3 : ¬ ((((⟨l.toArray⟩ : ByteArray)[0]'hb).toNat : Nat) : Int) ≤ 122 := by omega
               have x4 : 48 ≤ ((((⟨l.toArray⟩ : ByteArray)[0]'hb).toNat : Nat) : Int) := by omega
               have x5 : ¬ ((((⟨l.toArray⟩ : ByteArray)[0]'hb).toNat : Nat) : Int) ≤ 57 := by omega
               clear h6 HGS HGP
               go_wp2
               go_roundw
               case rel => exact ⟨0 + 1, false, by omega, by go_num, rfl, by first | rfl | trivial, G⟩
               case measure => first | (simp [intOf]; done) | (simp [intOf]; omega)
        · have hkl : ¬ (k : Int) < (l.length : Int) := by omega
          have HQ := HI.out.end_ (by intro _; omega)
          have HNMt := HNM.out
          rw [HQ] at HNMt
          have HN := Lib.hid HNMt
          have HCKt := HCK.out
          rw [HQ] at HCKt
          rw [if_neg (by decide)] at HCKt
          have HC := Lib.hid HCKt
          clear HNM HCK HS0 HR0 HI HQ HNMt HCKt
          go_wp2_with fail
          refine (HEX.out w1).mono ?_
          rintro e w2 ⟨L, M, rfl, hO1, hO2, hB2⟩
          have hW := (Below.refl w2.heap.size w2).alloc (Nat.le_refl _) (.cells #[.string ⟨l.toArray⟩, .int .i32 8, .int .i32 1, .bool f.neg, .slice L.A f.num.length L.c, .slice L.B f.den.length L.d, .bool k0.neg, .slice M.A k0.num.length M.c, .slice M.B k0.den.length M.d] 31)
          have R1 := Lib.hid (hO1.rd.below hW)
          have R2 := Lib.hid (hO2.rd.below hW)
          have HK2 := Lib.hid (Blk.new w2 31 #[.string ⟨l.toArray⟩, .int .i32 8, .int .i32 1, .bool f.neg, .slice L.A f.num.length L.c, .slice L.B f.den.length L.d, .bool k0.neg, .slice M.A k0.num.length M.c, .slice M.B k0.den.length M.d])
          have HBB := Lib.hid (below_trans (below_trans HB.out hB2) hW)
          clear hO1 hO2 hB2 hW HEX HB
          go_wp2_with fail
          refine (HN.out _).mono ?_
          rintro e w3 ⟨rfl, rfl⟩
          go_wp2_with fail
          refine (HC.out L M _ R1.out R2.out).mono ?_
          rintro e w4 ⟨rfl, hB4⟩
          have HB4 := Lib.hid (below_trans HBB.out hB4)
          clear hB4
          go_wp2
          go_ret
          exact ⟨rfl, HB4.out⟩
end Go.Proofs.YtolbafckppafkaaGreatDoor
