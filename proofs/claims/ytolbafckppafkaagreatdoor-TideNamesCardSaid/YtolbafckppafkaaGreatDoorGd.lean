/-
  PACKAGE gauss: Print.
-/
import Derived.Test.YtolbafckppafkaaGreatDoorGc
import Derived.Test.YtolbafckppafkaaGreatDoorYP
set_option linter.unusedVariables false
set_option linter.unusedSimpArgs false
set_option linter.unnecessarySimpa false
namespace Go.Proofs.YtolbafckppafkaaGreatDoor
open Go.RowKit Pl

theorem showF_len {f : F} (h : f.ok) (hn : InR f.num) (hd : InR f.den) : (showF f).length ≤ 300000 := by
  have dx : (dec (val f.num)).length ≤ 147456 := dec_len_nine (val_lt_nine hn (by have := h.2.2.1; omega)) (by omega)
  have dy : (dec (val f.den)).length ≤ 147456 := dec_len_nine (val_lt_nine hd (by have := h.2.2.2.1; omega)) (by omega)
  unfold showF
  simp only [List.length_append]
  split <;> split <;> simp <;> omega
/-- what is printed of a complex fraction -/
def showG (f k : F) : List UInt8 := showF f ++ 32 :: showF k
def printG (f k : F) : List UInt8 × Int := if ck2 f k ≠ 0 then ([], ck2 f k) else if 65536 < (showG f k).length then ([], 3) else (showG f k, 0)

set_option maxHeartbeats 1000000 in
theorem gPrint_any (f : F) (L : Loc) (k : F) (M : Loc) (w : World) (h : RdL w f L) (h' : RdL w k M) (htab : Tab w) :
    Calls Tryz.prog 21 #[valG f L k M] w fun e w' => e = .returned (.tuple #[.string ⟨(printG f k).1.toArray⟩, .int .i64 (printG f k).2]) ∧ Below w.heap.size w w' := by
  have C := Lib.hid (fun W r1 r2 => gCheck_any f L k M W r1 r2)
  have H1 := Lib.hid h
  have H2 := Lib.hid h'
  have HT := Lib.hid htab
  unfold printG
  by_cases hx : ck2 f k = 0
  case neg =>
    rw [if_pos hx]
    have hx' : (ck2 f k != 0) = true := bne_iff_ne.2 hx
    clear h h' htab
    generalize ck2 f k = z at *
    obtain ⟨w0, e0, hK0⟩ := kq1 w 29 #[.bool f.neg, .slice L.A f.num.length L.c, .slice L.B f.den.length L.d, .bool k.neg, .slice M.A k.num.length M.c, .slice M.B k.den.length M.d]
    have HK := Lib.hid hK0
    clear hK0
    unfold valG at C ⊢
    go_enter Tryz.func21, Tryz.ntmps21
    go_wp2_with fail
    rw [← e0]
    clear e0
    obtain ⟨p0, p1, p2, p3, p4, p5⟩ := HK.out.b0.six
    go_wp2_with fail
    refine (C.out w0 (H1.out.below HK.out.low) (H2.out.below HK.out.low)).mono ?_
    rintro e w1 ⟨rfl, hB⟩
    have HB := Lib.hid (below_trans HK.out.low hB)
    clear hB
    go_wp2
    go_ret2
    exact ⟨rfl, HB.out⟩
  rw [if_neg (by rw [hx]; decide)]
  obtain ⟨hf, hk⟩ := (ck2_ok h.1.inr h.2.1.inr h'.1.inr h'.2.1.inr).1 hx
  have n1 := showF_len hf h.1.inr h.2.1.inr
  have n2 := showF_len hk h'.1.inr h'.2.1.inr
  have P1 := Lib.hid (fun W (r : RdL W f L) t => Print0_ok f L.A L.B L.c L.d W r.1 r.2.1 r.2.2.1 r.2.2.2 hf t)
  have P2 := Lib.hid (fun W (r : RdL W k M) t => Print0_ok k M.A M.B M.c M.d W r.1 r.2.1 r.2.2.1 r.2.2.2 hk t)
  have E1 := cat_str (showF f) [32]
  have E2 := cat_str (showF f ++ [32]) (showF k)
  have E3 : showG f k = showF f ++ [32] ++ showF k := by unfold showG; simp
  rw [E3]
  rw [hx] at C
  clear h h' htab hx hf hk E3
  generalize showF f = s at *
  generalize showF k = t at *
  have n3 : (s ++ [32] ++ t).length ≤ 600001 := by simp; omega
  generalize hu : s ++ [32] ++ t = u at *
  obtain ⟨w0, e0, hK0⟩ := kq1 w 29 #[.bool f.neg, .slice L.A f.num.length L.c, .slice L.B f.den.length L.d, .bool k.neg, .slice M.A k.num.length M.c, .slice M.B k.den.length M.d]
  have HK := Lib.hid hK0
  clear hK0
  unfold valG at C ⊢
  by_cases hl : 65536 < u.length
  all_goals
    first | rw [if_pos hl] | rw [if_neg hl]
    go_enter Tryz.func21, Tryz.ntmps21
    go_wp2_with fail
    rw [← e0]
    clear e0
    obtain ⟨p0, p1, p2, p3, p4, p5⟩ := HK.out.b0.six
    go_wp2_with fail
    refine (C.out w0 (H1.out.below HK.out.low) (H2.out.below HK.out.low)).mono ?_
    rintro e w1 ⟨rfl, hB⟩
    have HK := Lib.hid (HK.out.below hB)
    clear hB p0 p1 p2 p3 p4 p5
    obtain ⟨p0, p1, p2, p3, p4, p5⟩ := HK.out.b0.six
    go_wp2_with fail
    refine (P1.out w1 (H1.out.below HK.out.low) (HT.out.low HK.out.low (Nat.le_refl _))).mono ?_
    rintro e w2 ⟨rfl, hB⟩
    have HK := Lib.hid (HK.out.below hB)
    clear hB p0 p1 p2 p3 p4 p5
    obtain ⟨p0, p1, p2, p3, p4, p5⟩ := HK.out.b0.six
    go_wp2_with fail
    refine (P2.out w2 (H2.out.below HK.out.low) (HT.out.low HK.out.low (Nat.le_refl _))).mono ?_
    rintro e w3 ⟨rfl, hB⟩
    have HB := Lib.hid (below_trans HK.out.low hB)
    clear hB p0 p1 p2 p3 p4 p5
    go_wp2
    go_ret2
    exact ⟨rfl, HB.out⟩
end Go.Proofs.YtolbafckppafkaaGreatDoor
