/-
  Stable texts joined: Rp.
-/
import Derived.Test.YtolbafckppafkaaGreatDoorYG
import Derived.Test.YtolbafckppafkaaGreatDoorYK
import Derived.Test.YtolbafckppafkaaGreatDoorYN
/-
  PACKAGE ratio: Print.
-/
set_option linter.unusedVariables false
set_option linter.unusedSimpArgs false
set_option linter.unnecessarySimpa false
namespace Go.Proofs.YtolbafckppafkaaGreatDoor
open Go.RowKit Pl

/-- a fraction's text -/
def showF (f : F) : List UInt8 := (if f.neg then [45] else []) ++ (dec (val f.num) ++ (if val f.den = 1 then [] else 47 :: dec (val f.den)))
theorem cat_head (c : UInt8) (b : List UInt8) : (⟨#[c]⟩ : ByteArray) ++ ⟨b.toArray⟩ = ⟨(c :: b).toArray⟩ := cat_str [c] b

set_option maxHeartbeats 1000000 in
theorem Print0_no (f : F) (A A' : Option Addr) (c c' : Nat) (w : World) (h : Rd w A f.num) (h' : Rd w A' f.den) (hc : f.num.length ≤ c) (hc' : f.den.length ≤ c') (hx : chk f ≠ 0) :
    Calls Tryz.prog 49 #[.agg #[.bool f.neg, .slice A f.num.length c, .slice A' f.den.length c']] w fun e w' =>
      e = .returned (.tuple #[.string ⟨#[]⟩, .int .i64 (chk f)]) ∧ Below w.heap.size w w' := by
  have C1 := Lib.hid (fun W r1 r2 => rCheck_any f A A' c c' W r1 r2 hc hc')
  generalize chk f = x at *
  have hx' : (x != 0) = true := bne_iff_ne.2 hx
  obtain ⟨w0, e0, hK0⟩ := kq1 w 27 #[.bool f.neg, .slice A f.num.length c, .slice A' f.den.length c']
  have HK := Lib.hid hK0
  have p0 : w0.cell? ⟨w.heap.size, 0, none⟩ = some (.bool f.neg) := HK.out.b0.cell 0
  have p1 : w0.cell? ⟨w.heap.size, 1, none⟩ = some (.slice A f.num.length c) := HK.out.b0.cell 1
  have p2 : w0.cell? ⟨w.heap.size, 2, none⟩ = some (.slice A' f.den.length c') := HK.out.b0.cell 2
  clear hK0
  go_enter Tryz.func49, Tryz.ntmps49
  go_wp2_with fail
  rw [← e0]
  clear e0
  refine (C1.out w0 (h.below HK.out.low) (h'.below HK.out.low)).mono ?_
  rintro e w1 ⟨rfl, hB⟩
  have HK := Lib.hid (HK.out.below hB)
  clear hB p0 p1 p2
  go_wp2
  go_ret2
  exact ⟨rfl, HK.out.low⟩

set_option maxHeartbeats 2000000 in
theorem Print0_ok (f : F) (A A' : Option Addr) (c c' : Nat) (w : World) (h : Rd w A f.num) (h' : Rd w A' f.den) (hc : f.num.length ≤ c) (hc' : f.den.length ≤ c') (hf : f.ok) (htab : Tab w) :
    Calls Tryz.prog 49 #[.agg #[.bool f.neg, .slice A f.num.length c, .slice A' f.den.length c']] w fun e w' =>
      e = .returned (.tuple #[.string ⟨(showF f).toArray⟩, .int .i64 0]) ∧ Below w.heap.size w w' := by
  have C1 := rCheck_any f A A' c c'
  rw [(chk_ok h.inr h'.inr).2 hf] at C1
  have HC := Lib.hid (fun W r1 r2 => C1 W r1 r2 hc hc')
  clear C1
  have P1 := Lib.hid (fun W r t => Print_ok A c f.num W r hc hf.1 (by have := hf.2.2.1; omega) t)
  have P2 := Lib.hid (fun W r t => Print_ok A' c' f.den W r hc' hf.2.1 (by have := hf.2.2.2.1; omega) t)
  have HT := Lib.hid htab
  have dx : (dec (val f.num)).length ≤ 147456 := dec_len_nine (val_lt_nine h.inr (by have := hf.2.2.1; omega)) (by omega)
  have dy : (dec (val f.den)).length ≤ 147456 := dec_len_nine (val_lt_nine h'.inr (by have := hf.2.2.2.1; omega)) (by omega)
  unfold showF
  clear hf htab
  obtain ⟨fn, fl, fm⟩ := f
  simp only at *
  have CM := Lib.hid (fun w1 r => cmp1_any A' c' (val fm) fm w1 r hc' rfl)
  generalize val fl = x at *
  generalize val fm = y at *
  obtain ⟨w0, e0, hK0⟩ := kq1 w 27 #[.bool fn, .slice A fl.length c, .slice A' fm.length c']
  have HK := Lib.hid hK0
  clear hK0
  have hcmp : (y = 1 ∧ cmpN y 1 = 0) ∨ (y ≠ 1 ∧ (cmpN y 1 != 0) = true) := by
    by_cases e : y = 1
    · subst e; exact .inl ⟨rfl, rfl⟩
    · refine .inr ⟨e, ?_⟩
      rw [bne_iff_ne]; unfold cmpN; split
      · omega
      · split <;> omega
  have E1 := cat_head 45 (dec x)
  have E2 := cat_head 47 (dec y)
  have E3 := cat_str (dec x) (47 :: dec y)
  have E4 := cat_str (45 :: dec x) (47 :: dec y)
  generalize cmpN y 1 = z at *
  rcases hcmp with ⟨rfl, rfl⟩ | ⟨hy, hz⟩
  all_goals
    cases fn
    all_goals
      first | rw [if_pos rfl] | skip
      first | rw [if_neg hy] | skip
      go_enter Tryz.func49, Tryz.ntmps49
      go_wp2_with fail
      rw [← e0]
      clear e0
      have p0 := HK.out.b0.cell 0
      have p1 : w0.cell? ⟨w.heap.size, 1, none⟩ = some (.slice A fl.length c) := HK.out.b0.cell 1
      have p2 : w0.cell? ⟨w.heap.size, 2, none⟩ = some (.slice A' fm.length c') := HK.out.b0.cell 2
      simp only [List.getElem?_toArray, List.getElem?_cons_zero, List.getElem?_cons_succ] at p0
      go_wp2_with fail
      refine (HC.out w0 (h.below HK.out.low) (h'.below HK.out.low)).mono ?_
      rintro e w1 ⟨rfl, hB⟩
      have HK := Lib.hid (HK.out.below hB)
      clear hB p0 p1 p2
      have p0 := HK.out.b0.cell 0
      have p1 : w1.cell? ⟨w.heap.size, 1, none⟩ = some (.slice A fl.length c) := HK.out.b0.cell 1
      have p2 : w1.cell? ⟨w.heap.size, 2, none⟩ = some (.slice A' fm.length c') := HK.out.b0.cell 2
      simp only [List.getElem?_toArray, List.getElem?_cons_zero, List.getElem?_cons_succ] at p0
      go_wp2_with fail
      refine (P1.out w1 (h.below HK.out.low) (HT.out.low HK.out.low (Nat.le_refl _))).mono ?_
      rintro e w2 ⟨rfl, hB⟩
      have HK := Lib.hid (HK.out.below hB)
      clear hB p0 p1 p2
      have p0 := HK.out.b0.cell 0
      have p1 : w2.cell? ⟨w.heap.size, 1, none⟩ = some (.slice A fl.length c) := HK.out.b0.cell 1
      have p2 : w2.cell? ⟨w.heap.size, 2, none⟩ = some (.slice A' fm.length c') := HK.out.b0.cell 2
      simp only [List.getElem?_toArray, List.getElem?_cons_zero, List.getElem?_cons_succ] at p0
      go_wp2_with fail
      refine (CM.out w2 (h'.below HK.out.low)).mono ?_
      rintro e w3 ⟨rfl, hB⟩
      have HK := Lib.hid (HK.out.below hB)
      clear hB p0 p1 p2
      have p2 : w3.cell? ⟨w.heap.size, 2, none⟩ = some (.slice A' fm.length c') := HK.out.b0.cell 2
      first
        | (go_wp2_with fail
           go_ret2
           exact ⟨by simp, HK.out.low⟩)
        | (go_wp2_with fail
           refine (P2.out w3 (h'.below HK.out.low) (HT.out.low HK.out.low (Nat.le_refl _))).mono ?_
           rintro e w4 ⟨rfl, hB⟩
           have HK := Lib.hid (HK.out.below hB)
           clear hB p2
           go_wp2_with fail
           go_ret2
           exact ⟨by simp, HK.out.low⟩)
end Go.Proofs.YtolbafckppafkaaGreatDoor
