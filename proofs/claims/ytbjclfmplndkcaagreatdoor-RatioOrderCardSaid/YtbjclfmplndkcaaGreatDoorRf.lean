/-
  PACKAGE ratio, FIFTH PART: Compare.
-/
import Derived.Test.YtbjclfmplndkcaaGreatDoorRe
import Derived.Deep.RegionHeld3
import Derived.Deep.DeepCutAuto
set_option linter.unusedVariables false
set_option linter.unusedSimpArgs false
set_option linter.unnecessarySimpa false
namespace Go.Proofs.YtbjclfmplndkcaaGreatDoor
open Go.RowKit Pl

/-- a call's own world with two fractions boxed -/
structure Two (w : World) (a b c d e f : Value) (W : World) : Prop where
  low : Below w.heap.size w W
  one : Blk W w.heap.size 24 #[a, b, c]
  two : Blk W (w.heap.size + 1) 24 #[d, e, f]
theorem Two.drewN {w : World} {a b c d e f : Value} {W : World} (h : Two w a b c d e f W) (n : Nat) : Two w a b c d e f (W.drewN n) := ⟨below_drewN h.low n, h.one, h.two⟩
theorem Two.drew {w : World} {a b c d e f : Value} {W : World} (h : Two w a b c d e f W) : Two w a b c d e f W.drew := ⟨h.low.drew, h.one, h.two⟩
theorem Two.below {w : World} {a b c d e f : Value} {W W' : World} (h : Two w a b c d e f W) (hb : Below W.heap.size W W') : Two w a b c d e f W' :=
  ⟨below_trans h.low hb, h.one.below hb h.one.lt, h.two.below hb h.two.lt⟩
theorem Two.cells {w : World} {a b c d e f : Value} {W : World} (h : Two w a b c d e f W) :
    (W.cell? ⟨w.heap.size, 0, none⟩ = some a ∧ W.cell? ⟨w.heap.size, 1, none⟩ = some b ∧ W.cell? ⟨w.heap.size, 2, none⟩ = some c) ∧
    (W.cell? ⟨w.heap.size + 1, 0, none⟩ = some d ∧ W.cell? ⟨w.heap.size + 1, 1, none⟩ = some e ∧ W.cell? ⟨w.heap.size + 1, 2, none⟩ = some f) :=
  ⟨⟨h.one.cell 0, h.one.cell 1, h.one.cell 2⟩, h.two.cell 0, h.two.cell 1, h.two.cell 2⟩
theorem Two.all {w : World} {a b c d e f : Value} {W : World} (h : Two w a b c d e f W) : Two w a b c d e f W ∧ W.cell? ⟨w.heap.size, 0, none⟩ = some a ∧ W.cell? ⟨w.heap.size, 1, none⟩ = some b ∧ W.cell? ⟨w.heap.size, 2, none⟩ = some c ∧
    W.cell? ⟨w.heap.size + 1, 0, none⟩ = some d ∧ W.cell? ⟨w.heap.size + 1, 1, none⟩ = some e ∧ W.cell? ⟨w.heap.size + 1, 2, none⟩ = some f :=
  ⟨h, h.one.cell 0, h.one.cell 1, h.one.cell 2, h.two.cell 0, h.two.cell 1, h.two.cell 2⟩
/-- two products in fresh memory -/
def Prods (base : Nat) (X Y : List Int) (s7 s8 : Value) (wx : World) : Prop :=
  ∃ B1 b1 B2 b2, s7 = .slice B1 X.length b1 ∧ s8 = .slice B2 Y.length b2 ∧ Ow wx base B1 b1 X ∧ Ow wx base B2 b2 Y

set_option maxHeartbeats 1000000 in
theorem rCompare_no (f k : F) (A A' : Option Addr) (c c' : Nat) (C C' : Option Addr) (d d' : Nat) (w : World) (h : Rd w A f.num) (h' : Rd w A' f.den) (hc : f.num.length ≤ c) (hc' : f.den.length ≤ c')
    (k1 : Rd w C k.num) (k2 : Rd w C' k.den) (hd : k.num.length ≤ d) (hd' : k.den.length ≤ d') (hx : (if chk f = 0 then chk k else chk f) ≠ 0) :
    Calls Tryz.prog 6 #[.agg #[.bool f.neg, .slice A f.num.length c, .slice A' f.den.length c'], .agg #[.bool k.neg, .slice C k.num.length d, .slice C' k.den.length d']] w fun e w' =>
      e = .returned (.tuple #[.int .i64 0, .int .i64 (if chk f = 0 then chk k else chk f)]) ∧ Below w.heap.size w w' := by
  have C1 := Lib.hid (fun W r1 r2 r3 r4 => checks_any f k A A' c c' C C' d d' W r1 r2 hc hc' r3 r4 hd hd')
  generalize (if chk f = 0 then chk k else chk f) = x at *
  have hx' : (x != 0) = true := bne_iff_ne.2 hx
  obtain ⟨w0, e0, hb0, hA, hB⟩ := boxed2 w 24 (.bool f.neg) (.slice A f.num.length c) (.slice A' f.den.length c') (.bool k.neg) (.slice C k.num.length d) (.slice C' k.den.length d')
  go_enter Tryz.func6, Tryz.ntmps6
  go_wp2_with fail
  rw [← e0]
  clear e0
  refine (C1.out w0 (h.below hb0) (h'.below hb0) (k1.below hb0) (k2.below hb0)).mono ?_
  rintro e w1 ⟨rfl, hB1⟩
  have HB := Lib.hid (below_trans hb0 hB1)
  clear hB1 hb0
  go_wp2
  go_ret2
  exact ⟨rfl, HB.out⟩

set_option maxHeartbeats 2000000 in
theorem rCompare_yes (f k : F) (A A' : Option Addr) (c c' : Nat) (C C' : Option Addr) (d d' : Nat) (w : World) (h : Rd w A f.num) (h' : Rd w A' f.den) (hc : f.num.length ≤ c) (hc' : f.den.length ≤ c')
    (k1 : Rd w C k.num) (k2 : Rd w C' k.den) (hd : k.num.length ≤ d) (hd' : k.den.length ≤ d') (hf : f.ok) (hk : k.ok) :
    Calls Tryz.prog 6 #[.agg #[.bool f.neg, .slice A f.num.length c, .slice A' f.den.length c'], .agg #[.bool k.neg, .slice C k.num.length d, .slice C' k.den.length d']] w fun e w' =>
      e = .returned (.tuple #[.int .i64 (cmpF f k), .int .i64 0]) ∧ Below w.heap.size w w' := by
  have z : (if chk f = 0 then chk k else chk f) = 0 := by
    rw [if_pos ((chk_ok h.inr h'.inr).2 hf)]; exact (chk_ok k1.inr k2.inr).2 hk
  have C1 := checks_any f k A A' c c' C C' d d'
  rw [z] at C1
  have HC1 := Lib.hid (fun W r1 r2 r3 r4 => C1 W r1 r2 hc hc' r3 r4 hd hd')
  have T1 := Lib.hid (fun (W : World) (hb : Below w.heap.size w W) => times_any A C' c d' f.num k.den W (h.below hb) (k2.below hb) hf.1 hk.2.1 (by have := hf.2.2.1; have := hk.2.2.2.1; omega))
  have T2 := Lib.hid (fun (W : World) (hb : Below w.heap.size w W) => times_any C A' d c' k.num f.den W (k1.below hb) (h'.below hb) hk.1 hf.2.1 (by have := hk.2.2.1; have := hf.2.2.2.1; omega))
  have V1 := Lib.hid (val_words (val f.num * val k.den))
  have V2 := Lib.hid (val_words (val k.num * val f.den))
  unfold cmpF
  clear C1 z hf hk
  obtain ⟨fn, fl, fm⟩ := f
  obtain ⟨kn, kl, km⟩ := k
  simp only at *
  generalize val fl * val km = x at *
  generalize val kl * val fm = y at *
  obtain ⟨X, hX⟩ : ∃ X, X = words x := ⟨_, rfl⟩
  obtain ⟨Y, hY⟩ : ∃ Y, Y = words y := ⟨_, rfl⟩
  rw [← hX] at T1 V1
  rw [← hY] at T2 V2
  clear hX hY
  obtain ⟨w0, e0, hb0, hA, hB⟩ := boxed2 w 24 (.bool fn) (.slice A fl.length c) (.slice A' fm.length c') (.bool kn) (.slice C kl.length d) (.slice C' km.length d')
  go_enter Tryz.func6, Tryz.ntmps6
  go_wp2_with fail
  rw [← e0]
  clear e0
  refine (HC1.out w0 (h.below hb0) (h'.below hb0) (k1.below hb0) (k2.below hb0)).mono ?_
  rintro e w1 ⟨rfl, hB1⟩
  have hA1 := hA.below hB1 hA.lt
  have hB' := hB.below hB1 hB.lt
  have hb1 := below_trans hb0 hB1
  clear hB1 hb0 hA hB h h' k1 k2
  have p0 : w1.cell? ⟨w.heap.size, 0, none⟩ = some (.bool fn) := hA1.cell 0
  have p1 : w1.cell? ⟨w.heap.size, 1, none⟩ = some (.slice A fl.length c) := hA1.cell 1
  have p2 : w1.cell? ⟨w.heap.size, 2, none⟩ = some (.slice A' fm.length c') := hA1.cell 2
  have q0 : w1.cell? ⟨w.heap.size + 1, 0, none⟩ = some (.bool kn) := hB'.cell 0
  have q1 : w1.cell? ⟨w.heap.size + 1, 1, none⟩ = some (.slice C kl.length d) := hB'.cell 1
  have q2 : w1.cell? ⟨w.heap.size + 1, 2, none⟩ = some (.slice C' km.length d') := hB'.cell 2
  have HT : Hid (Two w (.bool fn) (.slice A fl.length c) (.slice A' fm.length c') (.bool kn) (.slice C kl.length d) (.slice C' km.length d') w1) := Lib.hid ⟨hb1, hA1, hB'⟩
  have s1 : ∀ W, Two w (.bool fn) (.slice A fl.length c) (.slice A' fm.length c') (.bool kn) (.slice C kl.length d) (.slice C' km.length d') W → Calls Tryz.prog 21 #[.slice A fl.length c, .slice C' km.length d'] W fun e w' =>
      ∃ B d1, e = .returned (.slice B X.length d1) ∧ Ow w' W.heap.size B d1 X ∧ Below W.heap.size W w' ∧ Two w (.bool fn) (.slice A fl.length c) (.slice A' fm.length c') (.bool kn) (.slice C kl.length d) (.slice C' km.length d') w' := fun W hT => by
    refine (T1.out W hT.low).mono ?_
    rintro e w' ⟨B, b, rfl, hO, hB⟩
    exact ⟨B, b, rfl, hO, hB, hT.below hB⟩
  have s2 : ∀ W, Two w (.bool fn) (.slice A fl.length c) (.slice A' fm.length c') (.bool kn) (.slice C kl.length d) (.slice C' km.length d') W → Calls Tryz.prog 21 #[.slice C kl.length d, .slice A' fm.length c'] W fun e w' =>
      ∃ B d1, e = .returned (.slice B Y.length d1) ∧ Ow w' W.heap.size B d1 Y ∧ Below W.heap.size W w' ∧ Two w (.bool fn) (.slice A fl.length c) (.slice A' fm.length c') (.bool kn) (.slice C kl.length d) (.slice C' km.length d') w' := fun W hT => by
    refine (T2.out W hT.low).mono ?_
    rintro e w' ⟨B, b, rfl, hO, hB⟩
    exact ⟨B, b, rfl, hO, hB, hT.below hB⟩
  have S1 := Lib.hid s1
  have S2 := Lib.hid s2
  clear hA1 hB' hb1 s1 s2 T1 T2
  go_upto_region 4 with fail
  go_cut [7, 8] (fun s7 s8 wx => Prods w.heap.size X Y s7 s8 wx ∧ Two w (.bool fn) (.slice A fl.length c) (.slice A' fm.length c') (.bool kn) (.slice C kl.length d) (.slice C' km.length d') wx)
  case first =>
    go_region_held3 (fun W => Two w (.bool fn) (.slice A fl.length c) (.slice A' fm.length c') (.bool kn) (.slice C kl.length d) (.slice C' km.length d') W ∧ W.cell? ⟨w.heap.size, 0, none⟩ = some (.bool fn) ∧ W.cell? ⟨w.heap.size, 1, none⟩ = some (.slice A fl.length c) ∧ W.cell? ⟨w.heap.size, 2, none⟩ = some (.slice A' fm.length c') ∧ W.cell? ⟨w.heap.size + 1, 0, none⟩ = some (.bool kn) ∧ W.cell? ⟨w.heap.size + 1, 1, none⟩ = some (.slice C kl.length d) ∧ W.cell? ⟨w.heap.size + 1, 2, none⟩ = some (.slice C' km.length d')) (first | exact HT.out.all | exact HT.out.drew.all) (first | (go_at_call 21; (with_reducible refine (S1.out _ ?_).mono ?_); (first | exact HT.out | exact HT.out.drew | exact HT.out.drewN _); rintro e w2 ⟨B1, b1, rfl, hO1, hB1, hT2⟩; have HO1 := Lib.hid (hO1.mono HT.out.low.size); have HB1 := Lib.hid hB1; have HT := Lib.hid hT2; clear hO1 hB1 hT2) | (go_at_call 21; (with_reducible refine (S2.out _ ?_).mono ?_); (first | exact HT.out | exact HT.out.drew | exact HT.out.drewN _); rintro e w3 ⟨B2, b2, rfl, hO2, hB2, hT2⟩; have HO2 := Lib.hid (hO2.mono HT.out.low.size); have HB2 := Lib.hid hB2; have HT := Lib.hid hT2; clear hO2 hB2 hT2))
    all_goals (go_wp2_with fail; go_meet; exact ⟨⟨B1, b1, B2, b2, rfl, rfl, (by first | exact HO1.out | exact HO1.out.below HB2.out), (by first | exact HO2.out | exact HO2.out.below HB1.out)⟩, HT.out⟩)
  case rest =>
    obtain ⟨⟨B1, b1, B2, b2, rfl, rfl, hO1, hO2⟩, hT⟩ := hcut
    have HO1 := Lib.hid hO1
    have HO2 := Lib.hid hO2
    have HT := Lib.hid hT
    clear hO1 hO2 HC1 S1 S2
    obtain ⟨⟨p0, p1, p2⟩, q0, q1, q2⟩ := hT.cells
    clear hT
    cases fn <;> cases kn
    · go_wp2_with fail
      refine (Compare_any B1 B2 b1 b2 X Y _ HO1.out.rd HO1.out.le HO2.out.rd HO2.out.le).mono ?_
      rw [V1.out, V2.out]
      rintro e w2 ⟨rfl, n, rfl⟩
      go_wp2
      go_ret2
      exact ⟨rfl, below_drewN HT.out.low n⟩
    · go_wp2
      go_ret2
      exact ⟨rfl, HT.out.low⟩
    · go_wp2
      go_ret2
      exact ⟨rfl, HT.out.low⟩
    · go_wp2_with fail
      refine (Compare_any B2 B1 b2 b1 Y X _ HO2.out.rd HO2.out.le HO1.out.rd HO1.out.le).mono ?_
      rw [V1.out, V2.out]
      rintro e w2 ⟨rfl, n, rfl⟩
      go_wp2
      go_ret2
      exact ⟨rfl, below_drewN HT.out.low n⟩
end Go.Proofs.YtbjclfmplndkcaaGreatDoor
