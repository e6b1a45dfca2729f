/-
  PACKAGE ratio, SECOND PART: Small, Check.
-/
import Derived.Test.YtbjclfmplndkcaaGreatDoorRa
set_option linter.unusedVariables false
set_option linter.unusedSimpArgs false
set_option linter.unnecessarySimpa false
namespace Go.Proofs.YtbjclfmplndkcaaGreatDoor
open Go.RowKit Pl

theorem small_len {x : Nat} (h : x < 18446744073709551616) : (words x).length ≤ 2 := words_len.2 h
/-- what a callee told is told on: laid into the result's own block -/
theorem done_r {P : Program} {fn : Func} {fr : Act} (f : F) (er : Int) (B1 : Option Addr) (b1 : Nat) (B2 : Option Addr) (b2 : Nat) (w w3 : World) (g base : Nat) (hg : w.heap.size ≤ g) (hgb : g < base)
    {a b c : Value} (hk3 : Blk w3 g 24 #[a, b, c]) (hb3 : Below w.heap.size w w3) (hn : Ow w3 base B1 b1 f.num) (hd : Ow w3 base B2 b2 f.den)
    (H : ∀ w4 : World, w4.cell? ⟨g, 0, none⟩ = some (.bool f.neg) → w4.cell? ⟨g, 1, none⟩ = some (.slice B1 f.num.length b1) → w4.cell? ⟨g, 2, none⟩ = some (.slice B2 f.den.length b2) → ∀ Q : Ending → World → Prop,
      Q (.returned (.tuple #[.agg #[.bool f.neg, .slice B1 f.num.length b1, .slice B2 f.den.length b2], .int .i64 er])) w4 → bodyPost P fn Q .ret fr w4) :
    bodyPost P fn (fun e w' => ∃ v, e = .returned (.tuple #[v, .int .i64 er]) ∧ OwR w' w.heap.size v f ∧ Below w.heap.size w w') .ret fr (st3 w3 g (.bool f.neg) (.slice B1 f.num.length b1) (.slice B2 f.den.length b2)) := by
  have hk4 := st3_blk hk3 (.bool f.neg) (.slice B1 f.num.length b1) (.slice B2 f.den.length b2)
  have hb4 := st3_below hb3 hg (.bool f.neg) (.slice B1 f.num.length b1) (.slice B2 f.den.length b2)
  refine H _ (hk4.cell 0) (hk4.cell 1) (hk4.cell 2) _ ⟨_, rfl, ⟨B1, b1, B2, b2, rfl, (hn.st3 hgb _ _ _).mono (by omega), (hd.st3 hgb _ _ _).mono (by omega)⟩, hb4⟩

set_option maxHeartbeats 1000000 in
theorem Small_any (n d : Int) (w : World) (hn1 : -9223372036854775808 ≤ n) (hn2 : n ≤ 9223372036854775807) (hd1 : -9223372036854775808 ≤ d) (hd2 : d ≤ 9223372036854775807) (h0 : d ≠ 0) :
    Calls Tryz.prog 15 #[.int .i64 n, .int .i64 d] w fun e w' =>
      ∃ v, e = .returned (.tuple #[v, .int .i64 (tell (mkRat (sg (decide (n < 0) != decide (d < 0)) n.natAbs) d.natAbs)).2]) ∧ OwR w' w.heap.size v (tell (mkRat (sg (decide (n < 0) != decide (d < 0)) n.natAbs) d.natAbs)).1 ∧ Below w.heap.size w w' := by
  have hdz : words d.natAbs ≠ [] := by intro e; have := words_eq_nil.1 e; omega
  have l1 : (words n.natAbs).length ≤ 2 := small_len (by omega)
  have l2 : (words d.natAbs).length ≤ 2 := small_len (by omega)
  have n1 := words_norm n.natAbs
  have n2 := words_norm d.natAbs
  have L : ∀ (neg : Bool) (A A' : Option Addr) (c c' : Nat) (w : World) , _ → _ → _ → _ → _ := fun neg A A' c c' w h h' hc hc' => lowest_any neg A A' c c' (words n.natAbs) (words d.natAbs) w h h' n1 n2 (by omega) (by omega) hc hc' hdz
  rw [val_words, val_words] at L
  have HL := Lib.hid L
  have S1 := Lib.hid (fun W => size_any n W hn1 hn2)
  have S2 := Lib.hid (fun W => size_any d W hd1 hd2)
  clear L hdz n1 n2
  obtain ⟨X, hX⟩ : ∃ X, X = words n.natAbs := ⟨_, rfl⟩
  obtain ⟨Y, hY⟩ : ∃ Y, Y = words d.natAbs := ⟨_, rfl⟩
  obtain ⟨x, hx⟩ : ∃ x, x = n.natAbs := ⟨_, rfl⟩
  obtain ⟨y, hy⟩ : ∃ y, y = d.natAbs := ⟨_, rfl⟩
  rw [← hX] at HL S1 l1
  rw [← hY] at HL S2 l2
  rw [← hx, ← hy] at HL ⊢
  clear hX hY hx hy
  have hd0 : (d == 0) = false := beq_eq_false_iff_ne.2 h0
  go_enter Tryz.func15, Tryz.ntmps15
  go_wp2_with fail
  have hb0 : Below w.heap.size w (w.alloc (Obj.cells #[Value.bool false, Value.slice none 0 0, Value.slice none 0 0] 24)) := (Below.refl _ _).alloc (Nat.le_refl _) _
  have hk0 := Blk.new w 24 #[Value.bool false, Value.slice none 0 0, Value.slice none 0 0]
  obtain ⟨w0, hw0⟩ : ∃ w0, w0 = w.alloc (Obj.cells #[Value.bool false, Value.slice none 0 0, Value.slice none 0 0] 24) := ⟨_, rfl⟩
  rw [← hw0] at hb0 hk0 ⊢
  clear hw0
  refine (S1.out w0).mono ?_
  rintro e w1 ⟨B, b, rfl, hO, hB⟩
  have HO := Lib.hid hO
  have hk1 := hk0.below hB hk0.lt
  have hb1 := below_trans hb0 hB
  clear hO hB hk0 hb0
  go_wp2_with fail
  refine (S2.out w1).mono ?_
  rintro e w2 ⟨B2, b2, rfl, hO2, hB⟩
  have HO1 := Lib.hid (HO.out.below hB)
  have HO2 := Lib.hid hO2
  have hk2 := hk1.below hB hk1.lt
  have hb2 := below_trans hb1 hB
  clear hO2 hB hk1 hb1 HO
  go_wp2_with fail
  refine (HL.out _ B B2 b b2 w2 HO1.out.rd HO2.out.rd HO1.out.le HO2.out.le).mono ?_
  rintro e w3 ⟨v, rfl, ⟨C1, c1, C2, c2, hv, h1, h2⟩, hB⟩
  have hk3 := hk2.below hB hk2.lt
  have hb3 := below_trans hb2 hB
  have hgb := Lib.hid hk2.lt
  clear hB hk2 hb2
  have H1 := Lib.hid h1
  have H2 := Lib.hid h2
  clear h1 h2
  subst hv
  have hc0 : w3.cell? ⟨w.heap.size, 0, none⟩ = some (.bool false) := hk3.cell 0
  have hc1 : w3.cell? ⟨w.heap.size, 1, none⟩ = some (.slice none 0 0) := hk3.cell 1
  have hc2 : w3.cell? ⟨w.heap.size, 2, none⟩ = some (.slice none 0 0) := hk3.cell 2
  have hf := hk3.frozen
  go_wp2_with fail
  exact done_r _ _ C1 c1 C2 c2 w w3 w.heap.size w2.heap.size (Nat.le_refl _) hgb.out hk3 hb3 H1.out H2.out (by
    intro w4 ha0 ha1 ha2 Q hQ
    exact bodyPost_ret (by simp [results, Tryz.results15, go_sem, ha0, ha1, ha2]; rfl) rfl hQ)
end Go.Proofs.YtbjclfmplndkcaaGreatDoor
