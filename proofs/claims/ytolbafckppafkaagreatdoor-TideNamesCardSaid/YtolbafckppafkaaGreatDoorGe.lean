/-
  PACKAGE gauss: Parse; a complex fraction told in a cell.
-/
import Derived.Test.YtolbafckppafkaaGreatDoorGc
import Derived.Test.YtolbafckppafkaaGreatDoorYR
set_option linter.unusedVariables false
set_option linter.unusedSimpArgs false
set_option linter.unnecessarySimpa false
namespace Go.Proofs.YtolbafckppafkaaGreatDoor
open Go.RowKit Pl

def st6 (w : World) (g : Nat) (a b c d e f : Value) : World := (((((w.setCell ⟨g, 0, none⟩ a).setCell ⟨g, 1, none⟩ b).setCell ⟨g, 2, none⟩ c).setCell ⟨g, 3, none⟩ d).setCell ⟨g, 4, none⟩ e).setCell ⟨g, 5, none⟩ f
theorem st6_blk {w : World} {g : Nat} {t : TypeId} {a b c d e f : Value} (h : Blk w g t #[a, b, c, d, e, f]) (a' b' c' d' e' f' : Value) : Blk (st6 w g a' b' c' d' e' f') g t #[a', b', c', d', e', f'] :=
  (((((h.set_ 0 a').set_ 1 b').set_ 2 c').set_ 3 d').set_ 4 e').set_ 5 f'
theorem st6_only (w : World) (g : Nat) (a b c d e f : Value) : w.grownBy (st6 w g a b c d e f) (some g) :=
  only_setCell (only_setCell (only_setCell (only_setCell (only_setCell (only_setCell (only_refl w _) 0 a) 1 b) 2 c) 3 d) 4 e) 5 f
theorem below_only {w W W' : World} {g : Nat} (h : Below w.heap.size w W) (hg : W.grownBy W' (some g)) (hw : w.heap.size ≤ g) : Below w.heap.size w W' :=
  ⟨hg.os.trans h.os, hg.tape.trans h.tape, hg.output.trans h.output, Nat.le_trans h.size hg.size, fun k hk => (hg.block k (Nat.lt_of_lt_of_le hk h.size) (by simp; omega)).trans (h.block k hk)⟩

/-- a complex fraction and an error, in memory of its own -/
def ToldG (w : World) (f k : F) (er : Int) (e : Ending) (w' : World) : Prop := ∃ L M, e = .returned (.tuple #[valG f L k M, .int .i64 er]) ∧ OwL w' w.heap.size f L ∧ OwL w' w.heap.size k M ∧ Below w.heap.size w w'
theorem done_g {P : Program} {fn : Func} {fr : Act} (f k : F) (L M : Loc) (er : Int) (w w3 : World) (g : Nat) (hg : w.heap.size ≤ g)
    {x0 x1 x2 x3 x4 x5 : Value} (hk3 : Blk w3 g 29 #[x0, x1, x2, x3, x4, x5]) (hb3 : Below w.heap.size w w3) (o1 : OwL w3 w.heap.size f L) (o2 : OwL w3 w.heap.size k M)
    (H : ∀ w4 : World, w4.cell? ⟨g, 0, none⟩ = some (.bool f.neg) → w4.cell? ⟨g, 1, none⟩ = some (.slice L.A f.num.length L.c) → w4.cell? ⟨g, 2, none⟩ = some (.slice L.B f.den.length L.d) →
      w4.cell? ⟨g, 3, none⟩ = some (.bool k.neg) → w4.cell? ⟨g, 4, none⟩ = some (.slice M.A k.num.length M.c) → w4.cell? ⟨g, 5, none⟩ = some (.slice M.B k.den.length M.d) → ∀ Q : Ending → World → Prop,
      Q (.returned (.tuple #[.agg #[.bool f.neg, .slice L.A f.num.length L.c, .slice L.B f.den.length L.d, .bool k.neg, .slice M.A k.num.length M.c, .slice M.B k.den.length M.d], .int .i64 er])) w4 → bodyPost P fn Q .ret fr w4) :
    bodyPost P fn (ToldG w f k er) .ret fr (st6 w3 g (.bool f.neg) (.slice L.A f.num.length L.c) (.slice L.B f.den.length L.d) (.bool k.neg) (.slice M.A k.num.length M.c) (.slice M.B k.den.length M.d)) := by
  have hk4 := st6_blk hk3 (.bool f.neg) (.slice L.A f.num.length L.c) (.slice L.B f.den.length L.d) (.bool k.neg) (.slice M.A k.num.length M.c) (.slice M.B k.den.length M.d)
  have hG := st6_only w3 g (.bool f.neg) (.slice L.A f.num.length L.c) (.slice L.B f.den.length L.d) (.bool k.neg) (.slice M.A k.num.length M.c) (.slice M.B k.den.length M.d)
  exact H _ (hk4.cell 0) (hk4.cell 1) (hk4.cell 2) (hk4.cell 3) (hk4.cell 4) (hk4.cell 5) _ ⟨L, M, rfl, o1.turned hG hk3 (by decide), o2.turned hG hk3 (by decide), below_only hb3 hG hg⟩

theorem done_g0 {P : Program} {fn : Func} {fr : Act} (er : Int) (w w3 : World) (g : Nat) (hg : w.heap.size ≤ g)
    {x0 x1 x2 x3 x4 x5 : Value} (hk3 : Blk w3 g 29 #[x0, x1, x2, x3, x4, x5]) (hb3 : Below w.heap.size w w3)
    (H : ∀ w4 : World, w4.cell? ⟨g, 0, none⟩ = some (.bool false) → w4.cell? ⟨g, 1, none⟩ = some (.slice none 0 0) → w4.cell? ⟨g, 2, none⟩ = some (.slice none 0 0) →
      w4.cell? ⟨g, 3, none⟩ = some (.bool false) → w4.cell? ⟨g, 4, none⟩ = some (.slice none 0 0) → w4.cell? ⟨g, 5, none⟩ = some (.slice none 0 0) → ∀ Q : Ending → World → Prop,
      Q (.returned (.tuple #[.agg #[.bool false, .slice none 0 0, .slice none 0 0, .bool false, .slice none 0 0, .slice none 0 0], .int .i64 er])) w4 → bodyPost P fn Q .ret fr w4) :
    bodyPost P fn (ToldG w F.zero F.zero er) .ret fr (st6 w3 g (.bool false) (.slice none 0 0) (.slice none 0 0) (.bool false) (.slice none 0 0) (.slice none 0 0)) :=
  done_g F.zero F.zero Loc.nil Loc.nil er w w3 g hg hk3 hb3 (OwL.zero _ _) (OwL.zero _ _) H

/-- what is read of a text -/
def parseG (l : List UInt8) : F × F × Int :=
  if 65536 < l.length then (F.zero, F.zero, 3)
  else if (cutB l 32).2.2 = false then (F.zero, F.zero, 140)
  else if (parseR (cutB l 32).1).2 ≠ 0 ∧ (parseR (cutB l 32).1).2 ≠ 3 then (F.zero, F.zero, 140)
  else if (parseR (cutB l 32).2.1).2 ≠ 0 ∧ (parseR (cutB l 32).2.1).2 ≠ 3 then (F.zero, F.zero, 140)
  else if (parseR (cutB l 32).1).2 ≠ 0 then (F.zero, F.zero, 3)
  else if (parseR (cutB l 32).2.1).2 ≠ 0 then (F.zero, F.zero, 3)
  else ((parseR (cutB l 32).1).1, (parseR (cutB l 32).2.1).1, 0)

set_option maxHeartbeats 2000000 in
theorem gParse_any (l : List UInt8) (w : World) (hs : l.length ≤ 9223372036854775807) :
    Calls Tryz.prog 14 #[.string ⟨l.toArray⟩] w (ToldG w (parseG l).1 (parseG l).2.1 (parseG l).2.2) := by
  unfold parseG
  obtain ⟨w0, e0, hK0, hB0, hl0⟩ := kz w 29 #[.bool false, .slice none 0 0, .slice none 0 0, .bool false, .slice none 0 0, .slice none 0 0]
  by_cases h0 : 65536 < l.length
  · rw [if_pos h0]
    have hk := hK0.out.b0
    have hf := hk.frozen
    obtain ⟨p0, p1, p2, p3, p4, p5⟩ : w0.cell? ⟨w.heap.size, 0, none⟩ = some (.bool false) ∧ w0.cell? ⟨w.heap.size, 1, none⟩ = some (.slice none 0 0) ∧ w0.cell? ⟨w.heap.size, 2, none⟩ = some (.slice none 0 0) ∧ w0.cell? ⟨w.heap.size, 3, none⟩ = some (.bool false) ∧ w0.cell? ⟨w.heap.size, 4, none⟩ = some (.slice none 0 0) ∧ w0.cell? ⟨w.heap.size, 5, none⟩ = some (.slice none 0 0) := ⟨hk.cell 0, hk.cell 1, hk.cell 2, hk.cell 3, hk.cell 4, hk.cell 5⟩
    go_enter Tryz.func14, Tryz.ntmps14
    go_wp2_with fail
    rw [← e0]
    go_wp2_with fail
    exact bodyPost_ret (v := .tuple #[.agg #[.bool false, .slice none 0 0, .slice none 0 0, .bool false, .slice none 0 0, .slice none 0 0], .int .i64 3]) (by simp [results, Tryz.results14, go_sem, p0, p1, p2, p3, p4, p5]) rfl ⟨Loc.nil, Loc.nil, rfl, OwL.zero _ _, OwL.zero _ _, hB0.out⟩
  rw [if_neg h0]
  have hc := cutB_len l 32
  have C1 := Lib.hid (fun W => Cut_any l 32 W (by omega))
  have P1 := Lib.hid (fun W => Parse0_any (cutB l 32).1 W (by omega))
  have P2 := Lib.hid (fun W => Parse0_any (cutB l 32).2.1 W (by omega))
  clear hc hs
  generalize cutB l 32 = r at *
  obtain ⟨r1, r2, ok⟩ := r
  simp only at C1 P1 P2 ⊢
  generalize parseR r1 = p at *
  generalize parseR r2 = q at *
  obtain ⟨pf, x⟩ := p
  obtain ⟨qf, y⟩ := q
  simp only at P1 P2 ⊢
  obtain ⟨a0, a1, a2⟩ := pf
  obtain ⟨b0, b1, b2⟩ := qf
  obtain ⟨⟨rf, rk, re⟩, hr⟩ : ∃ r : F × F × Int, r = (if ok = false then (F.zero, F.zero, 140) else if x ≠ 0 ∧ x ≠ 3 then (F.zero, F.zero, 140) else if y ≠ 0 ∧ y ≠ 3 then (F.zero, F.zero, 140) else if x ≠ 0 then (F.zero, F.zero, 3) else if y ≠ 0 then (F.zero, F.zero, 3) else (⟨a0, a1, a2⟩, ⟨b0, b1, b2⟩, 0)) := ⟨_, rfl⟩
  rw [← hr]
  have HR := Lib.hid hr
  clear hr
  show Calls _ _ _ _ (ToldG w rf rk re)
  have hK1 : Hid (Kg w [(w.heap.size, 29, #[.bool false, .slice none 0 0, .slice none 0 0, .bool false, .slice none 0 0, .slice none 0 0])] [] w0) := Lib.hid (by rw [e0]; exact (Kg.start w).alloc _ _)
  have h0' : ¬ (65536 : Int) < (l.length : Int) := by omega
  go_enter Tryz.func14, Tryz.ntmps14
  go_wp2_with fail
  rw [← e0]
  clear e0 hK0 hB0 hl0
  refine (C1.out w0).mono ?_
  rintro e w1 ⟨rfl, hB⟩
  have HK := Lib.hid (hK1.out.below hB)
  clear hK1 hB
  go_wp2_with fail
  refine (P1.out w1).mono ?_
  rintro e w2 ⟨v1, rfl, hv1, hB⟩
  obtain ⟨L1, rfl, hO1⟩ := OwL.of hv1
  have HK := Lib.hid (((HK.out.below hB).add hO1 HK.out.size).alloc 27 #[.bool a0, .slice L1.A a1.length L1.c, .slice L1.B a2.length L1.d])
  clear hB hO1 hv1
  go_wp2_with fail
  refine (P2.out _).mono ?_
  rintro e w3 ⟨v2, rfl, hv2, hB⟩
  obtain ⟨L2, rfl, hO2⟩ := OwL.of hv2
  have HK := Lib.hid (((HK.out.below hB).add hO2 HK.out.size).alloc 27 #[.bool b0, .slice L2.A b1.length L2.c, .slice L2.B b2.length L2.d])
  clear hB hO2 hv2
  have hk := HK.out.blk _ (List.mem_append_left _ (List.mem_append_left _ (List.mem_singleton_self _)))
  obtain ⟨p0, p1, p2, p3, p4, p5⟩ := Blk.six hk
  have hf := Blk.frozen hk
  have o1 := HK.out.own ((⟨a0, a1, a2⟩ : F), L1) (by simp)
  have o2 := HK.out.own ((⟨b0, b1, b2⟩ : F), L2) (by simp)
  have O1 := Lib.hid o1
  have O2 := Lib.hid o2
  have HL := Lib.hid HK.out.low
  have HB := Lib.hid hk
  have hk1 := HK.out.blk (w2.heap.size, 27, #[.bool a0, .slice L1.A a1.length L1.c, .slice L1.B a2.length L1.d]) (by simp)
  have hk2 := HK.out.blk (w3.heap.size, 27, #[.bool b0, .slice L2.A b1.length L2.c, .slice L2.B b2.length L2.d]) (by simp)
  have B1 := Lib.hid (And.intro (hk1.cell 0) (And.intro (hk1.cell 1) (hk1.cell 2)))
  have B2 := Lib.hid (And.intro (hk2.cell 0) (And.intro (hk2.cell 1) (hk2.cell 2)))
  clear o1 o2 hk C1 P1 P2 hk1 hk2
  cases ok
  · have hR := HR.out
    rw [if_pos rfl] at hR
    injection hR with g1 g2
    injection g2 with g2 g3
    subst g1 g2 g3
    clear HR
    go_wp2_with fail
    exact done_g0 140 w _ w.heap.size (Nat.le_refl _) HB.out HL.out (by
      intro w5 ha0 ha1 ha2 ha3 ha4 ha5 Q hQ
      exact bodyPost_ret (by simp [results, Tryz.results14, go_sem, ha0, ha1, ha2, ha3, ha4, ha5]) rfl hQ)
  have HR := Lib.hid (HR.out.trans (if_neg (by decide)))
  by_cases hx : x ≠ 0 ∧ x ≠ 3
  · have hR := HR.out
    rw [if_pos hx] at hR
    obtain ⟨hx1, hx2⟩ := hx
    have d1 : (x != 0) = true := bne_iff_ne.2 hx1
    have d2 : (x != 3) = true := bne_iff_ne.2 hx2
    injection hR with g1 g2
    injection g2 with g2 g3
    subst g1 g2 g3
    clear HR
    go_wp2_with fail
    exact done_g0 140 w _ w.heap.size (Nat.le_refl _) HB.out HL.out (by
      intro w5 ha0 ha1 ha2 ha3 ha4 ha5 Q hQ
      exact bodyPost_ret (by simp [results, Tryz.results14, go_sem, ha0, ha1, ha2, ha3, ha4, ha5]) rfl hQ)
  have HR := Lib.hid (HR.out.trans (if_neg hx))
  by_cases hy : y ≠ 0 ∧ y ≠ 3
  · have hx' : x = 0 ∨ x = 3 := by omega
    have d1 : (y != 0) = true := bne_iff_ne.2 hy.1
    have d2 : (y != 3) = true := bne_iff_ne.2 hy.2
    rcases hx' with rfl | rfl
    all_goals
      have hR := HR.out
      rw [if_pos hy] at hR
      clear hx hy
      injection hR with g1 g2
      injection g2 with g2 g3
      subst g1 g2 g3
      clear HR
      go_wp2_with fail
      exact done_g0 140 w _ w.heap.size (Nat.le_refl _) HB.out HL.out (by
        intro w5 ha0 ha1 ha2 ha3 ha4 ha5 Q hQ
        exact bodyPost_ret (by simp [results, Tryz.results14, go_sem, ha0, ha1, ha2, ha3, ha4, ha5]) rfl hQ)
  have HR := Lib.hid (HR.out.trans (if_neg hy))
  have hx' : x = 0 ∨ x = 3 := by omega
  have hy' : y = 0 ∨ y = 3 := by omega
  clear hx hy
  rcases hx' with rfl | rfl
  · rcases hy' with rfl | rfl
    · have hR := HR.out
      rw [if_neg (by decide)] at hR
      rw [if_neg (by decide)] at hR
      injection hR with g1 g2
      injection g2 with g2 g3
      subst g1 g2 g3
      clear HR
      obtain ⟨y0, y1, y2⟩ := B1.out
      obtain ⟨z0, z1, z2⟩ := B2.out
      simp only [List.getElem?_toArray, List.getElem?_cons_zero, List.getElem?_cons_succ] at y0 y1 y2 z0 z1 z2
      go_wp2_with fail
      exact done_g ⟨a0, a1, a2⟩ ⟨b0, b1, b2⟩ L1 L2 0 w _ w.heap.size (Nat.le_refl _) HB.out HL.out O1.out O2.out (by
        intro w5 ha0 ha1 ha2 ha3 ha4 ha5 Q hQ
        exact bodyPost_ret (by simp [results, Tryz.results14, go_sem, ha0, ha1, ha2, ha3, ha4, ha5]) rfl hQ)
    · have hR := HR.out
      rw [if_neg (by decide)] at hR
      rw [if_pos (by decide)] at hR
      injection hR with g1 g2
      injection g2 with g2 g3
      subst g1 g2 g3
      clear HR
      go_wp2_with fail
      exact done_g0 3 w _ w.heap.size (Nat.le_refl _) HB.out HL.out (by
        intro w5 ha0 ha1 ha2 ha3 ha4 ha5 Q hQ
        exact bodyPost_ret (by simp [results, Tryz.results14, go_sem, ha0, ha1, ha2, ha3, ha4, ha5]) rfl hQ)
  · rcases hy' with rfl | rfl
    all_goals
      have hR := HR.out
      rw [if_pos (by decide)] at hR
      injection hR with g1 g2
      injection g2 with g2 g3
      subst g1 g2 g3
      clear HR
      go_wp2_with fail
      exact done_g0 3 w _ w.heap.size (Nat.le_refl _) HB.out HL.out (by
        intro w5 ha0 ha1 ha2 ha3 ha4 ha5 Q hQ
        exact bodyPost_ret (by simp [results, Tryz.results14, go_sem, ha0, ha1, ha2, ha3, ha4, ha5]) rfl hQ)
end Go.Proofs.YtolbafckppafkaaGreatDoor
