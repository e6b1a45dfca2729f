/-
  PACKAGE tide: Parse; a constituent told in a cell.
-/
import Derived.Test.YtolbafckppafkaaGreatDoorTc
import Derived.Test.YtolbafckppafkaaGreatDoorTd
import Derived.Test.YtolbafckppafkaaGreatDoorGe
set_option linter.unusedVariables false
set_option linter.unusedSimpArgs false
set_option linter.unnecessarySimpa false
namespace Go.Proofs.YtolbafckppafkaaGreatDoor
open Go.RowKit Pl

def st9 (w : World) (g : Nat) (a b c d e f x y z : Value) : World := ((((((((w.setCell ⟨g, 0, none⟩ a).setCell ⟨g, 1, none⟩ b).setCell ⟨g, 2, none⟩ c).setCell ⟨g, 3, none⟩ d).setCell ⟨g, 4, none⟩ e).setCell ⟨g, 5, none⟩ f).setCell ⟨g, 6, none⟩ x).setCell ⟨g, 7, none⟩ y).setCell ⟨g, 8, none⟩ z
theorem st9_blk {w : World} {g : Nat} {t : TypeId} {a b c d e f x y z : Value} (h : Blk w g t #[a, b, c, d, e, f, x, y, z]) (a' b' c' d' e' f' x' y' z' : Value) : Blk (st9 w g a' b' c' d' e' f' x' y' z') g t #[a', b', c', d', e', f', x', y', z'] := by
  have h0 : Blk (w.setCell ⟨g, 0, none⟩ a') g t #[a', b, c, d, e, f, x, y, z] := h.set_ 0 a'
  have h1 : Blk ((w.setCell ⟨g, 0, none⟩ a').setCell ⟨g, 1, none⟩ b') g t #[a', b', c, d, e, f, x, y, z] := h0.set_ 1 b'
  have h2 : Blk (((w.setCell ⟨g, 0, none⟩ a').setCell ⟨g, 1, none⟩ b').setCell ⟨g, 2, none⟩ c') g t #[a', b', c', d, e, f, x, y, z] := h1.set_ 2 c'
  have h3 : Blk ((((w.setCell ⟨g, 0, none⟩ a').setCell ⟨g, 1, none⟩ b').setCell ⟨g, 2, none⟩ c').setCell ⟨g, 3, none⟩ d') g t #[a', b', c', d', e, f, x, y, z] := h2.set_ 3 d'
  have h4 : Blk (((((w.setCell ⟨g, 0, none⟩ a').setCell ⟨g, 1, none⟩ b').setCell ⟨g, 2, none⟩ c').setCell ⟨g, 3, none⟩ d').setCell ⟨g, 4, none⟩ e') g t #[a', b', c', d', e', f, x, y, z] := h3.set_ 4 e'
  have h5 : Blk ((((((w.setCell ⟨g, 0, none⟩ a').setCell ⟨g, 1, none⟩ b').setCell ⟨g, 2, none⟩ c').setCell ⟨g, 3, none⟩ d').setCell ⟨g, 4, none⟩ e').setCell ⟨g, 5, none⟩ f') g t #[a', b', c', d', e', f', x, y, z] := h4.set_ 5 f'
  have h6 : Blk (((((((w.setCell ⟨g, 0, none⟩ a').setCell ⟨g, 1, none⟩ b').setCell ⟨g, 2, none⟩ c').setCell ⟨g, 3, none⟩ d').setCell ⟨g, 4, none⟩ e').setCell ⟨g, 5, none⟩ f').setCell ⟨g, 6, none⟩ x') g t #[a', b', c', d', e', f', x', y, z] := h5.set_ 6 x'
  have h7 : Blk ((((((((w.setCell ⟨g, 0, none⟩ a').setCell ⟨g, 1, none⟩ b').setCell ⟨g, 2, none⟩ c').setCell ⟨g, 3, none⟩ d').setCell ⟨g, 4, none⟩ e').setCell ⟨g, 5, none⟩ f').setCell ⟨g, 6, none⟩ x').setCell ⟨g, 7, none⟩ y') g t #[a', b', c', d', e', f', x', y', z] := h6.set_ 7 y'
  have h8 : Blk (((((((((w.setCell ⟨g, 0, none⟩ a').setCell ⟨g, 1, none⟩ b').setCell ⟨g, 2, none⟩ c').setCell ⟨g, 3, none⟩ d').setCell ⟨g, 4, none⟩ e').setCell ⟨g, 5, none⟩ f').setCell ⟨g, 6, none⟩ x').setCell ⟨g, 7, none⟩ y').setCell ⟨g, 8, none⟩ z') g t #[a', b', c', d', e', f', x', y', z'] := h7.set_ 8 z'
  exact h8
theorem st9_only (w : World) (g : Nat) (a b c d e f x y z : Value) : w.grownBy (st9 w g a b c d e f x y z) (some g) :=
  only_setCell (only_setCell (only_setCell (only_setCell (only_setCell (only_setCell (only_setCell (only_setCell (only_setCell (only_refl w _) 0 a) 1 b) 2 c) 3 d) 4 e) 5 f) 6 x) 7 y) 8 z

def Td.zero : Td := ⟨[], 0, 0, F.zero, F.zero⟩
/-- a constituent and an error, in memory of its own -/
def ToldT (w : World) (t : Td) (er : Int) (e : Ending) (w' : World) : Prop := ∃ L M, e = .returned (.tuple #[valT t L M, .int .i64 er]) ∧ OwL w' w.heap.size t.re L ∧ OwL w' w.heap.size t.im M ∧ Below w.heap.size w w'
theorem done_t {P : Program} {fn : Func} {fr : Act} (nm : List UInt8) (i j : Int) (f k : F) (L M : Loc) (er : Int) (w w3 : World) (g : Nat) (hg : w.heap.size ≤ g)
    {x0 x1 x2 x3 x4 x5 x6 x7 x8 : Value} (hk3 : Blk w3 g 31 #[x0, x1, x2, x3, x4, x5, x6, x7, x8]) (hb3 : Below w.heap.size w w3) (o1 : OwL w3 w.heap.size f L) (o2 : OwL w3 w.heap.size k M)
    (H : ∀ w4 : World, w4.cell? ⟨g, 0, none⟩ = some (.string ⟨nm.toArray⟩) → w4.cell? ⟨g, 1, none⟩ = some (.int .i32 i) → w4.cell? ⟨g, 2, none⟩ = some (.int .i32 j) → w4.cell? ⟨g, 3, none⟩ = some (.bool f.neg) → w4.cell? ⟨g, 4, none⟩ = some (.slice L.A f.num.length L.c) → w4.cell? ⟨g, 5, none⟩ = some (.slice L.B f.den.length L.d) →
      w4.cell? ⟨g, 6, none⟩ = some (.bool k.neg) → w4.cell? ⟨g, 7, none⟩ = some (.slice M.A k.num.length M.c) → w4.cell? ⟨g, 8, none⟩ = some (.slice M.B k.den.length M.d) → ∀ Q : Ending → World → Prop,
      Q (.returned (.tuple #[.agg #[.string ⟨nm.toArray⟩, .int .i32 i, .int .i32 j, .bool f.neg, .slice L.A f.num.length L.c, .slice L.B f.den.length L.d, .bool k.neg, .slice M.A k.num.length M.c, .slice M.B k.den.length M.d], .int .i64 er])) w4 → bodyPost P fn Q .ret fr w4) :
    bodyPost P fn (ToldT w ⟨nm, i, j, f, k⟩ er) .ret fr (st9 w3 g (.string ⟨nm.toArray⟩) (.int .i32 i) (.int .i32 j) (.bool f.neg) (.slice L.A f.num.length L.c) (.slice L.B f.den.length L.d) (.bool k.neg) (.slice M.A k.num.length M.c) (.slice M.B k.den.length M.d)) := by
  have hk4 := st9_blk hk3 (.string ⟨nm.toArray⟩) (.int .i32 i) (.int .i32 j) (.bool f.neg) (.slice L.A f.num.length L.c) (.slice L.B f.den.length L.d) (.bool k.neg) (.slice M.A k.num.length M.c) (.slice M.B k.den.length M.d)
  have hG := st9_only w3 g (.string ⟨nm.toArray⟩) (.int .i32 i) (.int .i32 j) (.bool f.neg) (.slice L.A f.num.length L.c) (.slice L.B f.den.length L.d) (.bool k.neg) (.slice M.A k.num.length M.c) (.slice M.B k.den.length M.d)
  exact H _ (hk4.cell 0) (hk4.cell 1) (hk4.cell 2) (hk4.cell 3) (hk4.cell 4) (hk4.cell 5) (hk4.cell 6) (hk4.cell 7) (hk4.cell 8) _ ⟨L, M, rfl, o1.turned hG hk3 (by decide), o2.turned hG hk3 (by decide), below_only hb3 hG hg⟩
theorem done_t0 {P : Program} {fn : Func} {fr : Act} (er : Int) (w w3 : World) (g : Nat) (hg : w.heap.size ≤ g)
    {x0 x1 x2 x3 x4 x5 x6 x7 x8 : Value} (hk3 : Blk w3 g 31 #[x0, x1, x2, x3, x4, x5, x6, x7, x8]) (hb3 : Below w.heap.size w w3)
    (H : ∀ w4 : World, w4.cell? ⟨g, 0, none⟩ = some (.string ⟨#[]⟩) → w4.cell? ⟨g, 1, none⟩ = some (.int .i32 0) → w4.cell? ⟨g, 2, none⟩ = some (.int .i32 0) → w4.cell? ⟨g, 3, none⟩ = some (.bool false) → w4.cell? ⟨g, 4, none⟩ = some (.slice none 0 0) → w4.cell? ⟨g, 5, none⟩ = some (.slice none 0 0) →
      w4.cell? ⟨g, 6, none⟩ = some (.bool false) → w4.cell? ⟨g, 7, none⟩ = some (.slice none 0 0) → w4.cell? ⟨g, 8, none⟩ = some (.slice none 0 0) → ∀ Q : Ending → World → Prop,
      Q (.returned (.tuple #[.agg #[.string ⟨#[]⟩, .int .i32 0, .int .i32 0, .bool false, .slice none 0 0, .slice none 0 0, .bool false, .slice none 0 0, .slice none 0 0], .int .i64 er])) w4 → bodyPost P fn Q .ret fr w4) :
    bodyPost P fn (ToldT w Td.zero er) .ret fr (st9 w3 g (.string ⟨#[]⟩) (.int .i32 0) (.int .i32 0) (.bool false) (.slice none 0 0) (.slice none 0 0) (.bool false) (.slice none 0 0) (.slice none 0 0)) :=
  done_t [] 0 0 F.zero F.zero Loc.nil Loc.nil er w w3 g hg hk3 hb3 (OwL.zero _ _) (OwL.zero _ _) H

/-- what is read of a text -/
def tell9 (a : List UInt8) (okc nm i1 i2 : Bool) (n1 n2 : Int) (rot : Bool) (f k : F) (y : Int) : Td × Int :=
  if okc = false then (Td.zero, 230) else if nm = false then (Td.zero, 230) else if i1 = false then (Td.zero, 230) else if i2 = false then (Td.zero, 230) else if y = 140 then (Td.zero, 230)
  else if rot = false then (Td.zero, 150) else if y ≠ 0 then (Td.zero, y) else (⟨a, n1, n2, f, k⟩, 0)
def parseT (l : List UInt8) : Td × Int :=
  if 65536 < l.length then (Td.zero, 3) else
  let a := cutB l 32; let b := cutB a.2.1 32; let c := cutB b.2.1 32; let g := parseG c.2.1
  tell9 a.1 c.2.2 (okName a.1) (isNum b.1) (isNum c.1) (numOf b.1) (numOf c.1) (okRotor (numOf b.1) (numOf c.1)) g.1 g.2.1 g.2.2

theorem numOf_in (l : List UInt8) : -2147483648 ≤ numOf l ∧ numOf l ≤ 2147483647 := by
  unfold numOf
  split
  · unfold wrap32; omega
  · omega

set_option maxHeartbeats 4000000 in
theorem tParse_any (l : List UInt8) (w : World) (hs : l.length ≤ 9223372036854775807) (ht : Tab w) (he : Errs w) :
    Calls Tryz.prog 23 #[.string ⟨l.toArray⟩] w (ToldT w (parseT l).1 (parseT l).2) := by
  unfold parseT
  have ZER : True := trivial
  obtain ⟨w0, e0, hK0⟩ : ∃ w0, w0 = w.alloc (.cells #[.string ⟨#[]⟩, .int .i32 0, .int .i32 0, .bool false, .slice none 0 0, .slice none 0 0, .bool false, .slice none 0 0, .slice none 0 0] 31) ∧ Hid (Kg w [(w.heap.size, 31, #[.string ⟨#[]⟩, .int .i32 0, .int .i32 0, .bool false, .slice none 0 0, .slice none 0 0, .bool false, .slice none 0 0, .slice none 0 0])] [] w0) :=
    ⟨_, rfl, Lib.hid ((Kg.start w).alloc _ _)⟩
  by_cases h0 : 65536 < l.length
  · rw [if_pos h0]
    have hk := hK0.out.blk _ (List.mem_singleton_self _)
    have hB0 := Lib.hid hK0.out.low
    obtain ⟨p0, p1, p2, p3, p4, p5, p6, p7, p8⟩ := Blk.nine hk
    have hf := Blk.frozen hk
    go_enter Tryz.func23, Tryz.ntmps23
    go_wp2_with fail
    rw [← e0]
    go_wp2_with fail
    exact bodyPost_ret (v := .tuple #[.agg #[.string ⟨#[]⟩, .int .i32 0, .int .i32 0, .bool false, .slice none 0 0, .slice none 0 0, .bool false, .slice none 0 0, .slice none 0 0], .int .i64 3]) (by simp [results, Tryz.results23, go_sem, p0, p1, p2, p3, p4, p5, p6, p7, p8]) rfl ⟨Loc.nil, Loc.nil, rfl, OwL.zero _ _, OwL.zero _ _, hB0.out⟩
  rw [if_neg h0]
  have hc1 := cutB_len l 32
  have C1 := Lib.hid (fun W => Cut_any l 32 W (by omega))
  have HT := Lib.hid ht
  have HE := Lib.hid he
  clear ht he hs ZER
  generalize cutB l 32 = a at *
  obtain ⟨a1, a2, a3⟩ := a
  simp only at C1 hc1 ⊢
  have hc2 := cutB_len a2 32
  have C2 := Lib.hid (fun W => Cut_any a2 32 W (by omega))
  generalize cutB a2 32 = b at *
  obtain ⟨b1, b2, b3⟩ := b
  simp only at C2 hc2 ⊢
  have hc3 := cutB_len b2 32
  have C3 := Lib.hid (fun W => Cut_any b2 32 W (by omega))
  generalize cutB b2 32 = c at *
  obtain ⟨c1, c2, c3⟩ := c
  simp only at C3 hc3 ⊢
  have N1 := Lib.hid (fun W t e => number_any b1 W (by omega) t e)
  have N2 := Lib.hid (fun W t e => number_any c1 W (by omega) t e)
  have NM := Lib.hid (fun W => Name_any a1 W (by omega))
  have G1 := Lib.hid (fun W => gParse_any c2 W (by omega))
  have RT := Lib.hid (fun W => rotCheck_any (numOf b1) (numOf c1) W (numOf_in _) (numOf_in _))
  generalize okName a1 = nm at *
  generalize isNum b1 = i1 at *
  generalize isNum c1 = i2 at *
  generalize okRotor (numOf b1) (numOf c1) = rot at *
  generalize numOf b1 = n1 at *
  generalize numOf c1 = n2 at *
  generalize parseG c2 = g at *
  obtain ⟨gf, gk, y⟩ := g
  simp only at G1 ⊢
  obtain ⟨f0, f1, f2⟩ := gf
  obtain ⟨k0, k1, k2⟩ := gk
  obtain ⟨⟨rt, re⟩, hr⟩ : ∃ r, r = tell9 a1 c3 nm i1 i2 n1 n2 rot ⟨f0, f1, f2⟩ ⟨k0, k1, k2⟩ y := ⟨_, rfl⟩
  rw [← hr]
  unfold tell9 at hr
  have HR := Lib.hid hr
  clear hr hc1 hc2 hc3
  show Calls _ _ _ _ (ToldT w rt re)
  have h0' : ¬ (65536 : Int) < (l.length : Int) := by omega
  go_enter Tryz.func23, Tryz.ntmps23
  go_wp2_with fail
  rw [← e0]
  clear e0
  refine (C1.out w0).mono ?_
  rintro e w1 ⟨rfl, hB⟩
  have HK := Lib.hid (hK0.out.below hB)
  clear hK0 hB C1
  go_wp2_with fail
  refine (C2.out w1).mono ?_
  rintro e w2 ⟨rfl, hB⟩
  have HK := Lib.hid (HK.out.below hB)
  clear hB C2
  go_wp2_with fail
  refine (C3.out w2).mono ?_
  rintro e w3 ⟨rfl, hB⟩
  have HK := Lib.hid (HK.out.below hB)
  clear hB C3
  go_wp2_with fail
  refine (N1.out w3 (HT.out.low HK.out.low (Nat.le_refl _)) (HE.out.low HK.out.low (Nat.le_refl _))).mono ?_
  rintro e w4 ⟨m1, rfl, hm1, hB⟩
  have HK := Lib.hid (HK.out.below hB)
  have HM1 := Lib.hid hm1
  clear hB N1 hm1
  go_wp2_with fail
  refine (N2.out w4 (HT.out.low HK.out.low (Nat.le_refl _)) (HE.out.low HK.out.low (Nat.le_refl _))).mono ?_
  rintro e w5 ⟨m2, rfl, hm2, hB⟩
  have HK := Lib.hid (HK.out.below hB)
  have HM2 := Lib.hid hm2
  clear hB N2 hm2 HT HE
  go_wp2_with fail
  refine (G1.out w5).mono ?_
  rintro e w6 ⟨L, M, rfl, hO1, hO2, hB⟩
  unfold valG
  have HK := Lib.hid ((((HK.out.below hB).add hO1 HK.out.size).add hO2 HK.out.size).alloc 29 #[.bool f0, .slice L.A f1.length L.c, .slice L.B f2.length L.d, .bool k0, .slice M.A k1.length M.c, .slice M.B k2.length M.d])
  clear hB hO1 hO2 G1
  have hk := HK.out.blk (w.heap.size, 31, #[.string ⟨#[]⟩, .int .i32 0, .int .i32 0, .bool false, .slice none 0 0, .slice none 0 0, .bool false, .slice none 0 0, .slice none 0 0]) (by simp)
  obtain ⟨p0, p1, p2, p3, p4, p5, p6, p7, p8⟩ := Blk.nine hk
  have hf := Blk.frozen hk
  have HKB := Lib.hid hk
  have HL := Lib.hid HK.out.low
  clear hk
  cases c3
  · have hR := HR.out
    rw [if_pos rfl] at hR
    injection hR with g1 g2
    subst g1 g2
    clear HR
    go_wp2_with fail
    exact done_t0 230 w _ w.heap.size (Nat.le_refl _) HKB.out HL.out (by
      intro w5 ha0 ha1 ha2 ha3 ha4 ha5 ha6 ha7 ha8 Q hQ
      exact bodyPost_ret (by simp [results, Tryz.results23, go_sem, ha0, ha1, ha2, ha3, ha4, ha5, ha6, ha7, ha8]) rfl hQ)
  have HR := Lib.hid (HR.out.trans (if_neg (by decide)))
  cases nm
  · have hR := HR.out
    rw [if_pos rfl] at hR
    injection hR with g1 g2
    subst g1 g2
    clear HR
    go_wp2_with fail
    refine (NM.out _).mono ?_
    rintro e w7 ⟨rfl, rfl⟩
    go_wp2_with fail
    exact done_t0 230 w _ w.heap.size (Nat.le_refl _) HKB.out HL.out (by
      intro w5 ha0 ha1 ha2 ha3 ha4 ha5 ha6 ha7 ha8 Q hQ
      exact bodyPost_ret (by simp [results, Tryz.results23, go_sem, ha0, ha1, ha2, ha3, ha4, ha5, ha6, ha7, ha8]) rfl hQ)
  have HR := Lib.hid (HR.out.trans (if_neg (by decide)))
  cases i1
  · have hR := HR.out
    rw [if_pos rfl] at hR
    injection hR with g1 g2
    subst g1 g2
    clear HR
    go_wp2_with fail
    refine (NM.out _).mono ?_
    rintro e w7 ⟨rfl, rfl⟩
    go_wp2_with fail
    exact done_t0 230 w _ w.heap.size (Nat.le_refl _) HKB.out HL.out (by
      intro w5 ha0 ha1 ha2 ha3 ha4 ha5 ha6 ha7 ha8 Q hQ
      exact bodyPost_ret (by simp [results, Tryz.results23, go_sem, ha0, ha1, ha2, ha3, ha4, ha5, ha6, ha7, ha8]) rfl hQ)
  have HR := Lib.hid (HR.out.trans (if_neg (by decide)))
  cases i2
  · have hR := HR.out
    rw [if_pos rfl] at hR
    injection hR with g1 g2
    subst g1 g2
    clear HR
    go_wp2_with fail
    refine (NM.out _).mono ?_
    rintro e w7 ⟨rfl, rfl⟩
    go_wp2_with fail
    exact done_t0 230 w _ w.heap.size (Nat.le_refl _) HKB.out HL.out (by
      intro w5 ha0 ha1 ha2 ha3 ha4 ha5 ha6 ha7 ha8 Q hQ
      exact bodyPost_ret (by simp [results, Tryz.results23, go_sem, ha0, ha1, ha2, ha3, ha4, ha5, ha6, ha7, ha8]) rfl hQ)
  have HR := Lib.hid (HR.out.trans (if_neg (by decide)))
  by_cases hy : y = 140
  · have hR := HR.out
    rw [if_pos hy] at hR
    injection hR with g1 g2
    subst g1 g2
    clear HR
    subst hy
    go_wp2_with fail
    refine (NM.out _).mono ?_
    rintro e w7 ⟨rfl, rfl⟩
    go_wp2_with fail
    exact done_t0 230 w _ w.heap.size (Nat.le_refl _) HKB.out HL.out (by
      intro w5 ha0 ha1 ha2 ha3 ha4 ha5 ha6 ha7 ha8 Q hQ
      exact bodyPost_ret (by simp [results, Tryz.results23, go_sem, ha0, ha1, ha2, ha3, ha4, ha5, ha6, ha7, ha8]) rfl hQ)
  have HR := Lib.hid (HR.out.trans (if_neg hy))
  have hy1 : (y == 140) = false := beq_eq_false_iff_ne.2 hy
  obtain rfl : m1 = n1 := HM1.out rfl
  obtain rfl : m2 = n2 := HM2.out rfl
  clear HM1 HM2
  have hg0 := HK.out.blk (w6.heap.size, 29, #[.bool f0, .slice L.A f1.length L.c, .slice L.B f2.length L.d, .bool k0, .slice M.A k1.length M.c, .slice M.B k2.length M.d]) (by simp)
  obtain ⟨g0, g1, g2, g3, g4, g5⟩ := Blk.six hg0
  have hsz : (w6.alloc (.cells #[.bool f0, .slice L.A f1.length L.c, .slice L.B f2.length L.d, .bool k0, .slice M.A k1.length M.c, .slice M.B k2.length M.d] 29)).heap.size = w6.heap.size + 1 := by show (w6.heap.push _).size = _; simp
  have HK2 := HK.out.alloc 31 #[.string ⟨a1.toArray⟩, .int .i32 m1, .int .i32 m2, .bool f0, .slice L.A f1.length L.c, .slice L.B f2.length L.d, .bool k0, .slice M.A k1.length M.c, .slice M.B k2.length M.d]
  rw [hsz] at HK2
  have HK2 := Lib.hid HK2
  have hq := HK2.out.blk (w6.heap.size + 1, 31, #[.string ⟨a1.toArray⟩, .int .i32 m1, .int .i32 m2, .bool f0, .slice L.A f1.length L.c, .slice L.B f2.length L.d, .bool k0, .slice M.A k1.length M.c, .slice M.B k2.length M.d]) (by simp)
  obtain ⟨q0, q1, q2, q3, q4, q5, q6, q7, q8⟩ := Blk.nine hq
  clear hsz hg0 hq hy
  cases rot
  · have hR := HR.out
    rw [if_pos rfl] at hR
    injection hR with g1 g2
    subst g1 g2
    clear HR
    go_wp2_with fail
    refine (NM.out _).mono ?_
    rintro e w7 ⟨rfl, rfl⟩
    go_wp2_with fail
    refine (RT.out _).mono ?_
    rintro e w8 ⟨rfl, hB⟩
    have HK3 := Lib.hid (HK2.out.below hB)
    clear hB p0 p1 p2 p3 p4 p5 p6 p7 p8 hf HKB HL g0 g1 g2 g3 g4 g5 q0 q1 q2 q3 q4 q5 q6 q7 q8
    have hk := HK3.out.blk (w.heap.size, 31, #[.string ⟨#[]⟩, .int .i32 0, .int .i32 0, .bool false, .slice none 0 0, .slice none 0 0, .bool false, .slice none 0 0, .slice none 0 0]) (by simp)
    obtain ⟨p0, p1, p2, p3, p4, p5, p6, p7, p8⟩ := Blk.nine hk
    have hf := Blk.frozen hk
    have HKB := Lib.hid hk
    have HL := Lib.hid HK3.out.low
    clear hk
    go_wp2_with fail
    exact done_t0 150 w _ w.heap.size (Nat.le_refl _) HKB.out HL.out (by
      intro w5 ha0 ha1 ha2 ha3 ha4 ha5 ha6 ha7 ha8 Q hQ
      exact bodyPost_ret (by simp [results, Tryz.results23, go_sem, ha0, ha1, ha2, ha3, ha4, ha5, ha6, ha7, ha8]) rfl hQ)
  have HR := Lib.hid (HR.out.trans (if_neg (by decide)))
  by_cases hz : y = 0
  · have hR := HR.out
    rw [if_neg (by rw [hz]; decide)] at hR
    injection hR with g1 g2
    subst g1 g2
    clear HR
    subst hz
    go_wp2_with fail
    refine (NM.out _).mono ?_
    rintro e w7 ⟨rfl, rfl⟩
    go_wp2_with fail
    refine (RT.out _).mono ?_
    rintro e w8 ⟨rfl, hB⟩
    have HK3 := Lib.hid (HK2.out.below hB)
    clear hB p0 p1 p2 p3 p4 p5 p6 p7 p8 hf HKB HL g0 g1 g2 g3 g4 g5 q0 q1 q2 q3 q4 q5 q6 q7 q8
    have hk := HK3.out.blk (w.heap.size, 31, #[.string ⟨#[]⟩, .int .i32 0, .int .i32 0, .bool false, .slice none 0 0, .slice none 0 0, .bool false, .slice none 0 0, .slice none 0 0]) (by simp)
    obtain ⟨p0, p1, p2, p3, p4, p5, p6, p7, p8⟩ := Blk.nine hk
    have hf := Blk.frozen hk
    have HKB := Lib.hid hk
    have HL := Lib.hid HK3.out.low
    clear hk
    have hq := HK3.out.blk (w6.heap.size + 1, 31, #[.string ⟨a1.toArray⟩, .int .i32 m1, .int .i32 m2, .bool f0, .slice L.A f1.length L.c, .slice L.B f2.length L.d, .bool k0, .slice M.A k1.length M.c, .slice M.B k2.length M.d]) (by simp)
    obtain ⟨q0, q1, q2, q3, q4, q5, q6, q7, q8⟩ := Blk.nine hq
    have O1 := Lib.hid (HK3.out.own ((⟨f0, f1, f2⟩ : F), L) (by simp))
    have O2 := Lib.hid (HK3.out.own ((⟨k0, k1, k2⟩ : F), M) (by simp))
    clear hq
    go_wp2_with fail
    exact done_t a1 m1 m2 ⟨f0, f1, f2⟩ ⟨k0, k1, k2⟩ L M 0 w _ w.heap.size (Nat.le_refl _) HKB.out HL.out O1.out O2.out (by
      intro w5 ha0 ha1 ha2 ha3 ha4 ha5 ha6 ha7 ha8 Q hQ
      exact bodyPost_ret (by simp [results, Tryz.results23, go_sem, ha0, ha1, ha2, ha3, ha4, ha5, ha6, ha7, ha8]) rfl hQ)
  · have hR := HR.out
    rw [if_pos hz] at hR
    injection hR with g1 g2
    subst g1 g2
    clear HR
    have hz1 : (re != 0) = true := bne_iff_ne.2 hz
    go_wp2_with fail
    refine (NM.out _).mono ?_
    rintro e w7 ⟨rfl, rfl⟩
    go_wp2_with fail
    refine (RT.out _).mono ?_
    rintro e w8 ⟨rfl, hB⟩
    have HK3 := Lib.hid (HK2.out.below hB)
    clear hB p0 p1 p2 p3 p4 p5 p6 p7 p8 hf HKB HL g0 g1 g2 g3 g4 g5 q0 q1 q2 q3 q4 q5 q6 q7 q8
    have hk := HK3.out.blk (w.heap.size, 31, #[.string ⟨#[]⟩, .int .i32 0, .int .i32 0, .bool false, .slice none 0 0, .slice none 0 0, .bool false, .slice none 0 0, .slice none 0 0]) (by simp)
    obtain ⟨p0, p1, p2, p3, p4, p5, p6, p7, p8⟩ := Blk.nine hk
    have hf := Blk.frozen hk
    have HKB := Lib.hid hk
    have HL := Lib.hid HK3.out.low
    clear hk
    go_wp2_with fail
    exact done_t0 re w _ w.heap.size (Nat.le_refl _) HKB.out HL.out (by
      intro w5 ha0 ha1 ha2 ha3 ha4 ha5 ha6 ha7 ha8 Q hQ
      exact bodyPost_ret (by simp [results, Tryz.results23, go_sem, ha0, ha1, ha2, ha3, ha4, ha5, ha6, ha7, ha8]) rfl hQ)
end Go.Proofs.YtolbafckppafkaaGreatDoor
