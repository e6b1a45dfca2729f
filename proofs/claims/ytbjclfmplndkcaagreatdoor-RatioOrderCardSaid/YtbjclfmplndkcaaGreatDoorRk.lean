/-
  PACKAGE ratio: Floor, Make.
-/
import Derived.Test.YtbjclfmplndkcaaGreatDoorRh
import Derived.Test.YtbjclfmplndkcaaGreatDoorRj
set_option linter.unusedVariables false
set_option linter.unusedSimpArgs false
set_option linter.unnecessarySimpa false
namespace Go.Proofs.YtbjclfmplndkcaaGreatDoor
open Go.RowKit Pl

/-- the size of a fraction's floor -/
def flo (f : F) : Nat := val f.num / val f.den + (if f.neg = true ∧ val f.num % val f.den ≠ 0 then 1 else 0)
theorem flo_q {f : F} (hf : f.ok) : f.q.floor = sg f.neg (flo f) := floor_q hf

theorem add1_any (B : Option Addr) (b : Nat) (W : List Int) (w1 : World) (h : Rd w1 B W) (hn : Norm W) (hl : W.length ≤ 8190) :
    Calls Tryz.prog 30 #[.slice B W.length b, .slice (some { block := w1.heap.size, off := 0 }) 1 1] (w1.alloc (Obj.cells #[.int .u32 1] 40)) fun e w' =>
      ∃ B d, e = .returned (.tuple #[.slice B (words (val W + 1)).length d, .int .i64 0]) ∧ Ow w' w1.heap.size B d (words (val W + 1)) ∧ Below w1.heap.size w1 w' := by
  have hb1 : Below w1.heap.size w1 (w1.alloc (Obj.cells #[.int .u32 1] 40)) := (Below.refl _ _).alloc (Nat.le_refl _) _
  have hr : InR [1] := by intro x hx; simp only [List.mem_singleton] at hx; omega
  have hK : Bw (w1.alloc (.cells (cellsOf [1]) 40)) w1.heap.size 1 [1] := Bw.of_blk (Blk.new _ _ _) hr (by simp)
  refine (Add_any B _ b 1 W [1] _ (h.below hb1) hK.rd hn hl ⟨hr, by simp⟩ (by simp)).mono ?_
  rintro e w' ⟨B', d, rfl, hO, hb⟩
  exact ⟨B', d, rfl, hO.mono hb1.size, below_trans hb1 hb⟩

/-- a struct of two cells is laid over a block of two -/
def st2 (w : World) (g : Nat) (u v : Value) : World := (w.setCell ⟨g, 0, none⟩ u).setCell ⟨g, 1, none⟩ v
theorem st2_blk {w : World} {g : Nat} {t : TypeId} {a b : Value} (h : Blk w g t #[a, b]) (u v : Value) : Blk (st2 w g u v) g t #[u, v] := (h.set_ 0 u).set_ 1 v
theorem st2_below {w w' : World} {g : Nat} {B : Nat} (h : Below B w w') (hg : B ≤ g) (u v : Value) : Below B w (st2 w' g u v) :=
  (h.setCell (p := ⟨g, 0, none⟩) hg u).setCell (p := ⟨g, 1, none⟩) hg v
theorem Ow.st2 {w : World} {base g c : Nat} {A : Option Addr} {l : List Int} (h : Ow w base A c l) (hg : g < base) (u v : Value) : Ow (st2 w g u v) base A c l := (h.setFar hg 0 u).setFar hg 1 v
/-- a whole number is told -/
theorem done_w {P : Program} {fn : Func} {fr : Act} (s : Bool) (l : List Int) (B1 : Option Addr) (b1 : Nat) (w w3 : World) (g base : Nat) (hg : w.heap.size ≤ g) (hgb : g < base)
    {a b : Value} (hk3 : Blk w3 g 37 #[a, b]) (hb3 : Below w.heap.size w w3) (hn : Ow w3 base B1 b1 l)
    (H : ∀ w4 : World, w4.cell? ⟨g, 0, none⟩ = some (.bool s) → w4.cell? ⟨g, 1, none⟩ = some (.slice B1 l.length b1) → ∀ Q : Ending → World → Prop,
      Q (.returned (.tuple #[.agg #[.bool s, .slice B1 l.length b1], .int .i64 0])) w4 → bodyPost P fn Q .ret fr w4) :
    bodyPost P fn (fun e w' => ∃ B d, e = .returned (.tuple #[.agg #[.bool s, .slice B l.length d], .int .i64 0]) ∧ Ow w' w.heap.size B d l ∧ Below w.heap.size w w') .ret fr (st2 w3 g (.bool s) (.slice B1 l.length b1)) := by
  have hk4 := st2_blk hk3 (.bool s) (.slice B1 l.length b1)
  have hb4 := st2_below hb3 hg (.bool s) (.slice B1 l.length b1)
  exact H _ (hk4.cell 0) (hk4.cell 1) _ ⟨_, _, rfl, (hn.st2 hgb _ _).mono (by omega), hb4⟩

set_option maxHeartbeats 1000000 in
theorem Floor_ok (f : F) (A A' : Option Addr) (c c' : Nat) (w : World) (h : Rd w A f.num) (h' : Rd w A' f.den) (hc : f.num.length ≤ c) (hc' : f.den.length ≤ c') (hf : f.ok) :
    Calls Tryz.prog 11 #[.agg #[.bool f.neg, .slice A f.num.length c, .slice A' f.den.length c']] w fun e w' =>
      ∃ B d, e = .returned (.tuple #[.agg #[.bool f.neg, .slice B (words (flo f)).length d], .int .i64 0]) ∧ Ow w' w.heap.size B d (words (flo f)) ∧ Below w.heap.size w w' := by
  have C1 := rCheck_any f A A' c c'
  rw [(chk_ok h.inr h'.inr).2 hf] at C1
  have HC := Lib.hid (fun W r1 r2 => C1 W r1 r2 hc hc')
  clear C1
  have HD := Lib.hid (fun W r1 r2 => DivMod_any A A' c c' f.num f.den W r1 r2 hf.1 hf.2.1 (by have := hf.2.2.1; omega) (by have := hf.2.2.2.1; omega) hc hc' (by intro e; have := hf.2.2.2.2.2.1; rw [e] at this; simp at this))
  have lq : (words (val f.num / val f.den)).length ≤ 8190 := Nat.le_trans (words_le (Nat.div_le_self _ _) (by rw [words_val hf.1]; exact hf.2.2.1)) (by omega)
  have HA := Lib.hid (fun B b w1 r => add1_any B b (words (val f.num / val f.den)) w1 r (words_norm _) lq)
  rw [val_words] at HA
  have hsz : flo f = if f.neg = true ∧ 0 < (words (val f.num % val f.den)).length then val f.num / val f.den + 1 else val f.num / val f.den := by
    unfold flo
    have e0 : 0 < (words (val f.num % val f.den)).length ↔ val f.num % val f.den ≠ 0 := by rw [List.length_pos_iff, Ne, words_eq_nil]
    by_cases e : f.neg = true ∧ val f.num % val f.den ≠ 0
    · rw [if_pos e, if_pos ⟨e.1, e0.2 e.2⟩]
    · rw [if_neg e, if_neg (fun k => e ⟨k.1, e0.1 k.2⟩)]; rfl
  rw [hsz]
  clear hsz hf lq
  obtain ⟨fn, fl, fm⟩ := f
  simp only at *
  generalize val fl / val fm = q at *
  generalize val fl % val fm = r at *
  obtain ⟨w0, e0, hK0⟩ := kp2 w 24 37 #[.bool fn, .slice A fl.length c, .slice A' fm.length c'] #[.bool false, .slice none 0 0]
  have HK := Lib.hid hK0
  clear hK0
  generalize words r = R at *
  by_cases hs : fn = true ∧ 0 < R.length
  · rw [if_pos hs]
    obtain ⟨rfl, hs⟩ := hs
    generalize words (q + 1) = Q1 at *
    generalize words q = Q at *
    go_enter Tryz.func11, Tryz.ntmps11
    go_wp2_with fail
    rw [← e0]
    clear e0
    have p0 : w0.cell? ⟨w.heap.size, 0, none⟩ = some (.bool true) := HK.out.b0.cell 0
    have p1 : w0.cell? ⟨w.heap.size, 1, none⟩ = some (.slice A fl.length c) := HK.out.b0.cell 1
    have p2 : w0.cell? ⟨w.heap.size, 2, none⟩ = some (.slice A' fm.length c') := HK.out.b0.cell 2
    go_wp2_with fail
    refine (HC.out w0 (h.below HK.out.low) (h'.below HK.out.low)).mono ?_
    rintro e w1 ⟨rfl, hB⟩
    have HK := Lib.hid (HK.out.below hB)
    clear hB p0 p1 p2
    have p0 : w1.cell? ⟨w.heap.size, 0, none⟩ = some (.bool true) := HK.out.b0.cell 0
    have p1 : w1.cell? ⟨w.heap.size, 1, none⟩ = some (.slice A fl.length c) := HK.out.b0.cell 1
    have p2 : w1.cell? ⟨w.heap.size, 2, none⟩ = some (.slice A' fm.length c') := HK.out.b0.cell 2
    go_wp2_with fail
    refine (HD.out w1 (h.below HK.out.low) (h'.below HK.out.low)).mono ?_
    rintro e w2 ⟨B1, b1, B2, b2, rfl, hO1, hO2, hB⟩
    have lR := hO2.rd.len
    have HK := Lib.hid (((HK.out.below hB).add hO1 HK.out.size).add hO2 HK.out.size)
    clear hB p0 p1 p2 hO1 hO2
    have p0 : w2.cell? ⟨w.heap.size, 0, none⟩ = some (.bool true) := HK.out.b0.cell 0
    have hd1 : decide ((R.length : Int) > 0) = true := by simpa using hs
    go_wp2_with fail
    refine (HA.out B1 b1 w2 (HK.out.own (B1, b1, Q) (by simp)).rd).mono ?_
    rintro e w3 ⟨B, b, rfl, hO, hB⟩
    have HG := Lib.hid HK.out.b1.lt
    have HK := Lib.hid (HK.out.below hB)
    have HO := Lib.hid hO
    clear hB p0 hO
    have hk3 := HK.out.b1
    have p0 : w3.cell? ⟨w.heap.size, 0, none⟩ = some (.bool true) := HK.out.b0.cell 0
    have hc0 : w3.cell? ⟨w.heap.size + 1, 0, none⟩ = some (.bool false) := hk3.cell 0
    have hc1 : w3.cell? ⟨w.heap.size + 1, 1, none⟩ = some (.slice none 0 0) := hk3.cell 1
    have hf := hk3.frozen
    go_wp2_with fail
    exact done_w _ _ B b w w3 (w.heap.size + 1) _ (by omega) HG.out hk3 HK.out.low HO.out (by
      intro w5 ha0 ha1 Q hQ
      exact bodyPost_ret (by simp [results, Tryz.results11, go_sem, ha0, ha1]) rfl hQ)
  · rw [if_neg hs]
    have hs' : fn = false ∨ (fn = true ∧ ¬ 0 < R.length) := by
      cases fn
      · exact .inl rfl
      · refine .inr ⟨rfl, ?_⟩
        exact fun e => hs ⟨rfl, e⟩
    clear hs
    generalize words q = Q at *
    rcases hs' with rfl | ⟨rfl, hd1⟩
    all_goals
      go_enter Tryz.func11, Tryz.ntmps11
      go_wp2_with fail
      rw [← e0]
      clear e0
      have p0 := HK.out.b0.cell 0
      have p1 : w0.cell? ⟨w.heap.size, 1, none⟩ = some (.slice A fl.length c) := HK.out.b0.cell 1
      have p2 : w0.cell? ⟨w.heap.size, 2, none⟩ = some (.slice A' fm.length c') := HK.out.b0.cell 2
      simp only [List.getElem?_toArray, List.getElem?_cons_zero, List.getElem?_cons_succ] at p0
      go_wp2_with fail
      refine (HC.out w0 (h.below HK.out.low) (h'.below HK.out.low)).mono ?_
      rintro e w1 ⟨rfl, hB⟩
      have HK := Lib.hid (HK.out.below hB)
      clear hB p0 p1 p2
      have p0 := HK.out.b0.cell 0
      have p1 : w1.cell? ⟨w.heap.size, 1, none⟩ = some (.slice A fl.length c) := HK.out.b0.cell 1
      have p2 : w1.cell? ⟨w.heap.size, 2, none⟩ = some (.slice A' fm.length c') := HK.out.b0.cell 2
      simp only [List.getElem?_toArray, List.getElem?_cons_zero, List.getElem?_cons_succ] at p0
      go_wp2_with fail
      refine (HD.out w1 (h.below HK.out.low) (h'.below HK.out.low)).mono ?_
      rintro e w2 ⟨B1, b1, B2, b2, rfl, hO1, hO2, hB⟩
      have lR := hO2.rd.len
      have HO := Lib.hid hO1
      have HG := Lib.hid HK.out.b1.lt
      have HK := Lib.hid (HK.out.below hB)
      clear hB p0 p1 p2 hO1 hO2
      have p0 := HK.out.b0.cell 0
      simp only [List.getElem?_toArray, List.getElem?_cons_zero, List.getElem?_cons_succ] at p0
      have hk3 := HK.out.b1
      have hc0 : w2.cell? ⟨w.heap.size + 1, 0, none⟩ = some (.bool false) := hk3.cell 0
      have hc1 : w2.cell? ⟨w.heap.size + 1, 1, none⟩ = some (.slice none 0 0) := hk3.cell 1
      have hf := hk3.frozen
      go_wp2_with fail
      exact done_w _ _ B1 b1 w w2 (w.heap.size + 1) _ (by omega) HG.out hk3 HK.out.low HO.out (by
        intro w5 ha0 ha1 Q hQ
        exact bodyPost_ret (by simp [results, Tryz.results11, go_sem, ha0, ha1]) rfl hQ)

set_option maxHeartbeats 1000000 in
theorem Make_ok (s t : Bool) (l m : List Int) (A A' : Option Addr) (c c' : Nat) (w : World) (h : Rd w A l) (h' : Rd w A' m) (hc : l.length ≤ c) (hc' : m.length ≤ c')
    (hl : Norm l) (hm : Norm m) (hl8 : l.length ≤ 2048) (hm8 : m.length ≤ 2048) (h0 : m ≠ []) (h1 : wchk s l = 0) (h2 : wchk t m = 0) :
    Calls Tryz.prog 12 #[.agg #[.bool s, .slice A l.length c], .agg #[.bool t, .slice A' m.length c']] w fun e w' =>
      ∃ v, e = .returned (.tuple #[v, .int .i64 (tell (mkRat (sg (s != t) (val l)) (val m))).2]) ∧ OwR w' w.heap.size v (tell (mkRat (sg (s != t) (val l)) (val m))).1 ∧ Below w.heap.size w w' := by
  have C1 := wCheck_any s A c l
  have C2 := wCheck_any t A' c' m
  rw [h1] at C1
  rw [h2] at C2
  have HC1 := Lib.hid C1
  have HC2 := Lib.hid C2
  have HL := Lib.hid (fun neg W r1 r2 => lowest_any neg A A' c c' l m W r1 r2 hl hm (by omega) (by omega) hc hc' h0)
  have hn0 : ((m.length : Int) == 0) = false := by have := List.length_pos_iff.2 h0; exact beq_eq_false_iff_ne.2 (by omega)
  have hlen := h'.len
  clear C1 C2 h1 h2 hl hm h0 hl8 hm8
  generalize val l = x at *
  generalize val m = y at *
  obtain ⟨r, hr⟩ : ∃ r, r = (s != t) := ⟨_, rfl⟩
  rw [← hr]
  have hs' : (s = false ∧ t = false ∧ r = false) ∨ (s = false ∧ t = true ∧ r = true) ∨ (s = true ∧ t = false ∧ r = true) ∨ (s = true ∧ t = true ∧ r = false) := by
    rw [hr]; cases s <;> cases t <;> simp
  clear hr
  rcases hs' with ⟨rfl, rfl, rfl⟩ | ⟨rfl, rfl, rfl⟩ | ⟨rfl, rfl, rfl⟩ | ⟨rfl, rfl, rfl⟩
  · obtain ⟨w0, e0, hK0⟩ := kp3 w 37 37 24 #[.bool false, .slice A l.length c] #[.bool false, .slice A' m.length c'] #[.bool false, .slice none 0 0, .slice none 0 0]
    have HK := Lib.hid hK0
    clear hK0
    go_enter Tryz.func12, Tryz.ntmps12
    go_wp2_with fail
    rw [← e0]
    clear e0
    have p0 : w0.cell? ⟨w.heap.size, 0, none⟩ = some (.bool false) := HK.out.b0.cell 0
    have p1 : w0.cell? ⟨w.heap.size, 1, none⟩ = some (.slice A l.length c) := HK.out.b0.cell 1
    go_wp2_with fail
    refine (HC1.out w0 (h.below HK.out.low)).mono ?_
    rintro e w1 ⟨rfl, hB⟩
    have HK := Lib.hid (HK.out.below hB)
    clear hB p0 p1
    have q0 : w1.cell? ⟨w.heap.size + 1, 0, none⟩ = some (.bool false) := HK.out.b1.cell 0
    have q1 : w1.cell? ⟨w.heap.size + 1, 1, none⟩ = some (.slice A' m.length c') := HK.out.b1.cell 1
    go_wp2_with fail
    refine (HC2.out w1 (h'.below HK.out.low)).mono ?_
    rintro e w2 ⟨rfl, hB⟩
    have HK := Lib.hid (HK.out.below hB)
    clear hB q0 q1
    have p0 : w2.cell? ⟨w.heap.size, 0, none⟩ = some (.bool false) := HK.out.b0.cell 0
    have p1 : w2.cell? ⟨w.heap.size, 1, none⟩ = some (.slice A l.length c) := HK.out.b0.cell 1
    have q0 : w2.cell? ⟨w.heap.size + 1, 0, none⟩ = some (.bool false) := HK.out.b1.cell 0
    have q1 : w2.cell? ⟨w.heap.size + 1, 1, none⟩ = some (.slice A' m.length c') := HK.out.b1.cell 1
    go_wp2_with fail
    refine (HL.out _ w2 (h.below HK.out.low) (h'.below HK.out.low)).mono ?_
    rintro e w3 ⟨v, rfl, ⟨C1, c1, C2, c2, hv, h1, h2⟩, hB⟩
    have HG := Lib.hid HK.out.b2.lt
    have HK := Lib.hid (HK.out.below hB)
    have H1 := Lib.hid h1
    have H2 := Lib.hid h2
    clear h1 h2 hB p0 p1 q0 q1
    subst hv
    have hk3 := HK.out.b2
    have hc0 : w3.cell? ⟨w.heap.size + 2, 0, none⟩ = some (.bool false) := hk3.cell 0
    have hc1 : w3.cell? ⟨w.heap.size + 2, 1, none⟩ = some (.slice none 0 0) := hk3.cell 1
    have hc2 : w3.cell? ⟨w.heap.size + 2, 2, none⟩ = some (.slice none 0 0) := hk3.cell 2
    have hf := hk3.frozen
    go_wp2_with fail
    exact done_r _ _ C1 c1 C2 c2 w w3 (w.heap.size + 2) _ (by omega) HG.out hk3 HK.out.low H1.out H2.out (by
      intro w5 ha0 ha1 ha2 Q hQ
      exact bodyPost_ret (by simp [results, Tryz.results12, go_sem, ha0, ha1, ha2]) rfl hQ)
  · obtain ⟨w0, e0, hK0⟩ := kp3 w 37 37 24 #[.bool false, .slice A l.length c] #[.bool true, .slice A' m.length c'] #[.bool false, .slice none 0 0, .slice none 0 0]
    have HK := Lib.hid hK0
    clear hK0
    go_enter Tryz.func12, Tryz.ntmps12
    go_wp2_with fail
    rw [← e0]
    clear e0
    have p0 : w0.cell? ⟨w.heap.size, 0, none⟩ = some (.bool false) := HK.out.b0.cell 0
    have p1 : w0.cell? ⟨w.heap.size, 1, none⟩ = some (.slice A l.length c) := HK.out.b0.cell 1
    go_wp2_with fail
    refine (HC1.out w0 (h.below HK.out.low)).mono ?_
    rintro e w1 ⟨rfl, hB⟩
    have HK := Lib.hid (HK.out.below hB)
    clear hB p0 p1
    have q0 : w1.cell? ⟨w.heap.size + 1, 0, none⟩ = some (.bool true) := HK.out.b1.cell 0
    have q1 : w1.cell? ⟨w.heap.size + 1, 1, none⟩ = some (.slice A' m.length c') := HK.out.b1.cell 1
    go_wp2_with fail
    refine (HC2.out w1 (h'.below HK.out.low)).mono ?_
    rintro e w2 ⟨rfl, hB⟩
    have HK := Lib.hid (HK.out.below hB)
    clear hB q0 q1
    have p0 : w2.cell? ⟨w.heap.size, 0, none⟩ = some (.bool false) := HK.out.b0.cell 0
    have p1 : w2.cell? ⟨w.heap.size, 1, none⟩ = some (.slice A l.length c) := HK.out.b0.cell 1
    have q0 : w2.cell? ⟨w.heap.size + 1, 0, none⟩ = some (.bool true) := HK.out.b1.cell 0
    have q1 : w2.cell? ⟨w.heap.size + 1, 1, none⟩ = some (.slice A' m.length c') := HK.out.b1.cell 1
    go_wp2_with fail
    refine (HL.out _ w2 (h.below HK.out.low) (h'.below HK.out.low)).mono ?_
    rintro e w3 ⟨v, rfl, ⟨C1, c1, C2, c2, hv, h1, h2⟩, hB⟩
    have HG := Lib.hid HK.out.b2.lt
    have HK := Lib.hid (HK.out.below hB)
    have H1 := Lib.hid h1
    have H2 := Lib.hid h2
    clear h1 h2 hB p0 p1 q0 q1
    subst hv
    have hk3 := HK.out.b2
    have hc0 : w3.cell? ⟨w.heap.size + 2, 0, none⟩ = some (.bool false) := hk3.cell 0
    have hc1 : w3.cell? ⟨w.heap.size + 2, 1, none⟩ = some (.slice none 0 0) := hk3.cell 1
    have hc2 : w3.cell? ⟨w.heap.size + 2, 2, none⟩ = some (.slice none 0 0) := hk3.cell 2
    have hf := hk3.frozen
    go_wp2_with fail
    exact done_r _ _ C1 c1 C2 c2 w w3 (w.heap.size + 2) _ (by omega) HG.out hk3 HK.out.low H1.out H2.out (by
      intro w5 ha0 ha1 ha2 Q hQ
      exact bodyPost_ret (by simp [results, Tryz.results12, go_sem, ha0, ha1, ha2]) rfl hQ)
  · obtain ⟨w0, e0, hK0⟩ := kp3 w 37 37 24 #[.bool true, .slice A l.length c] #[.bool false, .slice A' m.length c'] #[.bool false, .slice none 0 0, .slice none 0 0]
    have HK := Lib.hid hK0
    clear hK0
    go_enter Tryz.func12, Tryz.ntmps12
    go_wp2_with fail
    rw [← e0]
    clear e0
    have p0 : w0.cell? ⟨w.heap.size, 0, none⟩ = some (.bool true) := HK.out.b0.cell 0
    have p1 : w0.cell? ⟨w.heap.size, 1, none⟩ = some (.slice A l.length c) := HK.out.b0.cell 1
    go_wp2_with fail
    refine (HC1.out w0 (h.below HK.out.low)).mono ?_
    rintro e w1 ⟨rfl, hB⟩
    have HK := Lib.hid (HK.out.below hB)
    clear hB p0 p1
    have q0 : w1.cell? ⟨w.heap.size + 1, 0, none⟩ = some (.bool false) := HK.out.b1.cell 0
    have q1 : w1.cell? ⟨w.heap.size + 1, 1, none⟩ = some (.slice A' m.length c') := HK.out.b1.cell 1
    go_wp2_with fail
    refine (HC2.out w1 (h'.below HK.out.low)).mono ?_
    rintro e w2 ⟨rfl, hB⟩
    have HK := Lib.hid (HK.out.below hB)
    clear hB q0 q1
    have p0 : w2.cell? ⟨w.heap.size, 0, none⟩ = some (.bool true) := HK.out.b0.cell 0
    have p1 : w2.cell? ⟨w.heap.size, 1, none⟩ = some (.slice A l.length c) := HK.out.b0.cell 1
    have q0 : w2.cell? ⟨w.heap.size + 1, 0, none⟩ = some (.bool false) := HK.out.b1.cell 0
    have q1 : w2.cell? ⟨w.heap.size + 1, 1, none⟩ = some (.slice A' m.length c') := HK.out.b1.cell 1
    go_wp2_with fail
    refine (HL.out _ w2 (h.below HK.out.low) (h'.below HK.out.low)).mono ?_
    rintro e w3 ⟨v, rfl, ⟨C1, c1, C2, c2, hv, h1, h2⟩, hB⟩
    have HG := Lib.hid HK.out.b2.lt
    have HK := Lib.hid (HK.out.below hB)
    have H1 := Lib.hid h1
    have H2 := Lib.hid h2
    clear h1 h2 hB p0 p1 q0 q1
    subst hv
    have hk3 := HK.out.b2
    have hc0 : w3.cell? ⟨w.heap.size + 2, 0, none⟩ = some (.bool false) := hk3.cell 0
    have hc1 : w3.cell? ⟨w.heap.size + 2, 1, none⟩ = some (.slice none 0 0) := hk3.cell 1
    have hc2 : w3.cell? ⟨w.heap.size + 2, 2, none⟩ = some (.slice none 0 0) := hk3.cell 2
    have hf := hk3.frozen
    go_wp2_with fail
    exact done_r _ _ C1 c1 C2 c2 w w3 (w.heap.size + 2) _ (by omega) HG.out hk3 HK.out.low H1.out H2.out (by
      intro w5 ha0 ha1 ha2 Q hQ
      exact bodyPost_ret (by simp [results, Tryz.results12, go_sem, ha0, ha1, ha2]) rfl hQ)
  · obtain ⟨w0, e0, hK0⟩ := kp3 w 37 37 24 #[.bool true, .slice A l.length c] #[.bool true, .slice A' m.length c'] #[.bool false, .slice none 0 0, .slice none 0 0]
    have HK := Lib.hid hK0
    clear hK0
    go_enter Tryz.func12, Tryz.ntmps12
    go_wp2_with fail
    rw [← e0]
    clear e0
    have p0 : w0.cell? ⟨w.heap.size, 0, none⟩ = some (.bool true) := HK.out.b0.cell 0
    have p1 : w0.cell? ⟨w.heap.size, 1, none⟩ = some (.slice A l.length c) := HK.out.b0.cell 1
    go_wp2_with fail
    refine (HC1.out w0 (h.below HK.out.low)).mono ?_
    rintro e w1 ⟨rfl, hB⟩
    have HK := Lib.hid (HK.out.below hB)
    clear hB p0 p1
    have q0 : w1.cell? ⟨w.heap.size + 1, 0, none⟩ = some (.bool true) := HK.out.b1.cell 0
    have q1 : w1.cell? ⟨w.heap.size + 1, 1, none⟩ = some (.slice A' m.length c') := HK.out.b1.cell 1
    go_wp2_with fail
    refine (HC2.out w1 (h'.below HK.out.low)).mono ?_
    rintro e w2 ⟨rfl, hB⟩
    have HK := Lib.hid (HK.out.below hB)
    clear hB q0 q1
    have p0 : w2.cell? ⟨w.heap.size, 0, none⟩ = some (.bool true) := HK.out.b0.cell 0
    have p1 : w2.cell? ⟨w.heap.size, 1, none⟩ = some (.slice A l.length c) := HK.out.b0.cell 1
    have q0 : w2.cell? ⟨w.heap.size + 1, 0, none⟩ = some (.bool true) := HK.out.b1.cell 0
    have q1 : w2.cell? ⟨w.heap.size + 1, 1, none⟩ = some (.slice A' m.length c') := HK.out.b1.cell 1
    go_wp2_with fail
    refine (HL.out _ w2 (h.below HK.out.low) (h'.below HK.out.low)).mono ?_
    rintro e w3 ⟨v, rfl, ⟨C1, c1, C2, c2, hv, h1, h2⟩, hB⟩
    have HG := Lib.hid HK.out.b2.lt
    have HK := Lib.hid (HK.out.below hB)
    have H1 := Lib.hid h1
    have H2 := Lib.hid h2
    clear h1 h2 hB p0 p1 q0 q1
    subst hv
    have hk3 := HK.out.b2
    have hc0 : w3.cell? ⟨w.heap.size + 2, 0, none⟩ = some (.bool false) := hk3.cell 0
    have hc1 : w3.cell? ⟨w.heap.size + 2, 1, none⟩ = some (.slice none 0 0) := hk3.cell 1
    have hc2 : w3.cell? ⟨w.heap.size + 2, 2, none⟩ = some (.slice none 0 0) := hk3.cell 2
    have hf := hk3.frozen
    go_wp2_with fail
    exact done_r _ _ C1 c1 C2 c2 w w3 (w.heap.size + 2) _ (by omega) HG.out hk3 HK.out.low H1.out H2.out (by
      intro w5 ha0 ha1 ha2 Q hQ
      exact bodyPost_ret (by simp [results, Tryz.results12, go_sem, ha0, ha1, ha2]) rfl hQ)
end Go.Proofs.YtbjclfmplndkcaaGreatDoor
