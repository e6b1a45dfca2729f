/-
  PACKAGE ratio: Add, Sub.
-/
import Derived.Test.YtbjclfmplndkcaaGreatDoorRg
import Derived.Test.YtbjclfmplndkcaaGreatDoorRw
set_option linter.unusedVariables false
set_option linter.unusedSimpArgs false
set_option linter.unnecessarySimpa false
namespace Go.Proofs.YtbjclfmplndkcaaGreatDoor
open Go.RowKit Pl

/-- checks, as a number -/
def ck2 (f k : F) : Int := if chk f = 0 then chk k else chk f
theorem ck2_ok {f k : F} (h1 : InR f.num) (h2 : InR f.den) (h3 : InR k.num) (h4 : InR k.den) : ck2 f k = 0 ↔ f.ok ∧ k.ok := by
  unfold ck2
  rw [← chk_ok h1 h2, ← chk_ok h3 h4]
  by_cases e : chk f = 0 <;> simp [e]
def addR (f k : F) : F × Int := if ck2 f k ≠ 0 then (F.zero, ck2 f k) else tell (f.q + k.q)
def subR (f k : F) : F × Int := if ck2 f k ≠ 0 then (F.zero, ck2 f k) else tell (f.q - k.q)
def mulR (f k : F) : F × Int := if ck2 f k ≠ 0 then (F.zero, ck2 f k) else tell (f.q * k.q)
def quoR (f k : F) : F × Int := if ck2 f k ≠ 0 then (F.zero, ck2 f k) else if k.num.length = 0 then (F.zero, 7) else tell (f.q / k.q)

theorem Kp.two {w W : World} {p q : Nat × TypeId × Array Value} {r : List (Nat × TypeId × Array Value)} {os : List (Option Addr × Nat × List Int)} (h : Kp w (p :: q :: r) os W) : Kp w [p, q] os W :=
  ⟨h.low, fun x hx => h.blk x (by simp only [List.mem_cons, List.not_mem_nil, or_false] at hx ⊢; rcases hx with hx | hx <;> simp [hx]), h.own⟩
theorem Kp.st3 {w W : World} {g : Nat} {p q : Nat × TypeId × Array Value} (h : Kp w [p, q] [] W) (h1 : p.1 ≠ g) (h2 : q.1 ≠ g) (hg : w.heap.size ≤ g) (u v x : Value) : Kp w [p, q] [] (st3 W g u v x) :=
  ⟨st3_below h.low hg u v x, fun y hy => by
    have hk := h.blk y hy
    have hne : y.1 ≠ g := by
      simp only [List.mem_cons, List.not_mem_nil, or_false] at hy
      rcases hy with rfl | rfl
      · exact h1
      · exact h2
    exact ((hk.far (p := ⟨g, 0, none⟩) hne u).far (p := ⟨g, 1, none⟩) hne v).far (p := ⟨g, 2, none⟩) hne x, fun y hy => by cases hy⟩

/-- nothing is told but an error -/
theorem done_z {P : Program} {fn : Func} {fr : Act} (er : Int) (w w3 : World) (g : Nat) (hg : w.heap.size ≤ g)
    {a b c : Value} (hk3 : Blk w3 g 24 #[a, b, c]) (hb3 : Below w.heap.size w w3)
    (H : ∀ w4 : World, w4.cell? ⟨g, 0, none⟩ = some (.bool false) → w4.cell? ⟨g, 1, none⟩ = some (.slice none 0 0) → w4.cell? ⟨g, 2, none⟩ = some (.slice none 0 0) → ∀ Q : Ending → World → Prop,
      Q (.returned (.tuple #[.agg #[.bool false, .slice none 0 0, .slice none 0 0], .int .i64 er])) w4 → bodyPost P fn Q .ret fr w4) :
    bodyPost P fn (fun e w' => ∃ v, e = .returned (.tuple #[v, .int .i64 er]) ∧ OwR w' w.heap.size v F.zero ∧ Below w.heap.size w w') .ret fr (st3 w3 g (.bool false) (.slice none 0 0) (.slice none 0 0)) := by
  have hk4 := st3_blk hk3 (.bool false) (.slice none 0 0) (.slice none 0 0)
  have hb4 := st3_below hb3 hg (.bool false) (.slice none 0 0) (.slice none 0 0)
  exact H _ (hk4.cell 0) (hk4.cell 1) (hk4.cell 2) _ ⟨_, rfl, OwR.zero _ _, hb4⟩

set_option maxHeartbeats 1000000 in
theorem Add0_no (f k : F) (A A' : Option Addr) (c c' : Nat) (C C' : Option Addr) (d d' : Nat) (w : World) (h : Rd w A f.num) (h' : Rd w A' f.den) (hc : f.num.length ≤ c) (hc' : f.den.length ≤ c')
    (k1 : Rd w C k.num) (k2 : Rd w C' k.den) (hd : k.num.length ≤ d) (hd' : k.den.length ≤ d') (hx : ck2 f k ≠ 0) :
    Calls Tryz.prog 13 #[.agg #[.bool f.neg, .slice A f.num.length c, .slice A' f.den.length c'], .agg #[.bool k.neg, .slice C k.num.length d, .slice C' k.den.length d']] w fun e w' =>
      ∃ v, e = .returned (.tuple #[v, .int .i64 (ck2 f k)]) ∧ OwR w' w.heap.size v F.zero ∧ Below w.heap.size w w' := by
  have C1 := Lib.hid (fun W r1 r2 r3 r4 => checks_any f k A A' c c' C C' d d' W r1 r2 hc hc' r3 r4 hd hd')
  unfold ck2 at hx ⊢
  generalize (if chk f = 0 then chk k else chk f) = x at *
  have hx' : (x != 0) = true := bne_iff_ne.2 hx
  obtain ⟨w0, e0, hK0⟩ := kp3 w 24 24 24 #[.bool f.neg, .slice A f.num.length c, .slice A' f.den.length c'] #[.bool k.neg, .slice C k.num.length d, .slice C' k.den.length d'] #[.bool false, .slice none 0 0, .slice none 0 0]
  have HK := Lib.hid hK0
  clear hK0
  go_enter Tryz.func13, Tryz.ntmps13
  go_wp2_with fail
  rw [← e0]
  clear e0
  obtain ⟨_, p0, p1, p2, q0, q1, q2⟩ := HK.out.six
  go_wp2_with fail
  refine (C1.out w0 (h.below HK.out.low) (h'.below HK.out.low) (k1.below HK.out.low) (k2.below HK.out.low)).mono ?_
  rintro e w1 ⟨rfl, hB1⟩
  have HK := Lib.hid (HK.out.below hB1)
  clear hB1 p0 p1 p2 q0 q1 q2
  have hk3 := HK.out.b2
  have hc0 : w1.cell? ⟨w.heap.size + 2, 0, none⟩ = some (.bool false) := hk3.cell 0
  have hc1 : w1.cell? ⟨w.heap.size + 2, 1, none⟩ = some (.slice none 0 0) := hk3.cell 1
  have hc2 : w1.cell? ⟨w.heap.size + 2, 2, none⟩ = some (.slice none 0 0) := hk3.cell 2
  have hf := hk3.frozen
  go_wp2_with fail
  exact done_z x w w1 (w.heap.size + 2) (by omega) hk3 HK.out.low (by
    intro w5 ha0 ha1 ha2 Q hQ
    exact bodyPost_ret (by simp [results, Tryz.results13, go_sem, ha0, ha1, ha2]) rfl hQ)

set_option maxHeartbeats 2000000 in
theorem Add0_ok (f k : F) (A A' : Option Addr) (c c' : Nat) (C C' : Option Addr) (d d' : Nat) (w : World) (h : Rd w A f.num) (h' : Rd w A' f.den) (hc : f.num.length ≤ c) (hc' : f.den.length ≤ c')
    (k1 : Rd w C k.num) (k2 : Rd w C' k.den) (hd : k.num.length ≤ d) (hd' : k.den.length ≤ d') (hf : f.ok) (hk : k.ok) :
    Calls Tryz.prog 13 #[.agg #[.bool f.neg, .slice A f.num.length c, .slice A' f.den.length c'], .agg #[.bool k.neg, .slice C k.num.length d, .slice C' k.den.length d']] w fun e w' =>
      ∃ v, e = .returned (.tuple #[v, .int .i64 (tell (f.q + k.q)).2]) ∧ OwR w' w.heap.size v (tell (f.q + k.q)).1 ∧ Below w.heap.size w w' := by
  have z : (if chk f = 0 then chk k else chk f) = 0 := by
    rw [if_pos ((chk_ok h.inr h'.inr).2 hf)]; exact (chk_ok k1.inr k2.inr).2 hk
  have C1 := checks_any f k A A' c c' C C' d d'
  rw [z] at C1
  have HC1 := Lib.hid (fun W r1 r2 r3 r4 => C1 W r1 r2 hc hc' r3 r4 hd hd')
  clear C1 z
  have HP := Lib.hid (fun W r1 r2 r3 r4 => plus_any f k A A' c c' C C' d d' W r1 r2 hc hc' r3 r4 hd hd' hf hk)
  generalize f.q + k.q = r at *
  obtain ⟨w0, e0, hK0⟩ := kp3 w 24 24 24 #[.bool f.neg, .slice A f.num.length c, .slice A' f.den.length c'] #[.bool k.neg, .slice C k.num.length d, .slice C' k.den.length d'] #[.bool false, .slice none 0 0, .slice none 0 0]
  have HK := Lib.hid hK0
  clear hK0
  go_enter Tryz.func13, Tryz.ntmps13
  go_wp2_with fail
  rw [← e0]
  clear e0
  obtain ⟨_, p0, p1, p2, q0, q1, q2⟩ := HK.out.six
  go_wp2_with fail
  refine (HC1.out w0 (h.below HK.out.low) (h'.below HK.out.low) (k1.below HK.out.low) (k2.below HK.out.low)).mono ?_
  rintro e w1 ⟨rfl, hB1⟩
  have HK := Lib.hid (HK.out.below hB1)
  clear hB1 p0 p1 p2 q0 q1 q2
  obtain ⟨_, p0, p1, p2, q0, q1, q2⟩ := HK.out.six
  go_wp2_with fail
  refine (HP.out _ (h.below HK.out.low) (h'.below HK.out.low) (k1.below HK.out.low) (k2.below HK.out.low)).mono ?_
  clear p0 p1 p2 q0 q1 q2
  rintro e w2 ⟨v, rfl, ⟨C1, c1, C2, c2, hv, h1, h2⟩, hB⟩
  have HG := Lib.hid HK.out.b2.lt
  have HK := Lib.hid (HK.out.below hB)
  have H1 := Lib.hid h1
  have H2 := Lib.hid h2
  clear h1 h2 hB
  subst hv
  have hk3 := HK.out.b2
  have hc0 : w2.cell? ⟨w.heap.size + 2, 0, none⟩ = some (.bool false) := hk3.cell 0
  have hc1 : w2.cell? ⟨w.heap.size + 2, 1, none⟩ = some (.slice none 0 0) := hk3.cell 1
  have hc2 : w2.cell? ⟨w.heap.size + 2, 2, none⟩ = some (.slice none 0 0) := hk3.cell 2
  have hf := hk3.frozen
  go_wp2_with fail
  exact done_r _ _ C1 c1 C2 c2 w w2 (w.heap.size + 2) _ (by omega) HG.out hk3 HK.out.low H1.out H2.out (by
    intro w5 ha0 ha1 ha2 Q hQ
    exact bodyPost_ret (by simp [results, Tryz.results13, go_sem, ha0, ha1, ha2]) rfl hQ)

theorem Add0_any (f k : F) (A A' : Option Addr) (c c' : Nat) (C C' : Option Addr) (d d' : Nat) (w : World) (h : Rd w A f.num) (h' : Rd w A' f.den) (hc : f.num.length ≤ c) (hc' : f.den.length ≤ c')
    (k1 : Rd w C k.num) (k2 : Rd w C' k.den) (hd : k.num.length ≤ d) (hd' : k.den.length ≤ d') :
    Calls Tryz.prog 13 #[.agg #[.bool f.neg, .slice A f.num.length c, .slice A' f.den.length c'], .agg #[.bool k.neg, .slice C k.num.length d, .slice C' k.den.length d']] w fun e w' =>
      ∃ v, e = .returned (.tuple #[v, .int .i64 (addR f k).2]) ∧ OwR w' w.heap.size v (addR f k).1 ∧ Below w.heap.size w w' := by
  by_cases hx : ck2 f k = 0
  · obtain ⟨hf, hk⟩ := (ck2_ok h.inr h'.inr k1.inr k2.inr).1 hx
    have e : addR f k = tell (f.q + k.q) := by unfold addR; rw [if_neg (by omega)]
    rw [e]
    exact Add0_ok f k A A' c c' C C' d d' w h h' hc hc' k1 k2 hd hd' hf hk
  · have e : addR f k = (F.zero, ck2 f k) := by unfold addR; rw [if_pos hx]
    rw [e]
    exact Add0_no f k A A' c c' C C' d d' w h h' hc hc' k1 k2 hd hd' hx

set_option maxHeartbeats 1000000 in
theorem Sub0_no (f k : F) (A A' : Option Addr) (c c' : Nat) (C C' : Option Addr) (d d' : Nat) (w : World) (h : Rd w A f.num) (h' : Rd w A' f.den) (hc : f.num.length ≤ c) (hc' : f.den.length ≤ c')
    (k1 : Rd w C k.num) (k2 : Rd w C' k.den) (hd : k.num.length ≤ d) (hd' : k.den.length ≤ d') (hx : ck2 f k ≠ 0) :
    Calls Tryz.prog 8 #[.agg #[.bool f.neg, .slice A f.num.length c, .slice A' f.den.length c'], .agg #[.bool k.neg, .slice C k.num.length d, .slice C' k.den.length d']] w fun e w' =>
      ∃ v, e = .returned (.tuple #[v, .int .i64 (ck2 f k)]) ∧ OwR w' w.heap.size v F.zero ∧ Below w.heap.size w w' := by
  have C1 := Lib.hid (fun W r1 r2 r3 r4 => checks_any f k A A' c c' C C' d d' W r1 r2 hc hc' r3 r4 hd hd')
  unfold ck2 at hx ⊢
  generalize (if chk f = 0 then chk k else chk f) = x at *
  have hx' : (x != 0) = true := bne_iff_ne.2 hx
  obtain ⟨w0, e0, hK0⟩ := kp3 w 24 24 24 #[.bool f.neg, .slice A f.num.length c, .slice A' f.den.length c'] #[.bool k.neg, .slice C k.num.length d, .slice C' k.den.length d'] #[.bool false, .slice none 0 0, .slice none 0 0]
  have HK := Lib.hid hK0
  clear hK0
  go_enter Tryz.func8, Tryz.ntmps8
  go_wp2_with fail
  rw [← e0]
  clear e0
  obtain ⟨_, p0, p1, p2, q0, q1, q2⟩ := HK.out.six
  go_wp2_with fail
  refine (C1.out w0 (h.below HK.out.low) (h'.below HK.out.low) (k1.below HK.out.low) (k2.below HK.out.low)).mono ?_
  rintro e w1 ⟨rfl, hB1⟩
  have HK := Lib.hid (HK.out.below hB1)
  clear hB1 p0 p1 p2 q0 q1 q2
  have hk3 := HK.out.b2
  have hc0 : w1.cell? ⟨w.heap.size + 2, 0, none⟩ = some (.bool false) := hk3.cell 0
  have hc1 : w1.cell? ⟨w.heap.size + 2, 1, none⟩ = some (.slice none 0 0) := hk3.cell 1
  have hc2 : w1.cell? ⟨w.heap.size + 2, 2, none⟩ = some (.slice none 0 0) := hk3.cell 2
  have hf := hk3.frozen
  go_wp2_with fail
  exact done_z x w w1 (w.heap.size + 2) (by omega) hk3 HK.out.low (by
    intro w5 ha0 ha1 ha2 Q hQ
    exact bodyPost_ret (by simp [results, Tryz.results8, go_sem, ha0, ha1, ha2]) rfl hQ)

set_option maxHeartbeats 2000000 in
theorem Sub0_ok (f k : F) (A A' : Option Addr) (c c' : Nat) (C C' : Option Addr) (d d' : Nat) (w : World) (h : Rd w A f.num) (h' : Rd w A' f.den) (hc : f.num.length ≤ c) (hc' : f.den.length ≤ c')
    (k1 : Rd w C k.num) (k2 : Rd w C' k.den) (hd : k.num.length ≤ d) (hd' : k.den.length ≤ d') (hf : f.ok) (hk : k.ok) :
    Calls Tryz.prog 8 #[.agg #[.bool f.neg, .slice A f.num.length c, .slice A' f.den.length c'], .agg #[.bool k.neg, .slice C k.num.length d, .slice C' k.den.length d']] w fun e w' =>
      ∃ v, e = .returned (.tuple #[v, .int .i64 (tell (f.q - k.q)).2]) ∧ OwR w' w.heap.size v (tell (f.q - k.q)).1 ∧ Below w.heap.size w w' := by
  have z : (if chk f = 0 then chk k else chk f) = 0 := by
    rw [if_pos ((chk_ok h.inr h'.inr).2 hf)]; exact (chk_ok k1.inr k2.inr).2 hk
  have C1 := checks_any f k A A' c c' C C' d d'
  rw [z] at C1
  have HC1 := Lib.hid (fun W r1 r2 r3 r4 => C1 W r1 r2 hc hc' r3 r4 hd hd')
  clear C1 z
  have e1 : f.q - k.q = f.q + (⟨!k.neg && decide (k.num ≠ []), k.num, k.den⟩ : F).q := by rw [turned_q, Rat.sub_eq_add_neg]
  have HP := Lib.hid (fun W r1 r2 r3 r4 => plus_any f ⟨!k.neg && decide (k.num ≠ []), k.num, k.den⟩ A A' c c' C C' d d' W r1 r2 hc hc' r3 r4 hd hd' hf (neg_ok hk))
  have HN := Lib.hid (fun W => turned_any k C C' d d' W k1.len)
  rw [e1]
  simp only at HP
  clear e1
  generalize f.q + (⟨!k.neg && decide (k.num ≠ []), k.num, k.den⟩ : F).q = r at *
  generalize (!k.neg && decide (k.num ≠ [])) = s at *
  obtain ⟨w0, e0, hK0⟩ := kp3 w 24 24 24 #[.bool f.neg, .slice A f.num.length c, .slice A' f.den.length c'] #[.bool k.neg, .slice C k.num.length d, .slice C' k.den.length d'] #[.bool false, .slice none 0 0, .slice none 0 0]
  have HK := Lib.hid hK0
  clear hK0
  go_enter Tryz.func8, Tryz.ntmps8
  go_wp2_with fail
  rw [← e0]
  clear e0
  obtain ⟨_, p0, p1, p2, q0, q1, q2⟩ := HK.out.six
  go_wp2_with fail
  refine (HC1.out w0 (h.below HK.out.low) (h'.below HK.out.low) (k1.below HK.out.low) (k2.below HK.out.low)).mono ?_
  rintro e w1 ⟨rfl, hB1⟩
  have HK := Lib.hid (HK.out.below hB1)
  clear hB1 p0 p1 p2 q0 q1 q2
  obtain ⟨_, p0, p1, p2, q0, q1, q2⟩ := HK.out.six
  go_wp2_with fail
  have HT := Lib.hid HK.out.two
  have hc0 : True := trivial
  have hc1 : True := trivial
  have hc2 : True := trivial
  have hf : True := trivial
  have HN' := Lib.hid (fun W => turned_any k C C' d d' W (k1.len))
  go_region_held3 (fun W => Kp w [(w.heap.size, 24, #[.bool f.neg, .slice A f.num.length c, .slice A' f.den.length c']), (w.heap.size + 1, 24, #[.bool k.neg, .slice C k.num.length d, .slice C' k.den.length d'])] [] W ∧ W.cell? ⟨w.heap.size, 0, none⟩ = some (.bool f.neg) ∧ W.cell? ⟨w.heap.size, 1, none⟩ = some (.slice A f.num.length c) ∧ W.cell? ⟨w.heap.size, 2, none⟩ = some (.slice A' f.den.length c') ∧ W.cell? ⟨w.heap.size + 1, 0, none⟩ = some (.bool k.neg) ∧ W.cell? ⟨w.heap.size + 1, 1, none⟩ = some (.slice C k.num.length d) ∧ W.cell? ⟨w.heap.size + 1, 2, none⟩ = some (.slice C' k.den.length d')) (first | exact HT.out.six | exact HT.out.drew.six | exact (HT.out.st3 (g := w.heap.size + 2) (by simp) (by simp) (by omega) _ _ _).six)
    (first | (go_at_call 27; (with_reducible refine (HN.out _).mono ?_); rintro e w2 ⟨rfl, hB⟩; (first | have HK := Lib.hid (HK.out.below hB) | have HK := Lib.hid (HK.out.drew.below hB)); have HT := Lib.hid HK.out.two; clear hB) | (go_at_call 26; (with_reducible refine (HP.out _ (h.below HK.out.low) (h'.below HK.out.low) (k1.below HK.out.low) (k2.below HK.out.low)).mono ?_); rintro e w3 ⟨v, rfl, ⟨C1, c1, C2, c2, hv, h1, h2⟩, hB⟩; have HG := Lib.hid HK.out.b2.lt; have HK := Lib.hid (HK.out.below hB); have HT := Lib.hid HK.out.two; have H1 := Lib.hid h1; have H2 := Lib.hid h2; have hc0 : w3.cell? ⟨w.heap.size + 2, 0, none⟩ = some (.bool false) := HK.out.b2.cell 0; have hc1 : w3.cell? ⟨w.heap.size + 2, 1, none⟩ = some (.slice none 0 0) := HK.out.b2.cell 1; have hc2 : w3.cell? ⟨w.heap.size + 2, 2, none⟩ = some (.slice none 0 0) := HK.out.b2.cell 2; have hf := HK.out.b2.frozen; clear h1 h2 hB; subst hv))
  go_wp2_with fail
  exact done_r _ _ C1 c1 C2 c2 w w3 (w.heap.size + 2) _ (by omega) HG.out HK.out.b2 HK.out.low H1.out H2.out (by
    intro w5 ha0 ha1 ha2 Q hQ
    exact bodyPost_ret (by simp [results, Tryz.results8, go_sem, ha0, ha1, ha2]) rfl hQ)

theorem Sub0_any (f k : F) (A A' : Option Addr) (c c' : Nat) (C C' : Option Addr) (d d' : Nat) (w : World) (h : Rd w A f.num) (h' : Rd w A' f.den) (hc : f.num.length ≤ c) (hc' : f.den.length ≤ c')
    (k1 : Rd w C k.num) (k2 : Rd w C' k.den) (hd : k.num.length ≤ d) (hd' : k.den.length ≤ d') :
    Calls Tryz.prog 8 #[.agg #[.bool f.neg, .slice A f.num.length c, .slice A' f.den.length c'], .agg #[.bool k.neg, .slice C k.num.length d, .slice C' k.den.length d']] w fun e w' =>
      ∃ v, e = .returned (.tuple #[v, .int .i64 (subR f k).2]) ∧ OwR w' w.heap.size v (subR f k).1 ∧ Below w.heap.size w w' := by
  by_cases hx : ck2 f k = 0
  · obtain ⟨hf, hk⟩ := (ck2_ok h.inr h'.inr k1.inr k2.inr).1 hx
    have e : subR f k = tell (f.q - k.q) := by unfold subR; rw [if_neg (by omega)]
    rw [e]
    exact Sub0_ok f k A A' c c' C C' d d' w h h' hc hc' k1 k2 hd hd' hf hk
  · have e : subR f k = (F.zero, ck2 f k) := by unfold subR; rw [if_pos hx]
    rw [e]
    exact Sub0_no f k A A' c c' C C' d d' w h h' hc hc' k1 k2 hd hd' hx
end Go.Proofs.YtbjclfmplndkcaaGreatDoor
