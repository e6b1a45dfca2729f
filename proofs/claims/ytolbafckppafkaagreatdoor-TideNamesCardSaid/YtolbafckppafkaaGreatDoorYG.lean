/-
  Stable texts joined: Ra, Rb, Rc, Re, Rw.
-/
import Derived.Test.YtolbafckppafkaaGreatDoorYF
/-
  PACKAGE ratio, FIRST PART: long, size, lowest, Small.
-/
set_option linter.unusedVariables false
set_option linter.unusedSimpArgs false
set_option linter.unnecessarySimpa false
namespace Go.Proofs.YtolbafckppafkaaGreatDoor
open Go.RowKit Pl

/-- a fraction as the program has it, over any words -/
def rv (neg : Bool) (A : Option Addr) (n c : Nat) (B : Option Addr) (m d : Nat) : Value := .agg #[.bool neg, .slice A n c, .slice B m d]
/-- a fraction in fresh memory -/
def OwR (w : World) (base : Nat) (v : Value) (f : F) : Prop :=
  ∃ A c B d, v = .agg #[.bool f.neg, .slice A f.num.length c, .slice B f.den.length d] ∧ Ow w base A c f.num ∧ Ow w base B d f.den
theorem OwR.below {w w' : World} {base : Nat} {v : Value} {f : F} (h : OwR w base v f) (hb : Below w.heap.size w w') : OwR w' base v f := by
  obtain ⟨A, c, B, d, rfl, h1, h2⟩ := h
  exact ⟨A, c, B, d, rfl, h1.below hb, h2.below hb⟩
theorem OwR.mono {w : World} {base base' : Nat} {v : Value} {f : F} (h : OwR w base v f) (hb : base' ≤ base) : OwR w base' v f := by
  obtain ⟨A, c, B, d, rfl, h1, h2⟩ := h
  exact ⟨A, c, B, d, rfl, h1.mono hb, h2.mono hb⟩
theorem OwR.zero (w : World) (base : Nat) : OwR w base (.agg #[.bool false, .slice none 0 0, .slice none 0 0]) F.zero :=
  ⟨none, 0, none, 0, rfl, Ow.nil _ _, Ow.nil _ _⟩

/-- a struct of three cells is laid over a block of three -/
def st3 (w : World) (g : Nat) (u v x : Value) : World := ((w.setCell ⟨g, 0, none⟩ u).setCell ⟨g, 1, none⟩ v).setCell ⟨g, 2, none⟩ x
theorem st3_blk {w : World} {g : Nat} {t : TypeId} {a b c : Value} (h : Blk w g t #[a, b, c]) (u v x : Value) : Blk (st3 w g u v x) g t #[u, v, x] :=
  ((h.set_ 0 u).set_ 1 v).set_ 2 x
theorem st3_below {w w' : World} {g : Nat} {B : Nat} (h : Below B w w') (hg : B ≤ g) (u v x : Value) : Below B w (st3 w' g u v x) :=
  ((h.setCell (p := ⟨g, 0, none⟩) hg u).setCell (p := ⟨g, 1, none⟩) hg v).setCell (p := ⟨g, 2, none⟩) hg x
theorem Ow.setFar {w : World} {base g c : Nat} {A : Option Addr} {l : List Int} (h : Ow w base A c l) (hg : g < base) (i : Nat) (u : Value) : Ow (w.setCell ⟨g, i, none⟩ u) base A c l := by
  rcases h with h | ⟨b, rfl, hb, h⟩
  · exact .inl h
  · exact .inr ⟨b, rfl, hb, h.far (p := ⟨g, i, none⟩) (by show b ≠ g; omega) u⟩
theorem Ow.st3 {w : World} {base g c : Nat} {A : Option Addr} {l : List Int} (h : Ow w base A c l) (hg : g < base) (u v x : Value) : Ow (st3 w g u v x) base A c l :=
  ((h.setFar hg 0 u).setFar hg 1 v).setFar hg 2 x

theorem rlong_any (A : Option Addr) (c n : Nat) (w : World) (hn : n ≤ 9223372036854775807) :
    Calls Tryz.prog 62 #[.slice A n c] w fun e w' => e = .returned (.bool (decide (2048 < n))) ∧ w = w' := by
  by_cases h : 2048 < n
  all_goals
    go_enter Tryz.func62, Tryz.ntmps62
    go_wp2
    go_ret
    first | (simp [h]; done) | (simp [h]; omega)

theorem size_any (n : Int) (w : World) (h1 : -9223372036854775808 ≤ n) (h2 : n ≤ 9223372036854775807) :
    Calls Tryz.prog 53 #[.int .i64 n] w fun e w' =>
      ∃ B d, e = .returned (.slice B (words n.natAbs).length d) ∧ Ow w' w.heap.size B d (words n.natAbs) ∧ Below w.heap.size w w' := by
  obtain ⟨x, hx⟩ : ∃ x, x = n.natAbs := ⟨_, rfl⟩
  have hx1 : x < 18446744073709551616 := by omega
  rw [← hx]
  have C1 := Lib.hid (Of_any x w hx1)
  by_cases hn : n < 0
  · have e : IntKind.u64.wrap (-IntKind.u64.wrap n) = (x : Int) := by simp [IntKind.wrap, IntKind.signed, IntKind.bits]; omega
    clear hx
    go_enter Tryz.func53, Tryz.ntmps53
    go_wp2_with fail
    refine C1.out.mono ?_
    rintro e w1 ⟨B, d, rfl, hO, hB⟩
    go_wp2
    go_ret
    exact ⟨_, _, rfl, hO, hB⟩
  · have e : n = (x : Int) := by omega
    clear hx
    subst e
    go_enter Tryz.func53, Tryz.ntmps53
    go_wp2_with fail
    refine C1.out.mono ?_
    rintro e w1 ⟨B, d, rfl, hO, hB⟩
    go_wp2
    go_ret
    exact ⟨_, _, rfl, hO, hB⟩

theorem words_le {a b k : Nat} (h : a ≤ b) (hk : (words b).length ≤ k) : (words a).length ≤ k := words_len.2 (Nat.lt_of_le_of_lt h (words_len.1 hk))
theorem tell_low (neg : Bool) (n d : Nat) (hd : d ≠ 0) : tell (mkRat (sg neg n) d) = if (words (n / n.gcd d)).length ≤ 2048 ∧ (words (d / n.gcd d)).length ≤ 2048 then
      (⟨neg && decide (0 < (words (n / n.gcd d)).length), words (n / n.gcd d), words (d / n.gcd d)⟩, 0) else (F.zero, 3) := by
  unfold tell
  rw [lowest_of neg n d hd]
  have e1 : fits (mkRat (sg neg n) d) ↔ (words (n / n.gcd d)).length ≤ 2048 ∧ (words (d / n.gcd d)).length ≤ 2048 := by
    unfold fits
    rw [mk_num _ _ _ hd, mk_den _ _ _ hd, sg_natAbs]
  have e2 : decide (n ≠ 0) = decide (0 < (words (n / n.gcd d)).length) := by
    have h2 : 0 < n.gcd d := Nat.gcd_pos_of_pos_right _ (by omega)
    have h1 : n.gcd d ∣ n := Nat.gcd_dvd_left n d
    rw [decide_eq_decide, List.length_pos_iff, Ne, Ne, words_eq_nil, Nat.div_eq_zero_iff_lt h2]
    constructor
    · intro h k; have := Nat.le_of_dvd (by omega) h1; omega
    · rintro h rfl; exact h h2
  rw [e2]
  by_cases h : fits (mkRat (sg neg n) d)
  · rw [if_pos h, if_pos (e1.1 h)]
  · rw [if_neg h, if_neg (fun k => h (e1.2 k))]
theorem done_3 {P : Program} {fn : Func} {fr : Act} (s : Bool) (n d : List Int) (B1 : Option Addr) (b1 : Nat) (B2 : Option Addr) (b2 : Nat) (w w3 : World)
    (hk3 : Blk w3 w.heap.size 27 #[.bool false, .slice none 0 0, .slice none 0 0]) (hb3 : Below w.heap.size w w3)
    (hn : Ow (st3 w3 w.heap.size (.bool s) (.slice B1 n.length b1) (.slice B2 d.length b2)) (w.heap.size + 1) B1 b1 n) (hd : Ow (st3 w3 w.heap.size (.bool s) (.slice B1 n.length b1) (.slice B2 d.length b2)) (w.heap.size + 1) B2 b2 d)
    (H : ∀ w4 : World, w4.cell? ⟨w.heap.size, 0, none⟩ = some (.bool s) → w4.cell? ⟨w.heap.size, 1, none⟩ = some (.slice B1 n.length b1) → w4.cell? ⟨w.heap.size, 2, none⟩ = some (.slice B2 d.length b2) → ∀ Q : Ending → World → Prop,
      Q (.returned (.tuple #[.agg #[.bool s, .slice B1 n.length b1, .slice B2 d.length b2], .int .i64 0])) w4 → bodyPost P fn Q .ret fr w4) :
    bodyPost P fn (fun e w' => ∃ v, e = .returned (.tuple #[v, .int .i64 0]) ∧ OwR w' w.heap.size v ⟨s, n, d⟩ ∧ Below w.heap.size w w') .ret fr (st3 w3 w.heap.size (.bool s) (.slice B1 n.length b1) (.slice B2 d.length b2)) := by
  have hk4 := st3_blk hk3 (.bool s) (.slice B1 n.length b1) (.slice B2 d.length b2)
  have hb4 := st3_below hb3 (Nat.le_refl _) (.bool s) (.slice B1 n.length b1) (.slice B2 d.length b2)
  refine H _ (hk4.cell 0) (hk4.cell 1) (hk4.cell 2) _ ⟨_, rfl, ⟨B1, b1, B2, b2, rfl, hn.mono (by omega), hd.mono (by omega)⟩, hb4⟩

set_option maxHeartbeats 1000000 in
theorem lowest_any (neg : Bool) (A A' : Option Addr) (c c' : Nat) (l m : List Int) (w : World) (h : Rd w A l) (h' : Rd w A' m) (hl : Norm l) (hm : Norm m) (hl8 : l.length ≤ 8190) (hm8 : m.length ≤ 8190) (hc : l.length ≤ c) (hc' : m.length ≤ c') (h0 : m ≠ []) :
    Calls Tryz.prog 52 #[.bool neg, .slice A l.length c, .slice A' m.length c'] w fun e w' =>
      ∃ v, e = .returned (.tuple #[v, .int .i64 (tell (mkRat (sg neg (val l)) (val m))).2]) ∧ OwR w' w.heap.size v (tell (mkRat (sg neg (val l)) (val m))).1 ∧ Below w.heap.size w w' := by
  have hd : val m ≠ 0 := fun e => h0 ((val_eq_zero hm).1 e)
  have hT : tell (mkRat (sg neg (val l)) (val m)) = if (words (val l / (val l).gcd (val m))).length ≤ 2048 ∧ (words (val m / (val l).gcd (val m))).length ≤ 2048 then
      (⟨neg && decide (0 < (words (val l / (val l).gcd (val m))).length), words (val l / (val l).gcd (val m)), words (val m / (val l).gcd (val m))⟩, 0) else (F.zero, 3) := tell_low neg _ _ hd
  have C1 : ∀ (W : World), Rd W A l → Rd W A' m → _ := fun W r r' => Gcd_any A A' c c' l m W r r' hl hm hl8 hm8 hc hc'
  rw [hT]
  clear hT
  obtain ⟨g, hg⟩ : ∃ g, g = (val l).gcd (val m) := ⟨_, rfl⟩
  have hgv : val (words g) = g := val_words g
  have hgn : Norm (words g) := words_norm g
  have hg0 : words g ≠ [] := by
    intro e
    have := words_eq_nil.1 e
    rw [hg] at this
    exact hd (Nat.eq_zero_of_gcd_eq_zero_right this)
  have hgl : (words g).length ≤ 8190 := by
    rw [hg]
    exact words_le (Nat.le_of_dvd (by omega) (Nat.gcd_dvd_right _ _)) (by rw [words_val hm]; exact hm8)
  rw [← hg] at C1 ⊢
  clear hg
  obtain ⟨G, hG⟩ : ∃ G, G = words g := ⟨_, rfl⟩
  rw [← hG] at C1 hgv hgn hg0 hgl
  have D1 : ∀ (W : World) (B : Option Addr) (d : Nat), Rd W A l → Rd W B G → G.length ≤ d → _ := fun W B d r r' hd => DivMod_any A B c d l G W r r' hl hgn hl8 hgl hc hd hg0
  have D2 : ∀ (W : World) (B : Option Addr) (d : Nat), Rd W A' m → Rd W B G → G.length ≤ d → _ := fun W B d r r' hd => DivMod_any A' B c' d m G W r r' hm hgn hm8 hgl hc' hd hg0
  rw [hgv] at D1 D2
  have HC := Lib.hid C1
  have HD1 := Lib.hid D1
  have HD2 := Lib.hid D2
  clear C1 D1 D2 hG hgv hgn hg0 hgl
  obtain ⟨n, hn⟩ : ∃ n, n = words (val l / g) := ⟨_, rfl⟩
  obtain ⟨d, hd'⟩ : ∃ d, d = words (val m / g) := ⟨_, rfl⟩
  rw [← hn, ← hd']
  rw [← hn] at HD1
  rw [← hd'] at HD2
  clear hn hd'
  obtain ⟨s, hs⟩ : ∃ s, s = (neg && decide (0 < n.length)) := ⟨_, rfl⟩
  rw [← hs]
  have hs' : (neg = false ∧ s = false) ∨ (neg = true ∧ 0 < n.length ∧ s = true) ∨ (neg = true ∧ ¬ 0 < n.length ∧ s = false) := by
    rw [hs]; by_cases h3 : 0 < n.length <;> cases neg <;> simp [h3]
  have HS := Lib.hid hs'
  clear hs hs'
  go_enter Tryz.func52, Tryz.ntmps52
  go_wp2_with fail
  have hb0 : Below w.heap.size w (w.alloc (Obj.cells #[Value.bool false, Value.slice none 0 0, Value.slice none 0 0] 27)) := (Below.refl _ _).alloc (Nat.le_refl _) _
  have hk0 := Blk.new w 27 #[Value.bool false, Value.slice none 0 0, Value.slice none 0 0]
  obtain ⟨w0, hw0⟩ : ∃ w0, w0 = w.alloc (Obj.cells #[Value.bool false, Value.slice none 0 0, Value.slice none 0 0] 27) := ⟨_, rfl⟩
  rw [← hw0] at hb0 hk0 ⊢
  clear hw0
  refine (HC.out w0 (h.below hb0) (h'.below hb0)).mono ?_
  rintro e w1 ⟨B, b, rfl, hO, hB⟩
  have HO := Lib.hid hO
  have hk1 := hk0.below hB hk0.lt
  have hb1 := below_trans hb0 hB
  clear hO hB hk0 hb0
  go_wp2_with fail
  refine (HD1.out w1 B b (h.below hb1) HO.out.rd HO.out.le).mono ?_
  rintro e w2 ⟨B1, b1, B1', b1', rfl, hO1, hO1', hB⟩
  have HN := Lib.hid hO1
  have hk1' := Lib.hid hk1.lt
  have hszB := Lib.hid (Nat.le_refl w1.heap.size)
  have hszC := Lib.hid hB.size
  have hk2 := hk1.below hB hk1.lt
  have hG2 := HO.out.below hB
  have hb2 := below_trans hb1 hB
  have HB1 := Lib.hid hb1
  clear hO1 hO1' hB hk1 hb1
  go_wp2_with fail
  refine (HD2.out w2 B b (h'.below hb2) hG2.rd hG2.le).mono ?_
  rintro e w3 ⟨B2, b2, B2', b2', rfl, hO1, hO1', hB⟩
  have HN := Lib.hid (HN.out.below hB)
  have HD := Lib.hid hO1
  have hk3 := hk2.below hB hk2.lt
  have hb3 := below_trans hb2 hB
  have ln := HN.out.rd.len
  have ld := HD.out.rd.len
  have L1 := Lib.hid (rlong_any (some ⟨0, 0, none⟩) 0 0 w (by omega))
  clear hO1 hO1' hB hk2 hb2 hG2 HB1
  have hc0 : w3.cell? ⟨w.heap.size, 0, none⟩ = some (.bool false) := hk3.cell 0
  have hc1 : w3.cell? ⟨w.heap.size, 1, none⟩ = some (.slice none 0 0) := hk3.cell 1
  have hc2 : w3.cell? ⟨w.heap.size, 2, none⟩ = some (.slice none 0 0) := hk3.cell 2
  have hf := hk3.frozen
  by_cases h1 : 2048 < n.length
  · go_wp2_with (go_at_call 62; refine (rlong_any _ _ _ _ (by omega)).mono ?_; rintro e w' ⟨rfl, rfl⟩)
    have hk4 := st3_blk hk3 (.bool false) (.slice none 0 0) (.slice none 0 0)
    have hb4 := st3_below hb3 (Nat.le_refl _) (.bool false) (.slice none 0 0) (.slice none 0 0)
    show bodyPost _ _ _ _ _ (st3 w3 w.heap.size (.bool false) (.slice none 0 0) (.slice none 0 0))
    generalize st3 w3 w.heap.size (.bool false) (.slice none 0 0) (.slice none 0 0) = w4 at hk4 hb4 ⊢
    have ha0 : w4.cell? ⟨w.heap.size, 0, none⟩ = some (.bool false) := hk4.cell 0
    have ha1 : w4.cell? ⟨w.heap.size, 1, none⟩ = some (.slice none 0 0) := hk4.cell 1
    have ha2 : w4.cell? ⟨w.heap.size, 2, none⟩ = some (.slice none 0 0) := hk4.cell 2
    refine bodyPost_ret (v := .tuple #[.agg #[.bool false, .slice none 0 0, .slice none 0 0], .int .i64 3]) (by simp [results, Tryz.results52, go_sem, ha0, ha1, ha2]) rfl ⟨_, rfl, OwR.zero _ _, hb4⟩
  · by_cases h2 : 2048 < d.length
    · go_wp2_with (go_at_call 62; refine (rlong_any _ _ _ _ (by omega)).mono ?_; rintro e w' ⟨rfl, rfl⟩)
      have hk4 := st3_blk hk3 (.bool false) (.slice none 0 0) (.slice none 0 0)
      have hb4 := st3_below hb3 (Nat.le_refl _) (.bool false) (.slice none 0 0) (.slice none 0 0)
      show bodyPost _ _ _ _ _ (st3 w3 w.heap.size (.bool false) (.slice none 0 0) (.slice none 0 0))
      generalize st3 w3 w.heap.size (.bool false) (.slice none 0 0) (.slice none 0 0) = w4 at hk4 hb4 ⊢
      have ha0 : w4.cell? ⟨w.heap.size, 0, none⟩ = some (.bool false) := hk4.cell 0
      have ha1 : w4.cell? ⟨w.heap.size, 1, none⟩ = some (.slice none 0 0) := hk4.cell 1
      have ha2 : w4.cell? ⟨w.heap.size, 2, none⟩ = some (.slice none 0 0) := hk4.cell 2
      refine bodyPost_ret (v := .tuple #[.agg #[.bool false, .slice none 0 0, .slice none 0 0], .int .i64 3]) (by simp [results, Tryz.results52, go_sem, ha0, ha1, ha2]) rfl ⟨_, rfl, OwR.zero _ _, hb4⟩
    · have hs' := HS.out
      clear HS
      have hon := HN.out.mono (base' := w.heap.size + 1) (Nat.lt_of_lt_of_le hk1'.out hszB.out)
      have hod := HD.out.mono (base' := w.heap.size + 1) (Nat.lt_of_lt_of_le hk1'.out hszC.out)
      have HON := Lib.hid (fun s => hon.st3 (g := w.heap.size) (by omega) (.bool s) (.slice B1 n.length b1) (.slice B2 d.length b2))
      have HOD := Lib.hid (fun s => hod.st3 (g := w.heap.size) (by omega) (.bool s) (.slice B1 n.length b1) (.slice B2 d.length b2))
      clear hon hod
      rcases hs' with ⟨rfl, rfl⟩ | ⟨rfl, h3, rfl⟩ | ⟨rfl, h3, rfl⟩
      all_goals
        go_wp2_with (go_at_call 62; refine (rlong_any _ _ _ _ (by omega)).mono ?_; rintro e w' ⟨rfl, rfl⟩)
      · exact done_3 false n d B1 b1 B2 b2 w w3 hk3 hb3 (HON.out _) (HOD.out _) (by
          intro w4 ha0 ha1 ha2 Q hQ
          exact bodyPost_ret (by simp [results, Tryz.results52, go_sem, ha0, ha1, ha2]) rfl hQ)
      · exact done_3 true n d B1 b1 B2 b2 w w3 hk3 hb3 (HON.out _) (HOD.out _) (by
          intro w4 ha0 ha1 ha2 Q hQ
          exact bodyPost_ret (by simp [results, Tryz.results52, go_sem, ha0, ha1, ha2]) rfl hQ)
      · exact done_3 false n d B1 b1 B2 b2 w w3 hk3 hb3 (HON.out _) (HOD.out _) (by
          intro w4 ha0 ha1 ha2 Q hQ
          exact bodyPost_ret (by simp [results, Tryz.results52, go_sem, ha0, ha1, ha2]) rfl hQ)
end Go.Proofs.YtolbafckppafkaaGreatDoor

/-
  PACKAGE ratio, SECOND PART: Small, Check.
-/
set_option linter.unusedVariables false
set_option linter.unusedSimpArgs false
set_option linter.unnecessarySimpa false
namespace Go.Proofs.YtolbafckppafkaaGreatDoor
open Go.RowKit Pl

theorem small_len {x : Nat} (h : x < 18446744073709551616) : (words x).length ≤ 2 := words_len.2 h
/-- what a callee told is told on: laid into the result's own block -/
theorem done_r {P : Program} {fn : Func} {fr : Act} (f : F) (er : Int) (B1 : Option Addr) (b1 : Nat) (B2 : Option Addr) (b2 : Nat) (w w3 : World) (g base : Nat) (hg : w.heap.size ≤ g) (hgb : g < base)
    {a b c : Value} (hk3 : Blk w3 g 27 #[a, b, c]) (hb3 : Below w.heap.size w w3) (hn : Ow w3 base B1 b1 f.num) (hd : Ow w3 base B2 b2 f.den)
    (H : ∀ w4 : World, w4.cell? ⟨g, 0, none⟩ = some (.bool f.neg) → w4.cell? ⟨g, 1, none⟩ = some (.slice B1 f.num.length b1) → w4.cell? ⟨g, 2, none⟩ = some (.slice B2 f.den.length b2) → ∀ Q : Ending → World → Prop,
      Q (.returned (.tuple #[.agg #[.bool f.neg, .slice B1 f.num.length b1, .slice B2 f.den.length b2], .int .i64 er])) w4 → bodyPost P fn Q .ret fr w4) :
    bodyPost P fn (fun e w' => ∃ v, e = .returned (.tuple #[v, .int .i64 er]) ∧ OwR w' w.heap.size v f ∧ Below w.heap.size w w') .ret fr (st3 w3 g (.bool f.neg) (.slice B1 f.num.length b1) (.slice B2 f.den.length b2)) := by
  have hk4 := st3_blk hk3 (.bool f.neg) (.slice B1 f.num.length b1) (.slice B2 f.den.length b2)
  have hb4 := st3_below hb3 hg (.bool f.neg) (.slice B1 f.num.length b1) (.slice B2 f.den.length b2)
  refine H _ (hk4.cell 0) (hk4.cell 1) (hk4.cell 2) _ ⟨_, rfl, ⟨B1, b1, B2, b2, rfl, (hn.st3 hgb _ _ _).mono (by omega), (hd.st3 hgb _ _ _).mono (by omega)⟩, hb4⟩

set_option maxHeartbeats 1000000 in
theorem Small_any (n d : Int) (w : World) (hn1 : -9223372036854775808 ≤ n) (hn2 : n ≤ 9223372036854775807) (hd1 : -9223372036854775808 ≤ d) (hd2 : d ≤ 9223372036854775807) (h0 : d ≠ 0) :
    Calls Tryz.prog 26 #[.int .i64 n, .int .i64 d] w fun e w' =>
      ∃ v, e = .returned (.tuple #[v, .int .i64 (tell (mkRat (sg (decide (n < 0) != decide (d < 0)) n.natAbs) d.natAbs)).2]) ∧ OwR w' w.heap.size v (tell (mkRat (sg (decide (n < 0) != decide (d < 0)) n.natAbs) d.natAbs)).1 ∧ Below w.heap.size w w' := by
  have hdz : words d.natAbs ≠ [] := by intro e; have := words_eq_nil.1 e; omega
  have l1 : (words n.natAbs).length ≤ 2 := small_len (by omega)
  have l2 : (words d.natAbs).length ≤ 2 := small_len (by omega)
  have n1 := words_norm n.natAbs
  have n2 := words_norm d.natAbs
  have L : ∀ (neg : Bool) (A A' : Option Addr) (c c' : Nat) (w : World) , _ → _ → _ → _ → _ := fun neg A A' c c' w h h' hc hc' => lowest_any neg A A' c c' (words n.natAbs) (words d.natAbs) w h h' n1 n2 (by omega) (by omega) hc hc' hdz
  rw [val_words, val_words] at L
  have HL := Lib.hid L
  have S1 := Lib.hid (fun W => size_any n W hn1 hn2)
  have S2 := Lib.hid (fun W => size_any d W hd1 hd2)
  clear L hdz n1 n2
  obtain ⟨X, hX⟩ : ∃ X, X = words n.natAbs := ⟨_, rfl⟩
  obtain ⟨Y, hY⟩ : ∃ Y, Y = words d.natAbs := ⟨_, rfl⟩
  obtain ⟨x, hx⟩ : ∃ x, x = n.natAbs := ⟨_, rfl⟩
  obtain ⟨y, hy⟩ : ∃ y, y = d.natAbs := ⟨_, rfl⟩
  rw [← hX] at HL S1 l1
  rw [← hY] at HL S2 l2
  rw [← hx, ← hy] at HL ⊢
  clear hX hY hx hy
  have hd0 : (d == 0) = false := beq_eq_false_iff_ne.2 h0
  go_enter Tryz.func26, Tryz.ntmps26
  go_wp2_with fail
  have hb0 : Below w.heap.size w (w.alloc (Obj.cells #[Value.bool false, Value.slice none 0 0, Value.slice none 0 0] 27)) := (Below.refl _ _).alloc (Nat.le_refl _) _
  have hk0 := Blk.new w 27 #[Value.bool false, Value.slice none 0 0, Value.slice none 0 0]
  obtain ⟨w0, hw0⟩ : ∃ w0, w0 = w.alloc (Obj.cells #[Value.bool false, Value.slice none 0 0, Value.slice none 0 0] 27) := ⟨_, rfl⟩
  rw [← hw0] at hb0 hk0 ⊢
  clear hw0
  refine (S1.out w0).mono ?_
  rintro e w1 ⟨B, b, rfl, hO, hB⟩
  have HO := Lib.hid hO
  have hk1 := hk0.below hB hk0.lt
  have hb1 := below_trans hb0 hB
  clear hO hB hk0 hb0
  go_wp2_with fail
  refine (S2.out w1).mono ?_
  rintro e w2 ⟨B2, b2, rfl, hO2, hB⟩
  have HO1 := Lib.hid (HO.out.below hB)
  have HO2 := Lib.hid hO2
  have hk2 := hk1.below hB hk1.lt
  have hb2 := below_trans hb1 hB
  clear hO2 hB hk1 hb1 HO
  go_wp2_with fail
  refine (HL.out _ B B2 b b2 w2 HO1.out.rd HO2.out.rd HO1.out.le HO2.out.le).mono ?_
  rintro e w3 ⟨v, rfl, ⟨C1, c1, C2, c2, hv, h1, h2⟩, hB⟩
  have hk3 := hk2.below hB hk2.lt
  have hb3 := below_trans hb2 hB
  have hgb := Lib.hid hk2.lt
  clear hB hk2 hb2
  have H1 := Lib.hid h1
  have H2 := Lib.hid h2
  clear h1 h2
  subst hv
  have hc0 : w3.cell? ⟨w.heap.size, 0, none⟩ = some (.bool false) := hk3.cell 0
  have hc1 : w3.cell? ⟨w.heap.size, 1, none⟩ = some (.slice none 0 0) := hk3.cell 1
  have hc2 : w3.cell? ⟨w.heap.size, 2, none⟩ = some (.slice none 0 0) := hk3.cell 2
  have hf := hk3.frozen
  go_wp2_with fail
  exact done_r _ _ C1 c1 C2 c2 w w3 w.heap.size w2.heap.size (Nat.le_refl _) hgb.out hk3 hb3 H1.out H2.out (by
    intro w4 ha0 ha1 ha2 Q hQ
    exact bodyPost_ret (by simp [results, Tryz.results26, go_sem, ha0, ha1, ha2]; rfl) rfl hQ)
end Go.Proofs.YtolbafckppafkaaGreatDoor

/-
  PACKAGE ratio, THIRD PART: Check, checks.
-/
set_option linter.unusedVariables false
set_option linter.unusedSimpArgs false
set_option linter.unnecessarySimpa false
namespace Go.Proofs.YtolbafckppafkaaGreatDoor
open Go.RowKit Pl

/-- ratio.Check -/
def chk (a : F) : Int :=
  if 2048 < a.num.length then 3 else if 2048 < a.den.length then 3 else
  if natChk a.num ≠ 0 then 11 else if natChk a.den ≠ 0 then 11 else if a.den.length = 0 then 11 else
  if a.num.length = 0 ∧ a.neg = true then 11 else if (val a.num).gcd (val a.den) = 1 then 0 else 11
theorem chk_ok {a : F} (hn : InR a.num) (hd : InR a.den) : chk a = 0 ↔ a.ok := by
  unfold chk F.ok
  rw [← List.length_pos_iff]
  by_cases h1 : 2048 < a.num.length
  · rw [if_pos h1]; constructor
    · intro h; omega
    · intro h; omega
  rw [if_neg h1]
  by_cases h2 : 2048 < a.den.length
  · rw [if_pos h2]; constructor
    · intro h; omega
    · intro h; omega
  rw [if_neg h2]
  by_cases h3 : natChk a.num ≠ 0
  · rw [if_pos h3]; constructor
    · intro h; omega
    · intro h; exact absurd ((natChk_ok hn).2 ⟨by omega, h.1⟩) h3
  rw [if_neg h3]
  by_cases h4 : natChk a.den ≠ 0
  · rw [if_pos h4]; constructor
    · intro h; omega
    · intro h; exact absurd ((natChk_ok hd).2 ⟨by omega, h.2.1⟩) h4
  rw [if_neg h4]
  have k3 := (natChk_ok hn).1 (by omega)
  have k4 := (natChk_ok hd).1 (by omega)
  by_cases h5 : a.den.length = 0
  · rw [if_pos h5]; constructor
    · intro h; omega
    · intro h; have := h.2.2.2.2.2.1; omega
  rw [if_neg h5]
  by_cases h6 : a.num.length = 0 ∧ a.neg = true
  · rw [if_pos h6]; constructor
    · intro h; omega
    · intro h; have := h.2.2.2.2.2.2 (List.eq_nil_of_length_eq_zero h6.1); rw [h6.2] at this; cases this
  rw [if_neg h6]
  have k6 : a.num = [] → a.neg = false := by
    intro h; cases hb : a.neg
    · rfl
    · exact absurd ⟨by rw [h]; rfl, hb⟩ h6
  by_cases h7 : (val a.num).gcd (val a.den) = 1
  · rw [if_pos h7]; exact ⟨fun _ => ⟨k3.2, k4.2, by omega, by omega, h7, by omega, k6⟩, fun _ => rfl⟩
  · rw [if_neg h7]; constructor
    · intro h; omega
    · intro h; exact absurd h.2.2.2.2.1 h7

/-- a comparison with a list of the one word 1, laid just ahead -/
theorem cmp1_any (B : Option Addr) (b g : Nat) (W : List Int) (w1 : World) (h : Rd w1 B W) (hb : W.length ≤ b) (hv : val W = g) :
    Calls Tryz.prog 65 #[.slice B W.length b, .slice (some { block := w1.heap.size, off := 0 }) 1 1] (w1.alloc (Obj.cells #[.int .u32 1] 43)) fun e w' =>
      e = .returned (.int .i64 (cmpN g 1)) ∧ Below w1.heap.size w1 w' := by
  have hb1 : Below w1.heap.size w1 (w1.alloc (Obj.cells #[.int .u32 1] 43)) := (Below.refl _ _).alloc (Nat.le_refl _) _
  have hr : InR [1] := by intro x hx; simp only [List.mem_singleton] at hx; omega
  have hK : Bw (w1.alloc (.cells (cellsOf [1]) 43)) w1.heap.size 1 [1] := Bw.of_blk (Blk.new _ _ _) hr (by simp)
  refine (Compare_any B _ b 1 W [1] _ (h.below hb1) hb hK.rd (Nat.le_refl _)).mono ?_
  rintro e w' ⟨rfl, n, rfl⟩
  have h1 : val [1] = 1 := rfl
  rw [hv, h1]
  exact ⟨rfl, below_drewN hb1 n⟩

set_option maxHeartbeats 1000000 in
theorem rCheck_any (f : F) (A A' : Option Addr) (c c' : Nat) (w : World) (h : Rd w A f.num) (h' : Rd w A' f.den) (hc : f.num.length ≤ c) (hc' : f.den.length ≤ c') :
    Calls Tryz.prog 33 #[.agg #[.bool f.neg, .slice A f.num.length c, .slice A' f.den.length c']] w fun e w' =>
      e = .returned (.int .i64 (chk f)) ∧ Below w.heap.size w w' := by
  obtain ⟨neg, l, m⟩ := f
  unfold chk
  simp only at h h' hc hc' ⊢
  have hl := h.len
  have hm := h'.len
  by_cases h1 : 2048 < l.length
  · rw [if_pos h1]
    go_enter Tryz.func33, Tryz.ntmps33
    go_wp2_with (go_at_call 62; refine (rlong_any _ _ _ _ (by omega)).mono ?_; rintro e w' ⟨rfl, rfl⟩)
    go_ret
    exact ⟨rfl, (Below.refl _ _).alloc (Nat.le_refl _) _⟩
  rw [if_neg h1]
  by_cases h2 : 2048 < m.length
  · rw [if_pos h2]
    go_enter Tryz.func33, Tryz.ntmps33
    go_wp2_with (go_at_call 62; refine (rlong_any _ _ _ _ (by omega)).mono ?_; rintro e w' ⟨rfl, rfl⟩)
    go_ret
    exact ⟨rfl, (Below.refl _ _).alloc (Nat.le_refl _) _⟩
  rw [if_neg h2]
  have hb0 : Below w.heap.size w (w.alloc (Obj.cells #[.bool neg, .slice A l.length c, .slice A' m.length c'] 27)) := (Below.refl _ _).alloc (Nat.le_refl _) _
  have K1 := Lib.hid (Check_any A c l _ (h.below hb0))
  have K2 := Lib.hid (Check_any A' c' m _ (h'.below hb0))
  have N1 : natChk l = 0 → Norm l := fun e => ((natChk_ok h.inr).1 e).2
  have N2 : natChk m = 0 → Norm m := fun e => ((natChk_ok h'.inr).1 e).2
  generalize natChk l = p at *
  generalize natChk m = q at *
  by_cases h3 : p ≠ 0
  · rw [if_pos h3]
    have hp : (p != 0) = true := bne_iff_ne.2 h3
    clear N1 N2
    go_enter Tryz.func33, Tryz.ntmps33
    go_wp2_with (first | (go_at_call 62; refine (rlong_any _ _ _ _ (by omega)).mono ?_; rintro e w' ⟨rfl, rfl⟩) | ((with_reducible refine K1.out.mono ?_); rintro e w' ⟨rfl, rfl⟩))
    go_ret
    exact ⟨rfl, hb0⟩
  rw [if_neg h3]
  have hp0 : p = 0 := by omega
  have L := N1 hp0
  subst hp0
  clear N1 h3
  by_cases h4 : q ≠ 0
  · rw [if_pos h4]
    have hp : (q != 0) = true := bne_iff_ne.2 h4
    clear N2 L
    go_enter Tryz.func33, Tryz.ntmps33
    go_wp2_with (first | (go_at_call 62; refine (rlong_any _ _ _ _ (by omega)).mono ?_; rintro e w' ⟨rfl, rfl⟩) | ((with_reducible refine K1.out.mono ?_); rintro e w' ⟨rfl, rfl⟩) | ((with_reducible refine K2.out.mono ?_); rintro e w' ⟨rfl, rfl⟩))
    go_ret
    exact ⟨rfl, hb0⟩
  rw [if_neg h4]
  have hq0 : q = 0 := by omega
  have M := N2 hq0
  subst hq0
  clear N2 h4
  have HL := Lib.hid L
  have HM := Lib.hid M
  clear L M
  by_cases h5 : m.length = 0
  · rw [if_pos h5]
    have hp : ((m.length : Int) == 0) = true := by rw [h5]; rfl
    clear h5
    go_enter Tryz.func33, Tryz.ntmps33
    go_wp2_with (first | (go_at_call 62; refine (rlong_any _ _ _ _ (by omega)).mono ?_; rintro e w' ⟨rfl, rfl⟩) | ((with_reducible refine K1.out.mono ?_); rintro e w' ⟨rfl, rfl⟩) | ((with_reducible refine K2.out.mono ?_); rintro e w' ⟨rfl, rfl⟩))
    go_ret
    exact ⟨rfl, hb0⟩
  rw [if_neg h5]
  have hm0 : ((m.length : Int) == 0) = false := beq_eq_false_iff_ne.2 (by omega)
  by_cases h6 : l.length = 0 ∧ neg = true
  · rw [if_pos h6]
    have hl0 : ((l.length : Int) == 0) = true := by rw [h6.1]; rfl
    have hn0 := h6.2
    clear h6 h5
    subst hn0
    go_enter Tryz.func33, Tryz.ntmps33
    go_wp2_with (first | (go_at_call 62; refine (rlong_any _ _ _ _ (by omega)).mono ?_; rintro e w' ⟨rfl, rfl⟩) | ((with_reducible refine K1.out.mono ?_); rintro e w' ⟨rfl, rfl⟩) | ((with_reducible refine K2.out.mono ?_); rintro e w' ⟨rfl, rfl⟩))
    go_ret
    exact ⟨rfl, hb0⟩
  rw [if_neg h6]
  have h6' : (((l.length : Int) == 0) = true ∧ neg = false) ∨ ((l.length : Int) == 0) = false := by
    by_cases e : l.length = 0
    · cases neg
      · exact .inl ⟨by rw [e]; rfl, rfl⟩
      · exact absurd ⟨e, rfl⟩ h6
    · exact .inr (beq_eq_false_iff_ne.2 (by omega))
  have G := Lib.hid (Gcd_any A A' c c' l m _ (h.below hb0) (h'.below hb0) HL.out HM.out (by omega) (by omega) hc hc')
  obtain ⟨g, hg⟩ : ∃ g, g = (val l).gcd (val m) := ⟨_, rfl⟩
  rw [← hg] at G
  obtain ⟨r, hr⟩ : ∃ r : Int, r = if (val l).gcd (val m) = 1 then 0 else 11 := ⟨_, rfl⟩
  rw [← hr]
  have hr' : (g = 1 ∧ r = 0) ∨ (g ≠ 1 ∧ r = 11) := by
    rw [hr, hg]; split
    · exact .inl ⟨‹_›, rfl⟩
    · exact .inr ⟨‹_›, rfl⟩
  have HR := Lib.hid hr'
  clear hr hg hr' h6
  have HV := Lib.hid (val_words g)
  obtain ⟨W, hW⟩ : ∃ W, W = words g := ⟨_, rfl⟩
  rw [← hW] at G HV
  clear hW h5
  rcases h6' with ⟨hl0, rfl⟩ | hl0
  all_goals
    go_enter Tryz.func33, Tryz.ntmps33
    go_wp2_with (first | (go_at_call 62; refine (rlong_any _ _ _ _ (by omega)).mono ?_; rintro e w' ⟨rfl, rfl⟩) | ((with_reducible refine K1.out.mono ?_); rintro e w' ⟨rfl, rfl⟩) | ((with_reducible refine K2.out.mono ?_); rintro e w' ⟨rfl, rfl⟩) | ((with_reducible refine G.out.mono ?_); rintro e w1 ⟨B, b, rfl, hO, hB⟩; have HO := Lib.hid hO; have hB1 := below_trans hb0 hB; clear hO hB))
    refine (cmp1_any B b g W w1 HO.out.rd HO.out.le HV.out).mono ?_
    rintro e w2 ⟨rfl, hB⟩
    have HB2 := Lib.hid (below_trans hB1 hB)
    clear hB hB1
    rcases HR.out with ⟨rfl, rfl⟩ | ⟨hg1, rfl⟩
    · have e1 : cmpN 1 1 = 0 := rfl
      rw [e1]
      go_wp2
      go_ret
      exact ⟨rfl, HB2.out⟩
    · have e1 : (cmpN g 1 != 0) = true := by
        rw [bne_iff_ne]; unfold cmpN; split
        · omega
        · split <;> omega
      generalize cmpN g 1 = k at *
      go_wp2
      go_ret
      exact ⟨rfl, HB2.out⟩

end Go.Proofs.YtolbafckppafkaaGreatDoor

/-
  PACKAGE ratio, FOURTH PART: checks, times, turned.
-/
set_option linter.unusedVariables false
set_option linter.unusedSimpArgs false
set_option linter.unnecessarySimpa false
namespace Go.Proofs.YtolbafckppafkaaGreatDoor
open Go.RowKit Pl

/-- two structs of three cells, boxed one behind the other -/
theorem boxed2 (w : World) (t : TypeId) (a b c d e f : Value) :
    ∃ w0, w0 = (w.alloc (.cells #[a, b, c] t)).alloc (.cells #[d, e, f] t) ∧ Below w.heap.size w w0 ∧ Blk w0 w.heap.size t #[a, b, c] ∧ Blk w0 (w.heap.size + 1) t #[d, e, f] := by
  have e1 : (w.alloc (.cells #[a, b, c] t)).heap.size = w.heap.size + 1 := by show (w.heap.push _).size = _; simp
  refine ⟨_, rfl, ((Below.refl _ _).alloc (Nat.le_refl _) _).alloc (by rw [e1]; omega) _, (Blk.new w t _).alloc _, ?_⟩
  have := Blk.new (w.alloc (.cells #[a, b, c] t)) t #[d, e, f]
  rw [e1] at this; exact this

theorem checks_any (f k : F) (A A' : Option Addr) (c c' : Nat) (C C' : Option Addr) (d d' : Nat) (w : World) (h : Rd w A f.num) (h' : Rd w A' f.den) (hc : f.num.length ≤ c) (hc' : f.den.length ≤ c')
    (k1 : Rd w C k.num) (k2 : Rd w C' k.den) (hd : k.num.length ≤ d) (hd' : k.den.length ≤ d') :
    Calls Tryz.prog 66 #[.agg #[.bool f.neg, .slice A f.num.length c, .slice A' f.den.length c'], .agg #[.bool k.neg, .slice C k.num.length d, .slice C' k.den.length d']] w fun e w' =>
      e = .returned (.int .i64 (if chk f = 0 then chk k else chk f)) ∧ Below w.heap.size w w' := by
  have C1 := Lib.hid (fun W r r' => rCheck_any f A A' c c' W r r' hc hc')
  have C2 := Lib.hid (fun W r r' => rCheck_any k C C' d d' W r r' hd hd')
  obtain ⟨w0, e0, hb0, hA, hB⟩ := boxed2 w 27 (.bool f.neg) (.slice A f.num.length c) (.slice A' f.den.length c') (.bool k.neg) (.slice C k.num.length d) (.slice C' k.den.length d')
  generalize chk f = x at *
  generalize chk k = y at *
  by_cases hx : x = 0
  · rw [if_pos hx]
    subst hx
    go_enter Tryz.func66, Tryz.ntmps66
    go_wp2_with fail
    rw [← e0]
    clear e0
    refine (C1.out w0 (h.below hb0) (h'.below hb0)).mono ?_
    rintro e w1 ⟨rfl, hB1⟩
    have hB' := hB.below hB1 hB.lt
    have hb1 := below_trans hb0 hB1
    clear hB1 hB hb0 hA
    have h0 : w1.cell? ⟨w.heap.size + 1, 0, none⟩ = some (.bool k.neg) := hB'.cell 0
    have h1 : w1.cell? ⟨w.heap.size + 1, 1, none⟩ = some (.slice C k.num.length d) := hB'.cell 1
    have h2 : w1.cell? ⟨w.heap.size + 1, 2, none⟩ = some (.slice C' k.den.length d') := hB'.cell 2
    go_wp2_with fail
    refine (C2.out w1 (k1.below hb1) (k2.below hb1)).mono ?_
    rintro e w2 ⟨rfl, hB2⟩
    have HB := Lib.hid (below_trans hb1 hB2)
    clear hb1 hB2
    go_wp2
    go_ret
    exact ⟨rfl, HB.out⟩
  · rw [if_neg hx]
    have hx' : (x != 0) = true := bne_iff_ne.2 hx
    go_enter Tryz.func66, Tryz.ntmps66
    go_wp2_with fail
    rw [← e0]
    clear e0
    refine (C1.out w0 (h.below hb0) (h'.below hb0)).mono ?_
    rintro e w1 ⟨rfl, hB1⟩
    have HB := Lib.hid (below_trans hb0 hB1)
    clear hB1 hb0
    go_wp2
    go_ret
    exact ⟨rfl, HB.out⟩

theorem times_any (A A' : Option Addr) (c c' : Nat) (l m : List Int) (w : World) (h : Rd w A l) (h' : Rd w A' m) (hl : Norm l) (hm : Norm m) (h8 : l.length + m.length ≤ 8192) :
    Calls Tryz.prog 67 #[.slice A l.length c, .slice A' m.length c'] w fun e w' =>
      ∃ B d, e = .returned (.slice B (words (val l * val m)).length d) ∧ Ow w' w.heap.size B d (words (val l * val m)) ∧ Below w.heap.size w w' := by
  have C1 := Lib.hid (Mul_any A A' c c' l m w h h' hl hm h8)
  go_enter Tryz.func67, Tryz.ntmps67
  go_wp2_with fail
  refine C1.out.mono ?_
  rintro e w1 ⟨B, b, rfl, hO, hB⟩
  have HO := Lib.hid hO
  have HB := Lib.hid hB
  clear hO hB
  go_wp2
  go_ret
  exact ⟨_, _, rfl, HO.out, HB.out⟩
end Go.Proofs.YtolbafckppafkaaGreatDoor

/-
  PACKAGE ratio: turned, words.
-/
set_option linter.unusedVariables false
set_option linter.unusedSimpArgs false
set_option linter.unnecessarySimpa false
namespace Go.Proofs.YtolbafckppafkaaGreatDoor
open Go.RowKit Pl

theorem turned_any (f : F) (A A' : Option Addr) (c c' : Nat) (w : World) (hl : f.num.length ≤ 9223372036854775807) :
    Calls Tryz.prog 88 #[.agg #[.bool f.neg, .slice A f.num.length c, .slice A' f.den.length c']] w fun e w' =>
      e = .returned (.agg #[.bool (!f.neg && decide (f.num ≠ [])), .slice A f.num.length c, .slice A' f.den.length c']) ∧ Below w.heap.size w w' := by
  obtain ⟨neg, l, m⟩ := f
  simp only at *
  obtain ⟨s, hs⟩ : ∃ s, s = (!neg && decide (l ≠ [])) := ⟨_, rfl⟩
  rw [← hs]
  have hs' : (neg = true ∧ s = false) ∨ (neg = false ∧ 0 < l.length ∧ s = true) ∨ (neg = false ∧ ¬ 0 < l.length ∧ s = false) := by
    rw [hs, List.length_pos_iff]; by_cases h3 : l = [] <;> cases neg <;> simp [h3]
  clear hs
  rcases hs' with ⟨rfl, rfl⟩ | ⟨rfl, h3, rfl⟩ | ⟨rfl, h3, rfl⟩
  all_goals
    go_enter Tryz.func88, Tryz.ntmps88
    go_wp2_with fail
  · obtain ⟨w0, e0, hb0, hA, hB⟩ := boxed2 w 27 (.bool false) (.slice A l.length c) (.slice A' m.length c') (.bool false) (.slice A l.length c) (.slice A' m.length c')
    rw [← e0]
    clear e0
    have h0 : w0.cell? ⟨w.heap.size + 1, 0, none⟩ = some (.bool false) := hB.cell 0
    have h1 : w0.cell? ⟨w.heap.size + 1, 1, none⟩ = some (.slice A l.length c) := hB.cell 1
    have h2 : w0.cell? ⟨w.heap.size + 1, 2, none⟩ = some (.slice A' m.length c') := hB.cell 2
    exact bodyPost_ret (v := .agg #[.bool false, .slice A l.length c, .slice A' m.length c']) (by simp [results, Tryz.results88, go_sem, h0, h1, h2]) rfl ⟨rfl, hb0⟩
  · obtain ⟨w0, e0, hb0, hA, hB⟩ := boxed2 w 27 (.bool true) (.slice A l.length c) (.slice A' m.length c') (.bool true) (.slice A l.length c) (.slice A' m.length c')
    rw [← e0]
    clear e0
    have h0 : w0.cell? ⟨w.heap.size + 1, 0, none⟩ = some (.bool true) := hB.cell 0
    have h1 : w0.cell? ⟨w.heap.size + 1, 1, none⟩ = some (.slice A l.length c) := hB.cell 1
    have h2 : w0.cell? ⟨w.heap.size + 1, 2, none⟩ = some (.slice A' m.length c') := hB.cell 2
    exact bodyPost_ret (v := .agg #[.bool true, .slice A l.length c, .slice A' m.length c']) (by simp [results, Tryz.results88, go_sem, h0, h1, h2]) rfl ⟨rfl, hb0⟩
  · obtain ⟨w0, e0, hb0, hA, hB⟩ := boxed2 w 27 (.bool false) (.slice A l.length c) (.slice A' m.length c') (.bool false) (.slice A l.length c) (.slice A' m.length c')
    rw [← e0]
    clear e0
    have h0 : w0.cell? ⟨w.heap.size + 1, 0, none⟩ = some (.bool false) := hB.cell 0
    have h1 : w0.cell? ⟨w.heap.size + 1, 1, none⟩ = some (.slice A l.length c) := hB.cell 1
    have h2 : w0.cell? ⟨w.heap.size + 1, 2, none⟩ = some (.slice A' m.length c') := hB.cell 2
    exact bodyPost_ret (v := .agg #[.bool false, .slice A l.length c, .slice A' m.length c']) (by simp [results, Tryz.results88, go_sem, h0, h1, h2]) rfl ⟨rfl, hb0⟩
end Go.Proofs.YtolbafckppafkaaGreatDoor
