/-
  PACKAGE ratio, FIRST PART: long, size, lowest, Small.
-/
import Derived.Test.YtbjclfmplndkcaaGreatDoorNm
set_option linter.unusedVariables false
set_option linter.unusedSimpArgs false
set_option linter.unnecessarySimpa false
namespace Go.Proofs.YtbjclfmplndkcaaGreatDoor
open Go.RowKit Pl

/-- a fraction as the program has it, over any words -/
def rv (neg : Bool) (A : Option Addr) (n c : Nat) (B : Option Addr) (m d : Nat) : Value := .agg #[.bool neg, .slice A n c, .slice B m d]
/-- a fraction in fresh memory -/
def OwR (w : World) (base : Nat) (v : Value) (f : F) : Prop :=
  ∃ A c B d, v = .agg #[.bool f.neg, .slice A f.num.length c, .slice B f.den.length d] ∧ Ow w base A c f.num ∧ Ow w base B d f.den
theorem OwR.below {w w' : World} {base : Nat} {v : Value} {f : F} (h : OwR w base v f) (hb : Below w.heap.size w w') : OwR w' base v f := by
  obtain ⟨A, c, B, d, rfl, h1, h2⟩ := h
  exact ⟨A, c, B, d, rfl, h1.below hb, h2.below hb⟩
theorem OwR.mono {w : World} {base base' : Nat} {v : Value} {f : F} (h : OwR w base v f) (hb : base' ≤ base) : OwR w base' v f := by
  obtain ⟨A, c, B, d, rfl, h1, h2⟩ := h
  exact ⟨A, c, B, d, rfl, h1.mono hb, h2.mono hb⟩
theorem OwR.zero (w : World) (base : Nat) : OwR w base (.agg #[.bool false, .slice none 0 0, .slice none 0 0]) F.zero :=
  ⟨none, 0, none, 0, rfl, Ow.nil _ _, Ow.nil _ _⟩

/-- a struct of three cells is laid over a block of three -/
def st3 (w : World) (g : Nat) (u v x : Value) : World := ((w.setCell ⟨g, 0, none⟩ u).setCell ⟨g, 1, none⟩ v).setCell ⟨g, 2, none⟩ x
theorem st3_blk {w : World} {g : Nat} {t : TypeId} {a b c : Value} (h : Blk w g t #[a, b, c]) (u v x : Value) : Blk (st3 w g u v x) g t #[u, v, x] :=
  ((h.set_ 0 u).set_ 1 v).set_ 2 x
theorem st3_below {w w' : World} {g : Nat} {B : Nat} (h : Below B w w') (hg : B ≤ g) (u v x : Value) : Below B w (st3 w' g u v x) :=
  ((h.setCell (p := ⟨g, 0, none⟩) hg u).setCell (p := ⟨g, 1, none⟩) hg v).setCell (p := ⟨g, 2, none⟩) hg x
theorem Ow.setFar {w : World} {base g c : Nat} {A : Option Addr} {l : List Int} (h : Ow w base A c l) (hg : g < base) (i : Nat) (u : Value) : Ow (w.setCell ⟨g, i, none⟩ u) base A c l := by
  rcases h with h | ⟨b, rfl, hb, h⟩
  · exact .inl h
  · exact .inr ⟨b, rfl, hb, h.far (p := ⟨g, i, none⟩) (by show b ≠ g; omega) u⟩
theorem Ow.st3 {w : World} {base g c : Nat} {A : Option Addr} {l : List Int} (h : Ow w base A c l) (hg : g < base) (u v x : Value) : Ow (st3 w g u v x) base A c l :=
  ((h.setFar hg 0 u).setFar hg 1 v).setFar hg 2 x

theorem rlong_any (A : Option Addr) (c n : Nat) (w : World) (hn : n ≤ 9223372036854775807) :
    Calls Tryz.prog 23 #[.slice A n c] w fun e w' => e = .returned (.bool (decide (2048 < n))) ∧ w = w' := by
  by_cases h : 2048 < n
  all_goals
    go_enter Tryz.func23, Tryz.ntmps23
    go_wp2
    go_ret
    first | (simp [h]; done) | (simp [h]; omega)

theorem size_any (n : Int) (w : World) (h1 : -9223372036854775808 ≤ n) (h2 : n ≤ 9223372036854775807) :
    Calls Tryz.prog 33 #[.int .i64 n] w fun e w' =>
      ∃ B d, e = .returned (.slice B (words n.natAbs).length d) ∧ Ow w' w.heap.size B d (words n.natAbs) ∧ Below w.heap.size w w' := by
  obtain ⟨x, hx⟩ : ∃ x, x = n.natAbs := ⟨_, rfl⟩
  have hx1 : x < 18446744073709551616 := by omega
  rw [← hx]
  have C1 := Lib.hid (Of_any x w hx1)
  by_cases hn : n < 0
  · have e : IntKind.u64.wrap (-IntKind.u64.wrap n) = (x : Int) := by simp [IntKind.wrap, IntKind.signed, IntKind.bits]; omega
    clear hx
    go_enter Tryz.func33, Tryz.ntmps33
    go_wp2_with fail
    refine C1.out.mono ?_
    rintro e w1 ⟨B, d, rfl, hO, hB⟩
    go_wp2
    go_ret
    exact ⟨_, _, rfl, hO, hB⟩
  · have e : n = (x : Int) := by omega
    clear hx
    subst e
    go_enter Tryz.func33, Tryz.ntmps33
    go_wp2_with fail
    refine C1.out.mono ?_
    rintro e w1 ⟨B, d, rfl, hO, hB⟩
    go_wp2
    go_ret
    exact ⟨_, _, rfl, hO, hB⟩

theorem words_le {a b k : Nat} (h : a ≤ b) (hk : (words b).length ≤ k) : (words a).length ≤ k := words_len.2 (Nat.lt_of_le_of_lt h (words_len.1 hk))
theorem tell_low (neg : Bool) (n d : Nat) (hd : d ≠ 0) : tell (mkRat (sg neg n) d) = if (words (n / n.gcd d)).length ≤ 2048 ∧ (words (d / n.gcd d)).length ≤ 2048 then
      (⟨neg && decide (0 < (words (n / n.gcd d)).length), words (n / n.gcd d), words (d / n.gcd d)⟩, 0) else (F.zero, 3) := by
  unfold tell
  rw [lowest_of neg n d hd]
  have e1 : fits (mkRat (sg neg n) d) ↔ (words (n / n.gcd d)).length ≤ 2048 ∧ (words (d / n.gcd d)).length ≤ 2048 := by
    unfold fits
    rw [mk_num _ _ _ hd, mk_den _ _ _ hd, sg_natAbs]
  have e2 : decide (n ≠ 0) = decide (0 < (words (n / n.gcd d)).length) := by
    have h2 : 0 < n.gcd d := Nat.gcd_pos_of_pos_right _ (by omega)
    have h1 : n.gcd d ∣ n := Nat.gcd_dvd_left n d
    rw [decide_eq_decide, List.length_pos_iff, Ne, Ne, words_eq_nil, Nat.div_eq_zero_iff_lt h2]
    constructor
    · intro h k; have := Nat.le_of_dvd (by omega) h1; omega
    · rintro h rfl; exact h h2
  rw [e2]
  by_cases h : fits (mkRat (sg neg n) d)
  · rw [if_pos h, if_pos (e1.1 h)]
  · rw [if_neg h, if_neg (fun k => h (e1.2 k))]
theorem done_3 {P : Program} {fn : Func} {fr : Act} (s : Bool) (n d : List Int) (B1 : Option Addr) (b1 : Nat) (B2 : Option Addr) (b2 : Nat) (w w3 : World)
    (hk3 : Blk w3 w.heap.size 24 #[.bool false, .slice none 0 0, .slice none 0 0]) (hb3 : Below w.heap.size w w3)
    (hn : Ow (st3 w3 w.heap.size (.bool s) (.slice B1 n.length b1) (.slice B2 d.length b2)) (w.heap.size + 1) B1 b1 n) (hd : Ow (st3 w3 w.heap.size (.bool s) (.slice B1 n.length b1) (.slice B2 d.length b2)) (w.heap.size + 1) B2 b2 d)
    (H : ∀ w4 : World, w4.cell? ⟨w.heap.size, 0, none⟩ = some (.bool s) → w4.cell? ⟨w.heap.size, 1, none⟩ = some (.slice B1 n.length b1) → w4.cell? ⟨w.heap.size, 2, none⟩ = some (.slice B2 d.length b2) → ∀ Q : Ending → World → Prop,
      Q (.returned (.tuple #[.agg #[.bool s, .slice B1 n.length b1, .slice B2 d.length b2], .int .i64 0])) w4 → bodyPost P fn Q .ret fr w4) :
    bodyPost P fn (fun e w' => ∃ v, e = .returned (.tuple #[v, .int .i64 0]) ∧ OwR w' w.heap.size v ⟨s, n, d⟩ ∧ Below w.heap.size w w') .ret fr (st3 w3 w.heap.size (.bool s) (.slice B1 n.length b1) (.slice B2 d.length b2)) := by
  have hk4 := st3_blk hk3 (.bool s) (.slice B1 n.length b1) (.slice B2 d.length b2)
  have hb4 := st3_below hb3 (Nat.le_refl _) (.bool s) (.slice B1 n.length b1) (.slice B2 d.length b2)
  refine H _ (hk4.cell 0) (hk4.cell 1) (hk4.cell 2) _ ⟨_, rfl, ⟨B1, b1, B2, b2, rfl, hn.mono (by omega), hd.mono (by omega)⟩, hb4⟩

set_option maxHeartbeats 1000000 in
theorem lowest_any (neg : Bool) (A A' : Option Addr) (c c' : Nat) (l m : List Int) (w : World) (h : Rd w A l) (h' : Rd w A' m) (hl : Norm l) (hm : Norm m) (hl8 : l.length ≤ 8190) (hm8 : m.length ≤ 8190) (hc : l.length ≤ c) (hc' : m.length ≤ c') (h0 : m ≠ []) :
    Calls Tryz.prog 32 #[.bool neg, .slice A l.length c, .slice A' m.length c'] w fun e w' =>
      ∃ v, e = .returned (.tuple #[v, .int .i64 (tell (mkRat (sg neg (val l)) (val m))).2]) ∧ OwR w' w.heap.size v (tell (mkRat (sg neg (val l)) (val m))).1 ∧ Below w.heap.size w w' := by
  have hd : val m ≠ 0 := fun e => h0 ((val_eq_zero hm).1 e)
  have hT : tell (mkRat (sg neg (val l)) (val m)) = if (words (val l / (val l).gcd (val m))).length ≤ 2048 ∧ (words (val m / (val l).gcd (val m))).length ≤ 2048 then
      (⟨neg && decide (0 < (words (val l / (val l).gcd (val m))).length), words (val l / (val l).gcd (val m)), words (val m / (val l).gcd (val m))⟩, 0) else (F.zero, 3) := tell_low neg _ _ hd
  have C1 : ∀ (W : World), Rd W A l → Rd W A' m → _ := fun W r r' => Gcd_any A A' c c' l m W r r' hl hm hl8 hm8 hc hc'
  rw [hT]
  clear hT
  obtain ⟨g, hg⟩ : ∃ g, g = (val l).gcd (val m) := ⟨_, rfl⟩
  have hgv : val (words g) = g := val_words g
  have hgn : Norm (words g) := words_norm g
  have hg0 : words g ≠ [] := by
    intro e
    have := words_eq_nil.1 e
    rw [hg] at this
    exact hd (Nat.eq_zero_of_gcd_eq_zero_right this)
  have hgl : (words g).length ≤ 8190 := by
    rw [hg]
    exact words_le (Nat.le_of_dvd (by omega) (Nat.gcd_dvd_right _ _)) (by rw [words_val hm]; exact hm8)
  rw [← hg] at C1 ⊢
  clear hg
  obtain ⟨G, hG⟩ : ∃ G, G = words g := ⟨_, rfl⟩
  rw [← hG] at C1 hgv hgn hg0 hgl
  have D1 : ∀ (W : World) (B : Option Addr) (d : Nat), Rd W A l → Rd W B G → G.length ≤ d → _ := fun W B d r r' hd => DivMod_any A B c d l G W r r' hl hgn hl8 hgl hc hd hg0
  have D2 : ∀ (W : World) (B : Option Addr) (d : Nat), Rd W A' m → Rd W B G → G.length ≤ d → _ := fun W B d r r' hd => DivMod_any A' B c' d m G W r r' hm hgn hm8 hgl hc' hd hg0
  rw [hgv] at D1 D2
  have HC := Lib.hid C1
  have HD1 := Lib.hid D1
  have HD2 := Lib.hid D2
  clear C1 D1 D2 hG hgv hgn hg0 hgl
  obtain ⟨n, hn⟩ : ∃ n, n = words (val l / g) := ⟨_, rfl⟩
  obtain ⟨d, hd'⟩ : ∃ d, d = words (val m / g) := ⟨_, rfl⟩
  rw [← hn, ← hd']
  rw [← hn] at HD1
  rw [← hd'] at HD2
  clear hn hd'
  obtain ⟨s, hs⟩ : ∃ s, s = (neg && decide (0 < n.length)) := ⟨_, rfl⟩
  rw [← hs]
  have hs' : (neg = false ∧ s = false) ∨ (neg = true ∧ 0 < n.length ∧ s = true) ∨ (neg = true ∧ ¬ 0 < n.length ∧ s = false) := by
    rw [hs]; by_cases h3 : 0 < n.length <;> cases neg <;> simp [h3]
  have HS := Lib.hid hs'
  clear hs hs'
  go_enter Tryz.func32, Tryz.ntmps32
  go_wp2_with fail
  have hb0 : Below w.heap.size w (w.alloc (Obj.cells #[Value.bool false, Value.slice none 0 0, Value.slice none 0 0] 24)) := (Below.refl _ _).alloc (Nat.le_refl _) _
  have hk0 := Blk.new w 24 #[Value.bool false, Value.slice none 0 0, Value.slice none 0 0]
  obtain ⟨w0, hw0⟩ : ∃ w0, w0 = w.alloc (Obj.cells #[Value.bool false, Value.slice none 0 0, Value.slice none 0 0] 24) := ⟨_, rfl⟩
  rw [← hw0] at hb0 hk0 ⊢
  clear hw0
  refine (HC.out w0 (h.below hb0) (h'.below hb0)).mono ?_
  rintro e w1 ⟨B, b, rfl, hO, hB⟩
  have HO := Lib.hid hO
  have hk1 := hk0.below hB hk0.lt
  have hb1 := below_trans hb0 hB
  clear hO hB hk0 hb0
  go_wp2_with fail
  refine (HD1.out w1 B b (h.below hb1) HO.out.rd HO.out.le).mono ?_
  rintro e w2 ⟨B1, b1, B1', b1', rfl, hO1, hO1', hB⟩
  have HN := Lib.hid hO1
  have hk1' := Lib.hid hk1.lt
  have hszB := Lib.hid (Nat.le_refl w1.heap.size)
  have hszC := Lib.hid hB.size
  have hk2 := hk1.below hB hk1.lt
  have hG2 := HO.out.below hB
  have hb2 := below_trans hb1 hB
  have HB1 := Lib.hid hb1
  clear hO1 hO1' hB hk1 hb1
  go_wp2_with fail
  refine (HD2.out w2 B b (h'.below hb2) hG2.rd hG2.le).mono ?_
  rintro e w3 ⟨B2, b2, B2', b2', rfl, hO1, hO1', hB⟩
  have HN := Lib.hid (HN.out.below hB)
  have HD := Lib.hid hO1
  have hk3 := hk2.below hB hk2.lt
  have hb3 := below_trans hb2 hB
  have ln := HN.out.rd.len
  have ld := HD.out.rd.len
  have L1 := Lib.hid (rlong_any (some ⟨0, 0, none⟩) 0 0 w (by omega))
  clear hO1 hO1' hB hk2 hb2 hG2 HB1
  have hc0 : w3.cell? ⟨w.heap.size, 0, none⟩ = some (.bool false) := hk3.cell 0
  have hc1 : w3.cell? ⟨w.heap.size, 1, none⟩ = some (.slice none 0 0) := hk3.cell 1
  have hc2 : w3.cell? ⟨w.heap.size, 2, none⟩ = some (.slice none 0 0) := hk3.cell 2
  have hf := hk3.frozen
  by_cases h1 : 2048 < n.length
  · go_wp2_with (go_at_call 23; refine (rlong_any _ _ _ _ (by omega)).mono ?_; rintro e w' ⟨rfl, rfl⟩)
    have hk4 := st3_blk hk3 (.bool false) (.slice none 0 0) (.slice none 0 0)
    have hb4 := st3_below hb3 (Nat.le_refl _) (.bool false) (.slice none 0 0) (.slice none 0 0)
    show bodyPost _ _ _ _ _ (st3 w3 w.heap.size (.bool false) (.slice none 0 0) (.slice none 0 0))
    generalize st3 w3 w.heap.size (.bool false) (.slice none 0 0) (.slice none 0 0) = w4 at hk4 hb4 ⊢
    have ha0 : w4.cell? ⟨w.heap.size, 0, none⟩ = some (.bool false) := hk4.cell 0
    have ha1 : w4.cell? ⟨w.heap.size, 1, none⟩ = some (.slice none 0 0) := hk4.cell 1
    have ha2 : w4.cell? ⟨w.heap.size, 2, none⟩ = some (.slice none 0 0) := hk4.cell 2
    refine bodyPost_ret (v := .tuple #[.agg #[.bool false, .slice none 0 0, .slice none 0 0], .int .i64 3]) (by simp [results, Tryz.results32, go_sem, ha0, ha1, ha2]) rfl ⟨_, rfl, OwR.zero _ _, hb4⟩
  · by_cases h2 : 2048 < d.length
    · go_wp2_with (go_at_call 23; refine (rlong_any _ _ _ _ (by omega)).mono ?_; rintro e w' ⟨rfl, rfl⟩)
      have hk4 := st3_blk hk3 (.bool false) (.slice none 0 0) (.slice none 0 0)
      have hb4 := st3_below hb3 (Nat.le_refl _) (.bool false) (.slice none 0 0) (.slice none 0 0)
      show bodyPost _ _ _ _ _ (st3 w3 w.heap.size (.bool false) (.slice none 0 0) (.slice none 0 0))
      generalize st3 w3 w.heap.size (.bool false) (.slice none 0 0) (.slice none 0 0) = w4 at hk4 hb4 ⊢
      have ha0 : w4.cell? ⟨w.heap.size, 0, none⟩ = some (.bool false) := hk4.cell 0
      have ha1 : w4.cell? ⟨w.heap.size, 1, none⟩ = some (.slice none 0 0) := hk4.cell 1
      have ha2 : w4.cell? ⟨w.heap.size, 2, none⟩ = some (.slice none 0 0) := hk4.cell 2
      refine bodyPost_ret (v := .tuple #[.agg #[.bool false, .slice none 0 0, .slice none 0 0], .int .i64 3]) (by simp [results, Tryz.results32, go_sem, ha0, ha1, ha2]) rfl ⟨_, rfl, OwR.zero _ _, hb4⟩
    · have hs' := HS.out
      clear HS
      have hon := HN.out.mono (base' := w.heap.size + 1) (Nat.lt_of_lt_of_le hk1'.out hszB.out)
      have hod := HD.out.mono (base' := w.heap.size + 1) (Nat.lt_of_lt_of_le hk1'.out hszC.out)
      have HON := Lib.hid (fun s => hon.st3 (g := w.heap.size) (by omega) (.bool s) (.slice B1 n.length b1) (.slice B2 d.length b2))
      have HOD := Lib.hid (fun s => hod.st3 (g := w.heap.size) (by omega) (.bool s) (.slice B1 n.length b1) (.slice B2 d.length b2))
      clear hon hod
      rcases hs' with ⟨rfl, rfl⟩ | ⟨rfl, h3, rfl⟩ | ⟨rfl, h3, rfl⟩
      all_goals
        go_wp2_with (go_at_call 23; refine (rlong_any _ _ _ _ (by omega)).mono ?_; rintro e w' ⟨rfl, rfl⟩)
      · exact done_3 false n d B1 b1 B2 b2 w w3 hk3 hb3 (HON.out _) (HOD.out _) (by
          intro w4 ha0 ha1 ha2 Q hQ
          exact bodyPost_ret (by simp [results, Tryz.results32, go_sem, ha0, ha1, ha2]) rfl hQ)
      · exact done_3 true n d B1 b1 B2 b2 w w3 hk3 hb3 (HON.out _) (HOD.out _) (by
          intro w4 ha0 ha1 ha2 Q hQ
          exact bodyPost_ret (by simp [results, Tryz.results32, go_sem, ha0, ha1, ha2]) rfl hQ)
      · exact done_3 false n d B1 b1 B2 b2 w w3 hk3 hb3 (HON.out _) (HOD.out _) (by
          intro w4 ha0 ha1 ha2 Q hQ
          exact bodyPost_ret (by simp [results, Tryz.results32, go_sem, ha0, ha1, ha2]) rfl hQ)
end Go.Proofs.YtbjclfmplndkcaaGreatDoor
