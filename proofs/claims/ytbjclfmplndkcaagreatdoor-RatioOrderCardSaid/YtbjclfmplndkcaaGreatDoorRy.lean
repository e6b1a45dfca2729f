/-
  RatioOrder, walked.
-/
import Derived.Test.YtbjclfmplndkcaaGreatDoorRx
import Derived.Test.YtbjclfmplndkcaaGreatDoorRu
import Derived.Test.YtbjclfmplndkcaaGreatDoorRl
import Derived.Deep.RegionHeld3
set_option linter.unusedVariables false
set_option linter.unusedSimpArgs false
set_option linter.unnecessarySimpa false
namespace Go.Proofs.YtbjclfmplndkcaaGreatDoor
open Go.RowKit Pl

theorem rs2 (w : World) (x y : Bool × (Option Addr × Nat × Nat) × (Option Addr × Nat × Nat)) (h1 : x.2.1.2.1 ≤ 9223372036854775807) (h2 : x.2.2.2.1 ≤ 9223372036854775807) (h3 : y.2.1.2.1 ≤ 9223372036854775807) (h4 : y.2.2.2.1 ≤ 9223372036854775807) :
    Rs (w.alloc (.cells #[.bool x.1, .slice x.2.1.1 x.2.1.2.1 x.2.1.2.2, .slice x.2.2.1 x.2.2.2.1 x.2.2.2.2, .bool y.1, .slice y.2.1.1 y.2.1.2.1 y.2.1.2.2, .slice y.2.2.1 y.2.2.2.1 y.2.2.2.2] 24)) ⟨w.heap.size, 0, none⟩ [x, y] := by
  refine ⟨by simp, ?_⟩
  intro i z hz
  have hk := Blk.new w 24 #[.bool x.1, .slice x.2.1.1 x.2.1.2.1 x.2.1.2.2, .slice x.2.2.1 x.2.2.2.1 x.2.2.2.2, .bool y.1, .slice y.2.1.1 y.2.1.2.1 y.2.1.2.2, .slice y.2.2.1 y.2.2.2.1 y.2.2.2.2]
  match i, hz with
  | 0, hz =>
    simp only [List.getElem?_cons_zero, Option.some.injEq] at hz
    subst hz
    exact ⟨h1, h2, hk.cell 0, hk.cell 1, hk.cell 2⟩
  | 1, hz =>
    simp only [List.getElem?_cons_succ, List.getElem?_cons_zero, Option.some.injEq] at hz
    subst hz
    exact ⟨h3, h4, hk.cell 3, hk.cell 4, hk.cell 5⟩
  | i + 2, hz => simp at hz

theorem alloc_size (w : World) (o : Obj) : (w.alloc o).heap.size = w.heap.size + 1 := by show (w.heap.push _).size = _; simp
theorem Kp.sub1 {w W : World} {bs : List (Nat × TypeId × Array Value)} {os : List (Option Addr × Nat × List Int)} (h : Kp w bs os W) {x : Nat × TypeId × Array Value} (hx : x ∈ bs) : Kp w [x] [] W :=
  ⟨h.low, fun y hy => by rw [List.mem_singleton] at hy; subst hy; exact h.blk _ hx, (fun y hy => by cases hy)⟩
theorem Kp.tri {w W : World} {g : Nat} {t : TypeId} {a b c : Value} {os : List (Option Addr × Nat × List Int)} (h : Kp w [(g, t, #[a, b, c])] os W) :
    Kp w [(g, t, #[a, b, c])] os W ∧ W.cell? ⟨g, 0, none⟩ = some a ∧ W.cell? ⟨g, 1, none⟩ = some b ∧ W.cell? ⟨g, 2, none⟩ = some c := ⟨h, h.b0.cell 0, h.b0.cell 1, h.b0.cell 2⟩
theorem Kp.subs {w W : World} {bs bs' : List (Nat × TypeId × Array Value)} {os os' : List (Option Addr × Nat × List Int)} (h : Kp w bs os W) (hb : ∀ x ∈ bs', x ∈ bs) (ho : ∀ x ∈ os', x ∈ os) : Kp w bs' os' W :=
  ⟨h.low, fun x hx => h.blk x (hb x hx), fun x hx => h.own x (ho x hx)⟩
theorem Ow.farT {w : World} {base g c : Nat} {A : Option Addr} {l : List Int} {cs : Array Value} (h : Ow w base A c l) (hk : Blk w g 24 cs) (u v x : Value) : Ow (Go.Proofs.YtbjclfmplndkcaaGreatDoor.st3 w g u v x) base A c l := by
  rcases h with h | ⟨b, rfl, hb, h⟩
  · exact .inl h
  · have hne : b ≠ g := by
      rintro rfl
      obtain ⟨cs', hk', _⟩ := h
      unfold Blk at hk hk'
      rw [hk] at hk'
      injection hk' with hk'
      injection hk' with _ ht
      exact absurd ht (by decide)
    exact .inr ⟨b, rfl, hb, ((h.far (p := ⟨g, 0, none⟩) hne u).far (p := ⟨g, 1, none⟩) hne v).far (p := ⟨g, 2, none⟩) hne x⟩
theorem Kp.store3 {w W : World} {bs b0 : List (Nat × TypeId × Array Value)} {os : List (Option Addr × Nat × List Int)} {g : Nat} {a b c : Value} (h : Kp w bs os W) (hm : (g, 24, #[a, b, c]) ∈ bs) (hs : ∀ x ∈ b0, x ∈ bs) (hn : ∀ x ∈ b0, x.1 ≠ g) (hg : w.heap.size ≤ g) (u v x : Value) :
    Kp w (b0 ++ [(g, 24, #[u, v, x])]) os (Go.Proofs.YtbjclfmplndkcaaGreatDoor.st3 W g u v x) := by
  have hk := h.blk _ hm
  refine ⟨st3_below h.low hg u v x, fun y hy => ?_, fun y hy => (h.own y hy).farT hk u v x⟩
  rcases List.mem_append.1 hy with hy | hy
  · have hne := hn y hy
    exact (((h.blk y (hs y hy)).far (p := ⟨g, 0, none⟩) hne u).far (p := ⟨g, 1, none⟩) hne v).far (p := ⟨g, 2, none⟩) hne x
  · rw [List.mem_singleton] at hy; subst hy; exact st3_blk hk u v x
theorem Kp.last5 {w W : World} {p q r s : Nat × TypeId × Array Value} {os : List (Option Addr × Nat × List Int)} {g : Nat} {a b c : Value} (h : Kp w [p, q, r, s, (g, 24, #[a, b, c])] os W) :
    W.cell? ⟨g, 0, none⟩ = some a ∧ W.cell? ⟨g, 1, none⟩ = some b ∧ W.cell? ⟨g, 2, none⟩ = some c ∧ ∀ i, W.frozen? ⟨g, i, none⟩ = false := by
  have hk := h.blk (g, 24, #[a, b, c]) (by simp)
  exact ⟨hk.cell 0, hk.cell 1, hk.cell 2, hk.frozen⟩
theorem Kp.store5 {w W : World} {p q r s : Nat × TypeId × Array Value} {os : List (Option Addr × Nat × List Int)} {g : Nat} {a b c : Value} (h : Kp w [p, q, r, s, (g, 24, #[a, b, c])] os W) (hn : p.1 ≠ g ∧ q.1 ≠ g ∧ r.1 ≠ g ∧ s.1 ≠ g) (hg : w.heap.size ≤ g) (u v x : Value) :
    Kp w [p, q, s, (g, 24, #[u, v, x])] os (Go.Proofs.YtbjclfmplndkcaaGreatDoor.st3 W g u v x) :=
  h.store3 (a := a) (b := b) (c := c) (b0 := [p, q, s]) (by simp) (fun y hy => by simp only [List.mem_cons, List.not_mem_nil, or_false] at hy ⊢; rcases hy with h | h | h <;> simp [h])
    (fun y hy => by
      simp only [List.mem_cons, List.not_mem_nil, or_false] at hy
      rcases hy with rfl | rfl | rfl
      · exact hn.1
      · exact hn.2.1
      · exact hn.2.2.2) hg u v x
/-- a fraction and an error, told into a block -/
def NextAt (w : World) (bs : List (Nat × TypeId × Array Value)) (os : List (Option Addr × Nat × List Int)) (nx : F) (m : Int) (s17 s18 : Value) (wx : World) : Prop :=
  ∃ g A5 a5 B5 b5, s17 = .pointer (some ⟨g, 0, none⟩) ∧ s18 = .int .i64 m ∧ Kp w (bs ++ [(g, 24, #[.bool nx.neg, .slice A5 nx.num.length a5, .slice B5 nx.den.length b5])]) (os ++ [(A5, a5, nx.num), (B5, b5, nx.den)]) wx
theorem len60 {f k : F} {A A' C C' : Option Addr} {c c' d d' : Nat} (h : klongs [(f.neg, (A, f.num.length, c), (A', f.den.length, c')), (k.neg, (C, k.num.length, d), (C', k.den.length, d'))] = false) (hf : f.ok) : f.num.length ≤ 60 := by
  have h1 := hf.2.2.1
  refine Classical.byContradiction fun hn => ?_
  have : klng f.num.length = true := by unfold klng; simp; omega
  simp [klongs, this] at h
theorem sub_ok {f k g : F} (h : subR f k = (g, 0)) (hf : f.ok) (hk : k.ok) : g.ok ∧ g.q = f.q - k.q := by
  unfold subR at h
  by_cases hx : ck2 f k = 0
  · rw [if_neg (fun h => h hx)] at h; exact tell_good' h
  · rw [if_pos hx] at h; injection h with _ h2; exact absurd h2 hx
theorem add_three {f k g : F} (h : addR f k = (g, 3)) (hf : f.ok) (hk : k.ok) : g = F.zero := by
  unfold addR at h
  have hx : ck2 f k = 0 := (ck2_ok hf.1.1 hf.2.1.1 hk.1.1 hk.2.1.1).2 ⟨hf, hk⟩
  rw [if_neg (fun h => h hx)] at h
  have := tell_zero (q := f.q + k.q) (by rw [h]; simp)
  rw [this] at h
  injection h with h1 _; exact h1.symm

set_option maxRecDepth 100000 in
set_option maxHeartbeats 8000000 in
theorem ro_long (f k : F) (A A' : Option Addr) (c c' : Nat) (C C' : Option Addr) (d d' : Nat) (w : World) (h : Rd w A f.num) (h' : Rd w A' f.den) (hc : f.num.length ≤ c) (hc' : f.den.length ≤ c')
    (k1 : Rd w C k.num) (k2 : Rd w C' k.den) (hd : k.num.length ≤ d) (hd' : k.den.length ≤ d') (htab : Tab w) (hlong : klongs [(f.neg, (A, f.num.length, c), (A', f.den.length, c')), (k.neg, (C, k.num.length, d), (C', k.den.length, d'))] = true) :
    Calls Tryz.prog 3 #[.agg #[.bool f.neg, .slice A f.num.length c, .slice A' f.den.length c'], .agg #[.bool k.neg, .slice C k.num.length d, .slice C' k.den.length d']] w fun e w' => e = .returned (.bool true) ∧ Below w.heap.size w w' := by
  have HLONG := Lib.hid hlong
  clear hlong
  obtain ⟨w0, e0, hK0⟩ := kp2 w 24 24 #[.bool f.neg, .slice A f.num.length c, .slice A' f.den.length c'] #[.bool k.neg, .slice C k.num.length d, .slice C' k.den.length d']
  have HK := Lib.hid hK0
  have HT := Lib.hid htab
  clear hK0 htab
  go_enter Tryz.func3, Tryz.ntmps3
  go_wp2_with fail
  rw [← e0]
  clear e0
  refine (awake_any w0 (HT.out.low HK.out.low (Nat.le_refl _))).mono ?_
  rintro e w1 ⟨rfl, hB⟩
  have HK := Lib.hid (HK.out.below hB)
  clear hB
  have p0 : w1.cell? ⟨w.heap.size, 0, none⟩ = some (.bool f.neg) := (HK.out.blk (w.heap.size, 24, #[.bool f.neg, .slice A f.num.length c, .slice A' f.den.length c']) (by simp)).cell 0
  have p1 : w1.cell? ⟨w.heap.size, 1, none⟩ = some (.slice A f.num.length c) := (HK.out.blk (w.heap.size, 24, #[.bool f.neg, .slice A f.num.length c, .slice A' f.den.length c']) (by simp)).cell 1
  have p2 : w1.cell? ⟨w.heap.size, 2, none⟩ = some (.slice A' f.den.length c') := (HK.out.blk (w.heap.size, 24, #[.bool f.neg, .slice A f.num.length c, .slice A' f.den.length c']) (by simp)).cell 2
  have q0 : w1.cell? ⟨w.heap.size + 1, 0, none⟩ = some (.bool k.neg) := (HK.out.blk (w.heap.size + 1, 24, #[.bool k.neg, .slice C k.num.length d, .slice C' k.den.length d']) (by simp)).cell 0
  have q1 : w1.cell? ⟨w.heap.size + 1, 1, none⟩ = some (.slice C k.num.length d) := (HK.out.blk (w.heap.size + 1, 24, #[.bool k.neg, .slice C k.num.length d, .slice C' k.den.length d']) (by simp)).cell 1
  have q2 : w1.cell? ⟨w.heap.size + 1, 2, none⟩ = some (.slice C' k.den.length d') := (HK.out.blk (w.heap.size + 1, 24, #[.bool k.neg, .slice C k.num.length d, .slice C' k.den.length d']) (by simp)).cell 2
  go_wp2_with fail
  refine (Long_any ⟨w1.heap.size, 0, none⟩ 2 [(f.neg, (A, f.num.length, c), (A', f.den.length, c')), (k.neg, (C, k.num.length, d), (C', k.den.length, d'))] _ (rs2 w1 _ _ h.len h'.len k1.len k2.len)).mono ?_
  rw [HLONG.out]
  rintro e w2 ⟨rfl, hw2⟩
  have HK := Lib.hid (HK.out.below ((Below.refl _ _).alloc (Nat.le_refl _) (.cells #[.bool f.neg, .slice A f.num.length c, .slice A' f.den.length c', .bool k.neg, .slice C k.num.length d, .slice C' k.den.length d'] 24)))
  rw [hw2] at HK
  clear hw2
  clear p0 p1 p2 q0 q1 q2
  go_wp2
  go_ret
  exact ⟨rfl, HK.out.low⟩

set_option maxRecDepth 100000 in
set_option maxHeartbeats 8000000 in
theorem ro_no1 (f k : F) (A A' : Option Addr) (c c' : Nat) (C C' : Option Addr) (d d' : Nat) (w : World) (h : Rd w A f.num) (h' : Rd w A' f.den) (hc : f.num.length ≤ c) (hc' : f.den.length ≤ c')
    (k1 : Rd w C k.num) (k2 : Rd w C' k.den) (hd : k.num.length ≤ d) (hd' : k.den.length ≤ d') (htab : Tab w) (hlong : klongs [(f.neg, (A, f.num.length, c), (A', f.den.length, c')), (k.neg, (C, k.num.length, d), (C', k.den.length, d'))] = false) (hx : chk f ≠ 0) :
    Calls Tryz.prog 3 #[.agg #[.bool f.neg, .slice A f.num.length c, .slice A' f.den.length c'], .agg #[.bool k.neg, .slice C k.num.length d, .slice C' k.den.length d']] w fun e w' => e = .returned (.bool true) ∧ Below w.heap.size w w' := by
  have HLONG := Lib.hid hlong
  clear hlong
  have X1 : (if chk f = 0 then chk k else chk f) ≠ 0 := by rw [if_neg hx]; exact hx
  have X2 : (if chk k = 0 then chk f else chk k) ≠ 0 := by by_cases e : chk k = 0 <;> simp [e, hx]
  have HC1 := Lib.hid (fun W r1 r2 r3 r4 => rCompare_no f k A A' c c' C C' d d' W r1 r2 hc hc' r3 r4 hd hd' X1)
  have HC2 := Lib.hid (fun W r1 r2 r3 r4 => rCompare_no k f C C' d d' A A' c c' W r1 r2 hd hd' r3 r4 hc hc' X2)
  have HA := Lib.hid (fun W r1 r2 => rCheck_any f A A' c c' W r1 r2 hc hc')
  have HB := Lib.hid (fun W r1 r2 => rCheck_any k C C' d d' W r1 r2 hd hd')
  obtain ⟨y1, hy1⟩ : ∃ y, y = (if chk f = 0 then chk k else chk f) := ⟨_, rfl⟩
  obtain ⟨y2, hy2⟩ : ∃ y, y = (if chk k = 0 then chk f else chk k) := ⟨_, rfl⟩
  rw [← hy1] at HC1 X1
  rw [← hy2] at HC2 X2
  clear hy1 hy2
  generalize chk f = x at *
  generalize chk k = y at *
  have n1 : (y1 != 0) = true := bne_iff_ne.2 X1
  have n2 : (x != 0) = true := bne_iff_ne.2 hx
  clear X1 X2 hx
  obtain ⟨w0, e0, hK0⟩ := kp2 w 24 24 #[.bool f.neg, .slice A f.num.length c, .slice A' f.den.length c'] #[.bool k.neg, .slice C k.num.length d, .slice C' k.den.length d']
  have HK := Lib.hid hK0
  have HT := Lib.hid htab
  clear hK0 htab
  go_enter Tryz.func3, Tryz.ntmps3
  go_wp2_with fail
  rw [← e0]
  clear e0
  refine (awake_any w0 (HT.out.low HK.out.low (Nat.le_refl _))).mono ?_
  rintro e w1 ⟨rfl, hB⟩
  have HK := Lib.hid (HK.out.below hB)
  clear hB
  have p0 : w1.cell? ⟨w.heap.size, 0, none⟩ = some (.bool f.neg) := (HK.out.blk (w.heap.size, 24, #[.bool f.neg, .slice A f.num.length c, .slice A' f.den.length c']) (by simp)).cell 0
  have p1 : w1.cell? ⟨w.heap.size, 1, none⟩ = some (.slice A f.num.length c) := (HK.out.blk (w.heap.size, 24, #[.bool f.neg, .slice A f.num.length c, .slice A' f.den.length c']) (by simp)).cell 1
  have p2 : w1.cell? ⟨w.heap.size, 2, none⟩ = some (.slice A' f.den.length c') := (HK.out.blk (w.heap.size, 24, #[.bool f.neg, .slice A f.num.length c, .slice A' f.den.length c']) (by simp)).cell 2
  have q0 : w1.cell? ⟨w.heap.size + 1, 0, none⟩ = some (.bool k.neg) := (HK.out.blk (w.heap.size + 1, 24, #[.bool k.neg, .slice C k.num.length d, .slice C' k.den.length d']) (by simp)).cell 0
  have q1 : w1.cell? ⟨w.heap.size + 1, 1, none⟩ = some (.slice C k.num.length d) := (HK.out.blk (w.heap.size + 1, 24, #[.bool k.neg, .slice C k.num.length d, .slice C' k.den.length d']) (by simp)).cell 1
  have q2 : w1.cell? ⟨w.heap.size + 1, 2, none⟩ = some (.slice C' k.den.length d') := (HK.out.blk (w.heap.size + 1, 24, #[.bool k.neg, .slice C k.num.length d, .slice C' k.den.length d']) (by simp)).cell 2
  go_wp2_with fail
  refine (Long_any ⟨w1.heap.size, 0, none⟩ 2 [(f.neg, (A, f.num.length, c), (A', f.den.length, c')), (k.neg, (C, k.num.length, d), (C', k.den.length, d'))] _ (rs2 w1 _ _ h.len h'.len k1.len k2.len)).mono ?_
  rw [HLONG.out]
  rintro e w2 ⟨rfl, hw2⟩
  have HK := Lib.hid (HK.out.below ((Below.refl _ _).alloc (Nat.le_refl _) (.cells #[.bool f.neg, .slice A f.num.length c, .slice A' f.den.length c', .bool k.neg, .slice C k.num.length d, .slice C' k.den.length d'] 24)))
  rw [hw2] at HK
  clear hw2
  clear p0 p1 p2 q0 q1 q2
  have p0 : w2.cell? ⟨w.heap.size, 0, none⟩ = some (.bool f.neg) := (HK.out.blk (w.heap.size, 24, #[.bool f.neg, .slice A f.num.length c, .slice A' f.den.length c']) (by simp)).cell 0
  have p1 : w2.cell? ⟨w.heap.size, 1, none⟩ = some (.slice A f.num.length c) := (HK.out.blk (w.heap.size, 24, #[.bool f.neg, .slice A f.num.length c, .slice A' f.den.length c']) (by simp)).cell 1
  have p2 : w2.cell? ⟨w.heap.size, 2, none⟩ = some (.slice A' f.den.length c') := (HK.out.blk (w.heap.size, 24, #[.bool f.neg, .slice A f.num.length c, .slice A' f.den.length c']) (by simp)).cell 2
  have q0 : w2.cell? ⟨w.heap.size + 1, 0, none⟩ = some (.bool k.neg) := (HK.out.blk (w.heap.size + 1, 24, #[.bool k.neg, .slice C k.num.length d, .slice C' k.den.length d']) (by simp)).cell 0
  have q1 : w2.cell? ⟨w.heap.size + 1, 1, none⟩ = some (.slice C k.num.length d) := (HK.out.blk (w.heap.size + 1, 24, #[.bool k.neg, .slice C k.num.length d, .slice C' k.den.length d']) (by simp)).cell 1
  have q2 : w2.cell? ⟨w.heap.size + 1, 2, none⟩ = some (.slice C' k.den.length d') := (HK.out.blk (w.heap.size + 1, 24, #[.bool k.neg, .slice C k.num.length d, .slice C' k.den.length d']) (by simp)).cell 2
  go_wp2_with fail
  refine (HC1.out _ (h.below HK.out.low) (h'.below HK.out.low) (k1.below HK.out.low) (k2.below HK.out.low)).mono ?_
  rintro e w3 ⟨rfl, hB⟩
  have HK := Lib.hid (HK.out.below hB)
  clear hB
  clear p0 p1 p2 q0 q1 q2
  have p0 : w3.cell? ⟨w.heap.size, 0, none⟩ = some (.bool f.neg) := (HK.out.blk (w.heap.size, 24, #[.bool f.neg, .slice A f.num.length c, .slice A' f.den.length c']) (by simp)).cell 0
  have p1 : w3.cell? ⟨w.heap.size, 1, none⟩ = some (.slice A f.num.length c) := (HK.out.blk (w.heap.size, 24, #[.bool f.neg, .slice A f.num.length c, .slice A' f.den.length c']) (by simp)).cell 1
  have p2 : w3.cell? ⟨w.heap.size, 2, none⟩ = some (.slice A' f.den.length c') := (HK.out.blk (w.heap.size, 24, #[.bool f.neg, .slice A f.num.length c, .slice A' f.den.length c']) (by simp)).cell 2
  have q0 : w3.cell? ⟨w.heap.size + 1, 0, none⟩ = some (.bool k.neg) := (HK.out.blk (w.heap.size + 1, 24, #[.bool k.neg, .slice C k.num.length d, .slice C' k.den.length d']) (by simp)).cell 0
  have q1 : w3.cell? ⟨w.heap.size + 1, 1, none⟩ = some (.slice C k.num.length d) := (HK.out.blk (w.heap.size + 1, 24, #[.bool k.neg, .slice C k.num.length d, .slice C' k.den.length d']) (by simp)).cell 1
  have q2 : w3.cell? ⟨w.heap.size + 1, 2, none⟩ = some (.slice C' k.den.length d') := (HK.out.blk (w.heap.size + 1, 24, #[.bool k.neg, .slice C k.num.length d, .slice C' k.den.length d']) (by simp)).cell 2
  go_wp2_with fail
  refine (HC2.out _ (k1.below HK.out.low) (k2.below HK.out.low) (h.below HK.out.low) (h'.below HK.out.low)).mono ?_
  rintro e w4 ⟨rfl, hB⟩
  have HK := Lib.hid (HK.out.below hB)
  clear hB
  clear p0 p1 p2 q0 q1 q2
  have p0 : w4.cell? ⟨w.heap.size, 0, none⟩ = some (.bool f.neg) := (HK.out.blk (w.heap.size, 24, #[.bool f.neg, .slice A f.num.length c, .slice A' f.den.length c']) (by simp)).cell 0
  have p1 : w4.cell? ⟨w.heap.size, 1, none⟩ = some (.slice A f.num.length c) := (HK.out.blk (w.heap.size, 24, #[.bool f.neg, .slice A f.num.length c, .slice A' f.den.length c']) (by simp)).cell 1
  have p2 : w4.cell? ⟨w.heap.size, 2, none⟩ = some (.slice A' f.den.length c') := (HK.out.blk (w.heap.size, 24, #[.bool f.neg, .slice A f.num.length c, .slice A' f.den.length c']) (by simp)).cell 2
  have q0 : w4.cell? ⟨w.heap.size + 1, 0, none⟩ = some (.bool k.neg) := (HK.out.blk (w.heap.size + 1, 24, #[.bool k.neg, .slice C k.num.length d, .slice C' k.den.length d']) (by simp)).cell 0
  have q1 : w4.cell? ⟨w.heap.size + 1, 1, none⟩ = some (.slice C k.num.length d) := (HK.out.blk (w.heap.size + 1, 24, #[.bool k.neg, .slice C k.num.length d, .slice C' k.den.length d']) (by simp)).cell 1
  have q2 : w4.cell? ⟨w.heap.size + 1, 2, none⟩ = some (.slice C' k.den.length d') := (HK.out.blk (w.heap.size + 1, 24, #[.bool k.neg, .slice C k.num.length d, .slice C' k.den.length d']) (by simp)).cell 2
  go_wp2_with fail
  refine (HA.out _ (h.below HK.out.low) (h'.below HK.out.low)).mono ?_
  rintro e w5 ⟨rfl, hB⟩
  have HK := Lib.hid (HK.out.below hB)
  clear hB p0 p1 p2 q0 q1 q2
  go_wp2
  go_ret
  exact ⟨rfl, HK.out.low⟩

set_option maxRecDepth 100000 in
set_option maxHeartbeats 8000000 in
theorem ro_no2 (f k : F) (A A' : Option Addr) (c c' : Nat) (C C' : Option Addr) (d d' : Nat) (w : World) (h : Rd w A f.num) (h' : Rd w A' f.den) (hc : f.num.length ≤ c) (hc' : f.den.length ≤ c')
    (k1 : Rd w C k.num) (k2 : Rd w C' k.den) (hd : k.num.length ≤ d) (hd' : k.den.length ≤ d') (htab : Tab w) (hlong : klongs [(f.neg, (A, f.num.length, c), (A', f.den.length, c')), (k.neg, (C, k.num.length, d), (C', k.den.length, d'))] = false) (hx : chk f = 0) (hy : chk k ≠ 0) :
    Calls Tryz.prog 3 #[.agg #[.bool f.neg, .slice A f.num.length c, .slice A' f.den.length c'], .agg #[.bool k.neg, .slice C k.num.length d, .slice C' k.den.length d']] w fun e w' => e = .returned (.bool true) ∧ Below w.heap.size w w' := by
  have HLONG := Lib.hid hlong
  clear hlong
  have X1 : (if chk f = 0 then chk k else chk f) ≠ 0 := by rw [if_pos hx]; exact hy
  have X2 : (if chk k = 0 then chk f else chk k) ≠ 0 := by rw [if_neg hy]; exact hy
  have HC1 := Lib.hid (fun W r1 r2 r3 r4 => rCompare_no f k A A' c c' C C' d d' W r1 r2 hc hc' r3 r4 hd hd' X1)
  have HC2 := Lib.hid (fun W r1 r2 r3 r4 => rCompare_no k f C C' d d' A A' c c' W r1 r2 hd hd' r3 r4 hc hc' X2)
  have HA := Lib.hid (fun W r1 r2 => rCheck_any f A A' c c' W r1 r2 hc hc')
  have HB := Lib.hid (fun W r1 r2 => rCheck_any k C C' d d' W r1 r2 hd hd')
  rw [if_pos hx] at HC1
  rw [if_neg hy] at HC2
  rw [hx] at HA
  have n2 : (chk k != 0) = true := bne_iff_ne.2 hy
  clear X1 X2 hx hy
  generalize chk k = y at *
  obtain ⟨w0, e0, hK0⟩ := kp2 w 24 24 #[.bool f.neg, .slice A f.num.length c, .slice A' f.den.length c'] #[.bool k.neg, .slice C k.num.length d, .slice C' k.den.length d']
  have HK := Lib.hid hK0
  have HT := Lib.hid htab
  clear hK0 htab
  go_enter Tryz.func3, Tryz.ntmps3
  go_wp2_with fail
  rw [← e0]
  clear e0
  refine (awake_any w0 (HT.out.low HK.out.low (Nat.le_refl _))).mono ?_
  rintro e w1 ⟨rfl, hB⟩
  have HK := Lib.hid (HK.out.below hB)
  clear hB
  have p0 : w1.cell? ⟨w.heap.size, 0, none⟩ = some (.bool f.neg) := (HK.out.blk (w.heap.size, 24, #[.bool f.neg, .slice A f.num.length c, .slice A' f.den.length c']) (by simp)).cell 0
  have p1 : w1.cell? ⟨w.heap.size, 1, none⟩ = some (.slice A f.num.length c) := (HK.out.blk (w.heap.size, 24, #[.bool f.neg, .slice A f.num.length c, .slice A' f.den.length c']) (by simp)).cell 1
  have p2 : w1.cell? ⟨w.heap.size, 2, none⟩ = some (.slice A' f.den.length c') := (HK.out.blk (w.heap.size, 24, #[.bool f.neg, .slice A f.num.length c, .slice A' f.den.length c']) (by simp)).cell 2
  have q0 : w1.cell? ⟨w.heap.size + 1, 0, none⟩ = some (.bool k.neg) := (HK.out.blk (w.heap.size + 1, 24, #[.bool k.neg, .slice C k.num.length d, .slice C' k.den.length d']) (by simp)).cell 0
  have q1 : w1.cell? ⟨w.heap.size + 1, 1, none⟩ = some (.slice C k.num.length d) := (HK.out.blk (w.heap.size + 1, 24, #[.bool k.neg, .slice C k.num.length d, .slice C' k.den.length d']) (by simp)).cell 1
  have q2 : w1.cell? ⟨w.heap.size + 1, 2, none⟩ = some (.slice C' k.den.length d') := (HK.out.blk (w.heap.size + 1, 24, #[.bool k.neg, .slice C k.num.length d, .slice C' k.den.length d']) (by simp)).cell 2
  go_wp2_with fail
  refine (Long_any ⟨w1.heap.size, 0, none⟩ 2 [(f.neg, (A, f.num.length, c), (A', f.den.length, c')), (k.neg, (C, k.num.length, d), (C', k.den.length, d'))] _ (rs2 w1 _ _ h.len h'.len k1.len k2.len)).mono ?_
  rw [HLONG.out]
  rintro e w2 ⟨rfl, hw2⟩
  have HK := Lib.hid (HK.out.below ((Below.refl _ _).alloc (Nat.le_refl _) (.cells #[.bool f.neg, .slice A f.num.length c, .slice A' f.den.length c', .bool k.neg, .slice C k.num.length d, .slice C' k.den.length d'] 24)))
  rw [hw2] at HK
  clear hw2
  clear p0 p1 p2 q0 q1 q2
  have p0 : w2.cell? ⟨w.heap.size, 0, none⟩ = some (.bool f.neg) := (HK.out.blk (w.heap.size, 24, #[.bool f.neg, .slice A f.num.length c, .slice A' f.den.length c']) (by simp)).cell 0
  have p1 : w2.cell? ⟨w.heap.size, 1, none⟩ = some (.slice A f.num.length c) := (HK.out.blk (w.heap.size, 24, #[.bool f.neg, .slice A f.num.length c, .slice A' f.den.length c']) (by simp)).cell 1
  have p2 : w2.cell? ⟨w.heap.size, 2, none⟩ = some (.slice A' f.den.length c') := (HK.out.blk (w.heap.size, 24, #[.bool f.neg, .slice A f.num.length c, .slice A' f.den.length c']) (by simp)).cell 2
  have q0 : w2.cell? ⟨w.heap.size + 1, 0, none⟩ = some (.bool k.neg) := (HK.out.blk (w.heap.size + 1, 24, #[.bool k.neg, .slice C k.num.length d, .slice C' k.den.length d']) (by simp)).cell 0
  have q1 : w2.cell? ⟨w.heap.size + 1, 1, none⟩ = some (.slice C k.num.length d) := (HK.out.blk (w.heap.size + 1, 24, #[.bool k.neg, .slice C k.num.length d, .slice C' k.den.length d']) (by simp)).cell 1
  have q2 : w2.cell? ⟨w.heap.size + 1, 2, none⟩ = some (.slice C' k.den.length d') := (HK.out.blk (w.heap.size + 1, 24, #[.bool k.neg, .slice C k.num.length d, .slice C' k.den.length d']) (by simp)).cell 2
  go_wp2_with fail
  refine (HC1.out _ (h.below HK.out.low) (h'.below HK.out.low) (k1.below HK.out.low) (k2.below HK.out.low)).mono ?_
  rintro e w3 ⟨rfl, hB⟩
  have HK := Lib.hid (HK.out.below hB)
  clear hB
  clear p0 p1 p2 q0 q1 q2
  have p0 : w3.cell? ⟨w.heap.size, 0, none⟩ = some (.bool f.neg) := (HK.out.blk (w.heap.size, 24, #[.bool f.neg, .slice A f.num.length c, .slice A' f.den.length c']) (by simp)).cell 0
  have p1 : w3.cell? ⟨w.heap.size, 1, none⟩ = some (.slice A f.num.length c) := (HK.out.blk (w.heap.size, 24, #[.bool f.neg, .slice A f.num.length c, .slice A' f.den.length c']) (by simp)).cell 1
  have p2 : w3.cell? ⟨w.heap.size, 2, none⟩ = some (.slice A' f.den.length c') := (HK.out.blk (w.heap.size, 24, #[.bool f.neg, .slice A f.num.length c, .slice A' f.den.length c']) (by simp)).cell 2
  have q0 : w3.cell? ⟨w.heap.size + 1, 0, none⟩ = some (.bool k.neg) := (HK.out.blk (w.heap.size + 1, 24, #[.bool k.neg, .slice C k.num.length d, .slice C' k.den.length d']) (by simp)).cell 0
  have q1 : w3.cell? ⟨w.heap.size + 1, 1, none⟩ = some (.slice C k.num.length d) := (HK.out.blk (w.heap.size + 1, 24, #[.bool k.neg, .slice C k.num.length d, .slice C' k.den.length d']) (by simp)).cell 1
  have q2 : w3.cell? ⟨w.heap.size + 1, 2, none⟩ = some (.slice C' k.den.length d') := (HK.out.blk (w.heap.size + 1, 24, #[.bool k.neg, .slice C k.num.length d, .slice C' k.den.length d']) (by simp)).cell 2
  go_wp2_with fail
  refine (HC2.out _ (k1.below HK.out.low) (k2.below HK.out.low) (h.below HK.out.low) (h'.below HK.out.low)).mono ?_
  rintro e w4 ⟨rfl, hB⟩
  have HK := Lib.hid (HK.out.below hB)
  clear hB
  clear p0 p1 p2 q0 q1 q2
  have p0 : w4.cell? ⟨w.heap.size, 0, none⟩ = some (.bool f.neg) := (HK.out.blk (w.heap.size, 24, #[.bool f.neg, .slice A f.num.length c, .slice A' f.den.length c']) (by simp)).cell 0
  have p1 : w4.cell? ⟨w.heap.size, 1, none⟩ = some (.slice A f.num.length c) := (HK.out.blk (w.heap.size, 24, #[.bool f.neg, .slice A f.num.length c, .slice A' f.den.length c']) (by simp)).cell 1
  have p2 : w4.cell? ⟨w.heap.size, 2, none⟩ = some (.slice A' f.den.length c') := (HK.out.blk (w.heap.size, 24, #[.bool f.neg, .slice A f.num.length c, .slice A' f.den.length c']) (by simp)).cell 2
  have q0 : w4.cell? ⟨w.heap.size + 1, 0, none⟩ = some (.bool k.neg) := (HK.out.blk (w.heap.size + 1, 24, #[.bool k.neg, .slice C k.num.length d, .slice C' k.den.length d']) (by simp)).cell 0
  have q1 : w4.cell? ⟨w.heap.size + 1, 1, none⟩ = some (.slice C k.num.length d) := (HK.out.blk (w.heap.size + 1, 24, #[.bool k.neg, .slice C k.num.length d, .slice C' k.den.length d']) (by simp)).cell 1
  have q2 : w4.cell? ⟨w.heap.size + 1, 2, none⟩ = some (.slice C' k.den.length d') := (HK.out.blk (w.heap.size + 1, 24, #[.bool k.neg, .slice C k.num.length d, .slice C' k.den.length d']) (by simp)).cell 2
  go_wp2_with fail
  refine (HA.out _ (h.below HK.out.low) (h'.below HK.out.low)).mono ?_
  rintro e w5 ⟨rfl, hB⟩
  have HK := Lib.hid (HK.out.below hB)
  clear hB
  clear p0 p1 p2 q0 q1 q2
  have p0 : w5.cell? ⟨w.heap.size, 0, none⟩ = some (.bool f.neg) := (HK.out.blk (w.heap.size, 24, #[.bool f.neg, .slice A f.num.length c, .slice A' f.den.length c']) (by simp)).cell 0
  have p1 : w5.cell? ⟨w.heap.size, 1, none⟩ = some (.slice A f.num.length c) := (HK.out.blk (w.heap.size, 24, #[.bool f.neg, .slice A f.num.length c, .slice A' f.den.length c']) (by simp)).cell 1
  have p2 : w5.cell? ⟨w.heap.size, 2, none⟩ = some (.slice A' f.den.length c') := (HK.out.blk (w.heap.size, 24, #[.bool f.neg, .slice A f.num.length c, .slice A' f.den.length c']) (by simp)).cell 2
  have q0 : w5.cell? ⟨w.heap.size + 1, 0, none⟩ = some (.bool k.neg) := (HK.out.blk (w.heap.size + 1, 24, #[.bool k.neg, .slice C k.num.length d, .slice C' k.den.length d']) (by simp)).cell 0
  have q1 : w5.cell? ⟨w.heap.size + 1, 1, none⟩ = some (.slice C k.num.length d) := (HK.out.blk (w.heap.size + 1, 24, #[.bool k.neg, .slice C k.num.length d, .slice C' k.den.length d']) (by simp)).cell 1
  have q2 : w5.cell? ⟨w.heap.size + 1, 2, none⟩ = some (.slice C' k.den.length d') := (HK.out.blk (w.heap.size + 1, 24, #[.bool k.neg, .slice C k.num.length d, .slice C' k.den.length d']) (by simp)).cell 2
  go_wp2_with fail
  refine (HB.out _ (k1.below HK.out.low) (k2.below HK.out.low)).mono ?_
  rintro e w6 ⟨rfl, hB⟩
  have HK := Lib.hid (HK.out.below hB)
  clear hB
  clear p0 p1 p2 q0 q1 q2
  go_wp2
  go_ret
  exact ⟨rfl, HK.out.low⟩
end Go.Proofs.YtbjclfmplndkcaaGreatDoor
