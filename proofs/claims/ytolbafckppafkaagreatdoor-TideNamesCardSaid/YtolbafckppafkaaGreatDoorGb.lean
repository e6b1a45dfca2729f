/-
  PACKAGE gauss: asked, Check.
-/
import Derived.Test.YtolbafckppafkaaGreatDoorGa
set_option linter.unusedVariables false
set_option linter.unusedSimpArgs false
set_option linter.unnecessarySimpa false
namespace Go.Proofs.YtolbafckppafkaaGreatDoor
open Go.RowKit Pl

abbrev FL := F × Loc
def flat (gs : List (FL × FL)) : List FL := gs.flatMap fun x => [x.1, x.2]
theorem flat_at (gs : List (FL × FL)) (k : Nat) (hk : k < gs.length) : ∃ h1 : 2 * k < (flat gs).length, ∃ h2 : 2 * k + 1 < (flat gs).length, (flat gs)[2 * k]'h1 = (gs[k]'hk).1 ∧ (flat gs)[2 * k + 1]'h2 = (gs[k]'hk).2 := by
  induction gs generalizing k with
  | nil => exact absurd hk (Nat.not_lt_zero _)
  | cons x gs ih =>
    have e : flat (x :: gs) = x.1 :: x.2 :: flat gs := rfl
    rw [e]
    cases k with
    | zero => exact ⟨by simp, by simp, rfl, rfl⟩
    | succ k =>
      obtain ⟨h1, h2, q1, q2⟩ := ih k (by simpa using hk)
      refine ⟨by simp; omega, by simp; omega, ?_, ?_⟩
      · simpa [Nat.mul_succ] using q1
      · simpa [Nat.mul_succ] using q2
theorem flat_take (gs : List (FL × FL)) (k : Nat) (hk : k < gs.length) (e : Int) : chks e (flat (gs.take (k + 1))) = chks (chks e (flat (gs.take k))) [(gs[k]'hk).1, (gs[k]'hk).2] := by
  rw [List.take_succ_eq_append_getElem hk]
  unfold chks flat
  rw [List.flatMap_append, List.foldl_append]
  rfl
theorem only_low {w w' : World} (h : w.grownBy w' (some w.heap.size)) : Below w.heap.size w w' :=
  ⟨h.os, h.tape, h.output, h.size, fun k hk => h.block k hk (by simp; omega)⟩

set_option maxHeartbeats 2000000 in
theorem asked_any (gs : List (FL × FL)) (a : Nat) (w : World) (ha : Blk w a 29 (rowOf (flat gs))) (hn : gs.length ≤ 10) (hs : ∀ x ∈ gs, RdL w x.1.1 x.1.2 ∧ RdL w x.2.1 x.2.2) :
    Calls Tryz.prog 39 #[.slice (some ⟨a, 0, none⟩) gs.length gs.length] w fun e' w' =>
      ∃ g, e' = .returned (.pointer (some ⟨g, 0, none⟩)) ∧ w.heap.size ≤ g ∧ Blk w' g 71 #[.int .i64 (chks 0 (flat gs))] ∧ Below w.heap.size w w' := by
  have HS := Lib.hid hs
  have HA := Lib.hid ha
  have hne : a ≠ w.heap.size := Nat.ne_of_lt ha.lt
  have HG := Lib.hid (Blk.new w 71 #[.int .i64 0])
  have HW := Lib.hid (only_below ((Below.refl w.heap.size w).alloc (Nat.le_refl _) (.cells #[.int .i64 0] 71)) (some w.heap.size))
  clear hs ha
  go_enter Tryz.func39, Tryz.ntmps39
  go_wp2
  go_loopw [9, 5] (fun i j wr => ∃ k : Nat, k ≤ gs.length ∧ i = .int .i64 k ∧ Hid (Blk wr w.heap.size 71 #[.int .i64 (chks 0 (flat (gs.take k)))]) ∧ Hid (w.grownBy wr (some w.heap.size))) (fun i _ _ => gs.length - (intOf i).toNat)
  case atStart => exact ⟨0, Nat.zero_le _, rfl, HG, HW⟩
  case round =>
    obtain ⟨k, hk, rfl, KG, KW⟩ := hrel
    clear HG HW
    by_cases h0 : k < gs.length
    · have hkl : (k : Int) < (gs.length : Int) := by omega
      have HRw := Lib.hid (HA.out.only KW.out hne)
      obtain ⟨h1, h2, f1, f2⟩ := flat_at gs k h0
      obtain ⟨p0, p1, p2⟩ := row_at (flat gs) (2 * k) h1
      obtain ⟨p3, p4, p5⟩ := row_at (flat gs) (2 * k + 1) h2
      obtain ⟨y1, y2⟩ := HS.out _ (List.getElem_mem h0)
      have HT := Lib.hid (flat_take gs k h0 0)
      rw [f1] at p0 p1 p2
      rw [f2] at p3 p4 p5
      rw [show 2 * k * 3 = k * 6 by omega] at p0 p1 p2
      rw [show (2 * k + 1) * 3 = k * 6 + 3 by omega] at p3 p4 p5
      clear f1 f2 h1 h2
      generalize (gs[k]'h0) = x at *
      obtain ⟨⟨⟨fn, fl, fm⟩, ⟨A, c, A', c'⟩⟩, ⟨⟨kn, kl, km⟩, ⟨D, d, D', d'⟩⟩⟩ := x
      have HX1 := Lib.hid (y1.st KW.out (Nat.le_refl _))
      have HX2 := Lib.hid (y2.st KW.out (Nat.le_refl _))
      clear y1 y2
      have q0 := (HRw.out.cell (k * 6)).trans p0
      have q1 := (HRw.out.cell (k * 6 + 1)).trans p1
      have q2 := (HRw.out.cell (k * 6 + 2)).trans p2
      have q3 := (HRw.out.cell (k * 6 + 3)).trans p3
      have q4 := (HRw.out.cell (k * 6 + 4)).trans p4
      have q5 := (HRw.out.cell (k * 6 + 5)).trans p5
      simp only at q0 q1 q2 q3 q4 q5 HT
      generalize chks 0 (flat (gs.take k)) = z at *
      clear p0 p1 p2 p3 p4 p5
      have hB1 := (Below.refl wr.heap.size wr).alloc (Nat.le_refl _) (.cells #[.bool fn, .slice A fl.length c, .slice A' fm.length c', .bool kn, .slice D kl.length d, .slice D' km.length d'] 29)
      have hB2 := hB1.alloc hB1.size (.cells #[.bool fn, .slice A fl.length c, .slice A' fm.length c', .bool kn, .slice D kl.length d, .slice D' km.length d'] 27)
      have hR : Blk ((wr.alloc (.cells #[.bool fn, .slice A fl.length c, .slice A' fm.length c', .bool kn, .slice D kl.length d, .slice D' km.length d'] 29)).alloc (.cells #[.bool fn, .slice A fl.length c, .slice A' fm.length c', .bool kn, .slice D kl.length d, .slice D' km.length d'] 27)) (wr.heap.size + 1) 27 (rowOf [((⟨fn, fl, fm⟩ : F), (⟨A, c, A', c'⟩ : Loc)), (⟨kn, kl, km⟩, ⟨D, d, D', d'⟩)]) := by
        have h := Blk.new (wr.alloc (.cells #[.bool fn, .slice A fl.length c, .slice A' fm.length c', .bool kn, .slice D kl.length d, .slice D' km.length d'] 29)) 27 #[.bool fn, .slice A fl.length c, .slice A' fm.length c', .bool kn, .slice D kl.length d, .slice D' km.length d']
        have e1 : (wr.alloc (.cells #[.bool fn, .slice A fl.length c, .slice A' fm.length c', .bool kn, .slice D kl.length d, .slice D' km.length d'] 29)).heap.size = wr.heap.size + 1 := by show (wr.heap.push _).size = _; simp
        rw [e1] at h
        exact h
      have C := Lib.hid (wayCheck_any [((⟨fn, fl, fm⟩ : F), (⟨A, c, A', c'⟩ : Loc)), (⟨kn, kl, km⟩, ⟨D, d, D', d'⟩)] w.heap.size (wr.heap.size + 1) z _ (KG.out.below hB2 KG.out.lt) hR (by simp) (by
        intro x hx
        simp only [List.mem_cons, List.not_mem_nil, or_false] at hx
        rcases hx with rfl | rfl
        · exact HX1.out.below hB2
        · exact HX2.out.below hB2))
      have HW2 := Lib.hid (only_trans KW.out (only_below hB2 (some w.heap.size)))
      clear hR hB1 hB2 KG KW HX1 HX2
      go_wp2_with fail
      refine C.out.mono ?_
      rintro e1 w1 ⟨rfl, hG, hW⟩
      have HG := Lib.hid hG
      have HW := Lib.hid (only_trans HW2.out hW)
      clear hG hW q0 q1 q2 q3 q4 q5
      go_wp2
      go_roundw
      case rel => exact ⟨k + 1, by omega, by go_num, Lib.hid (by rw [HT.out]; exact HG.out), HW⟩
      case measure => first | (simp [intOf]; done) | (simp [intOf]; omega)
    · have HK := Lib.hid (show chks 0 (flat (gs.take k)) = chks 0 (flat gs) by rw [List.take_of_length_le (by omega)])
      go_wp2
      go_ret
      exact ⟨_, rfl, Nat.le_refl _, by rw [← HK.out]; exact KG.out, only_low KW.out⟩
end Go.Proofs.YtolbafckppafkaaGreatDoor
