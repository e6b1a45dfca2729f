/-
  PACKAGE tide: number; what a text's number is.
-/
import Derived.Test.YtolbafckppafkaaGreatDoorYN
import Derived.Test.YtolbafckppafkaaGreatDoorYB
import Derived.Test.YtolbafckppafkaaGreatDoorShE
import Derived.Lib.AppendIntMem
set_option linter.unusedVariables false
set_option linter.unusedSimpArgs false
set_option linter.unnecessarySimpa false
namespace Go.Proofs.YtolbafckppafkaaGreatDoor
open Go.RowKit Pl

/-- strconv's two errors stand -/
def Errs (w : World) : Prop := (∃ tp p, w.var? Tryz.prog "strconv.ErrSyntax" = some #[.iface tp p]) ∧ (∃ tp p, w.var? Tryz.prog "strconv.ErrRange" = some #[.iface tp p])
theorem var_below {w w' : World} {s : String} {cs : Array Value} {n : Nat} (h : w.var? Tryz.prog s = some cs) (hb : Below n w w') (hn : w.heap.size ≤ n) : w'.var? Tryz.prog s = some cs := by
  unfold World.var? at *
  cases hg : Tryz.prog.globalNamed s with
  | none => simp [hg] at h
  | some g =>
    simp only [hg, Option.bind_some] at h ⊢
    have hlt : g < w.heap.size := by
      rcases Nat.lt_or_ge g w.heap.size with hl | hl
      · exact hl
      · rw [Array.getElem?_eq_none hl] at h; simp at h
    rw [hb.block g (by omega)]; exact h
theorem Errs.low {w w' : World} {n : Nat} (h : Errs w) (hb : Below n w w') (hn : w.heap.size ≤ n) : Errs w' := by
  obtain ⟨⟨a, b, h1⟩, ⟨c, d, h2⟩⟩ := h
  exact ⟨⟨a, b, var_below h1 hb hn⟩, ⟨c, d, var_below h2 hb hn⟩⟩

/-- is a text a number of five bytes at most, and which -/
def isNum (l : List UInt8) : Bool := match Lib.atoiAll l with
  | .ok v => decide (l.length ≤ 5) && decide (Lib.itoa v = l)
  | _ => false
def numOf (l : List UInt8) : Int := match Lib.atoiAll l with
  | .ok v => wrap32 v
  | _ => 0

theorem Itoa_any (n : Int) (h0 : -9223372036854775808 ≤ n) (h1 : n ≤ 9223372036854775807) (w : World) (ht : Tab w) :
    Calls Tryz.prog 56 #[.int .i64 n] w fun e w' => e = .returned (.string ⟨(Lib.itoa n).toArray⟩) ∧ Below w.heap.size w w' := by
  refine (Tryz.strconv_Itoa n h0 h1 w ht).mono ?_
  rintro e w' ⟨rfl, k, os, rfl⟩
  exact ⟨rfl, Lib.below_grow _ _ (Nat.le_refl _) k os⟩

set_option maxHeartbeats 1000000 in
theorem number_any (l : List UInt8) (w : World) (hs : l.length ≤ 65536) (ht : Tab w) (he : Errs w) :
    Calls Tryz.prog 51 #[.string ⟨l.toArray⟩] w fun e w' => ∃ n, e = .returned (.tuple #[.int .i32 n, .bool (isNum l)]) ∧ (isNum l = true → n = numOf l) ∧ Below w.heap.size w w' := by
  have hsz : (⟨l.toArray⟩ : ByteArray).size = l.length := by show l.toArray.size = _; simp
  have hdl : (⟨l.toArray⟩ : ByteArray).data.toList = l := rfl
  have HT := Lib.hid ht
  unfold isNum numOf
  cases hx : Lib.atoiAll l with
  | ok v =>
    simp only
    have A := Tryz.strconv_Atoi_ok ⟨l.toArray⟩ (by rw [hsz]; omega) v (by rw [hdl]; exact hx) w
    obtain ⟨v0, v1⟩ := Lib.atoiAll_bounds hx
    have HA := Lib.hid A
    have HI := Lib.hid (fun W t => Itoa_any v v0 v1 W t)
    clear A hx
    obtain ⟨b, hb⟩ : ∃ b, b = (decide (l.length ≤ 5) && decide (Lib.itoa v = l)) := ⟨_, rfl⟩
    rw [← hb]
    have HQ := Lib.hid hb
    clear hb
    go_enter Tryz.func51, Tryz.ntmps51
    go_wp2_with fail
    refine HA.out.mono ?_
    rintro e w1 ⟨rfl, hW⟩
    have HB : Hid (Below w.heap.size w w1) := Lib.hid (by
      rcases hW with rfl | ⟨t, rfl⟩
      · exact Below.refl _ _
      · exact Lib.bytesWorld_below _ _ _)
    clear hW
    by_cases hl : l.length ≤ 5
    · have hl' : (l.length : Int) ≤ 5 := by omega
      go_wp2_with fail
      refine (HI.out w1 (HT.out.low HB.out (Nat.le_refl _))).mono ?_
      rintro e w2 ⟨rfl, hB⟩
      have HB := Lib.hid (below_trans HB.out hB)
      clear hB
      have E := Lib.hid (show b = (Lib.itoa v == l) by rw [HQ.out, decide_eq_true hl, Bool.true_and]; exact Bool.eq_iff_iff.2 (by simp))
      go_wp2
      go_ret2
      exact ⟨wrap32 v, by rw [E.out]; rfl, fun _ => rfl, HB.out⟩
    · have hl' : ¬ (l.length : Int) ≤ 5 := by omega
      have E := Lib.hid (show b = false by rw [HQ.out, decide_eq_false hl]; rfl)
      go_wp2
      go_ret2
      exact ⟨wrap32 v, by rw [E.out]; rfl, fun _ => rfl, HB.out⟩
  | range =>
    simp only
    obtain ⟨_, ⟨tp, p, hv⟩⟩ := he
    have A := Tryz.strconv_Atoi_range_var ⟨l.toArray⟩ (by rw [hsz]; omega) (by rw [hdl]; exact hx) tp p w hv
    have HA := Lib.hid A
    have hsat := Lib.atoiSat_bounds (⟨l.toArray⟩ : ByteArray).data.toList
    generalize Lib.atoiSat (⟨l.toArray⟩ : ByteArray).data.toList = z at *
    obtain ⟨z0, z1⟩ := hsat
    clear A hx hv
    go_enter Tryz.func51, Tryz.ntmps51
    go_wp2_with fail
    refine HA.out.mono ?_
    rintro e w1 ⟨N, rfl, hN, hb, hB⟩
    have HB := Lib.hid hB
    clear hN hb hB
    go_wp2
    go_ret2
    exact ⟨_, rfl, fun h => by simp at h, HB.out⟩
  | _ =>
    simp only
    obtain ⟨⟨tp, p, hv⟩, _⟩ := he
    have A : Calls Tryz.prog 78 #[.string ⟨l.toArray⟩] w fun e w' => ∃ N, e = .returned (.tuple #[.int .i64 0, .iface 167 (.pointer (some ⟨N, 0, none⟩))]) ∧ w.heap.size ≤ N ∧ w'.heap[N]? = some (.cells #[.string ⟨#[65, 116, 111, 105]⟩, .string ⟨l.toArray⟩, .iface tp p] 189 (0, 0)) ∧ Below w.heap.size w w' :=
      Any.strconv_Atoi_syntax_var Tryz.laysC172 ⟨l.toArray⟩ (by rw [hsz]; omega) (by rw [hdl]; exact hx) tp p w hv
    have HA := Lib.hid A
    clear A hx hv
    go_enter Tryz.func51, Tryz.ntmps51
    go_wp2_with fail
    refine HA.out.mono ?_
    rintro e w1 ⟨N, rfl, hN, hb, hB⟩
    have HB := Lib.hid hB
    clear hN hb hB
    go_wp2
    go_ret2
    exact ⟨_, rfl, fun h => by simp at h, HB.out⟩
end Go.Proofs.YtolbafckppafkaaGreatDoor
