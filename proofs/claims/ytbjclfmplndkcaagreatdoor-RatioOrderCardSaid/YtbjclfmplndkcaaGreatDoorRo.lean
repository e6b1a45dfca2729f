/-
  RatioOrder: whatever the input the call returns true, and each argument reads as before. No condition of our own: the card's laid variables are tied to the program's text.
-/
import Derived.Test.YtbjclfmplndkcaaGreatDoorCards
import Derived.Test.YtbjclfmplndkcaaGreatDoorTie
import Derived.Test.YtbjclfmplndkcaaGreatDoorR0
import Derived.Test.YtbjclfmplndkcaaGreatDoorR1
import Derived.Test.YtbjclfmplndkcaaGreatDoorR2
import Derived.Test.YtbjclfmplndkcaaGreatDoorR3
import Derived.Test.YtbjclfmplndkcaaGreatDoorOp
import Derived.ProofKit
import Derived.OpenShut
import Derived.Carry
import Derived.Deep.DeepHandedRow
import Derived.Deep.DeepWitnessRowRef
import Derived.Lib.LaidTab
import Derived.Lib.SmallJoins
import Derived.LaidSub
import Derived.LaidMore
import Derived.Lay
set_option linter.unusedVariables false
set_option linter.unusedSimpArgs false
set_option linter.unnecessarySimpa false
namespace Go.Proofs.YtbjclfmplndkcaaGreatDoor
open Go.ChangeShapes Go.WideShapes Go.ChangeAt Go.RowKit Go.Joins Go.Deep Pl

theorem sub_or {f k : F} (hf : f.ok) (hk : k.ok) : ∃ less, subR f k = (less, 0) ∨ subR f k = (less, 3) := by
  have hx : ck2 f k = 0 := (ck2_ok hf.1.1 hf.2.1.1 hk.1.1 hk.2.1.1).2 ⟨hf, hk⟩
  unfold subR
  rw [if_neg (fun h => h hx)]
  unfold tell
  split
  · exact ⟨_, .inl rfl⟩
  · exact ⟨_, .inr rfl⟩
theorem add_or {f k : F} (hf : f.ok) (hk : k.ok) : ∃ nx, addR f k = (nx, 0) ∨ addR f k = (nx, 3) := by
  have hx : ck2 f k = 0 := (ck2_ok hf.1.1 hf.2.1.1 hk.1.1 hk.2.1.1).2 ⟨hf, hk⟩
  unfold addR
  rw [if_neg (fun h => h hx)]
  unfold tell
  split
  · exact ⟨_, .inl rfl⟩
  · exact ⟨_, .inr rfl⟩

theorem RatioOrder_any (f k : F) (A A' : Option Addr) (c c' : Nat) (C C' : Option Addr) (d d' : Nat) (w : World) (h : Rd w A f.num) (h' : Rd w A' f.den) (hc : f.num.length ≤ c) (hc' : f.den.length ≤ c')
    (k1 : Rd w C k.num) (k2 : Rd w C' k.den) (hd : k.num.length ≤ d) (hd' : k.den.length ≤ d') (htab : Tab w) :
    Calls Tryz.prog 3 #[.agg #[.bool f.neg, .slice A f.num.length c, .slice A' f.den.length c'], .agg #[.bool k.neg, .slice C k.num.length d, .slice C' k.den.length d']] w fun e w' =>
      e = .returned (.bool true) ∧ Below w.heap.size w w' := by
  cases hl : klongs [(f.neg, (A, f.num.length, c), (A', f.den.length, c')), (k.neg, (C, k.num.length, d), (C', k.den.length, d'))]
  · by_cases hx : chk f = 0
    · by_cases hy : chk k = 0
      · have hf := (chk_ok h.inr h'.inr).1 hx
        have hk := (chk_ok k1.inr k2.inr).1 hy
        obtain ⟨less, hs⟩ := sub_or hf hk
        have e11 : tell (smallQ 1 1) = (⟨false, [1], [1]⟩, 0) := by kernel_rfl
        have h60 := len60 hl hf
        obtain ⟨nx, hn⟩ := add_or (tell_good' (floor_tell hf h60).1).1 (tell_good' e11).1
        rcases hs with hs | hs
        · rcases hn with hn | hn
          · exact ro_y00 f k A A' c c' C C' d d' w h h' hc hc' k1 k2 hd hd' htab hl hf hk less nx hs hn
          · exact ro_y03 f k A A' c c' C C' d d' w h h' hc hc' k1 k2 hd hd' htab hl hf hk less nx hs hn
        · rcases hn with hn | hn
          · exact ro_y30 f k A A' c c' C C' d d' w h h' hc hc' k1 k2 hd hd' htab hl hf hk less nx hs hn
          · exact ro_y33 f k A A' c c' C C' d d' w h h' hc hc' k1 k2 hd hd' htab hl hf hk less nx hs hn
      · exact ro_no2 f k A A' c c' C C' d d' w h h' hc hc' k1 k2 hd hd' htab hl hx hy
    · exact ro_no1 f k A A' c c' C C' d d' w h h' hc hc' k1 k2 hd hd' htab hl hx
  · exact ro_long f k A A' c c' C C' d d' w h h' hc hc' k1 k2 hd hd' htab hl

namespace ratioOrder
theorem own : ownKnob Tryz.prog.godebug = none := by kernel_rfl
theorem gTab : Tryz.prog.globalNamed "internal/strconv.uint64pow10" = some 5 := by kernel_rfl
theorem gTabType : (Tryz.prog.globals[5]?).map (·.type) = some 155 := by kernel_rfl
theorem cellsTab : Tryz.prog.cellsOf 155 = 20 := by kernel_rfl
theorem cellsU : Tryz.prog.cellsOf 71 = 1 := by kernel_rfl
/-- the row's list gives the table of powers -/
theorem table {W : World} (h : laidMetH Tryz.prog Rows.ratioOrderRow.laid W) : Tab W := by
  have h1 := h.filter (fun x => x.1 == "internal/strconv.uint64pow10")
  have e : (Rows.ratioOrderRow.laid.filter fun x => x.1 == "internal/strconv.uint64pow10") = [("internal/strconv.uint64pow10", Rows.laid_internal_strconv_uint64pow10)] := by rfl
  rw [e] at h1
  exact Lib.tabIs_of_head (rest := []) gTab gTabType Tryz.underlying155 Tryz.underlying71 cellsU cellsTab h1

set_option maxRecDepth 100000 in
theorem contract (H : Type) (enc : TypeId × Value → H) (W : World) (base : Nat) (args : Array Value) (ds gs : List (DataW H)) (before : List MemPlace)
    (hval : ∀ (j : Nat) t v, Tryz.f3.params[j]? = some t → args[j]? = some v → Value.okWide Tryz.prog W .any base t v)
    (hW : DataW.Whole enc Tryz.prog Tryz.f3.params.toList Rows.ratioOrderSpec.vars false W args.toList ds gs before) (hL : laidMetH Tryz.prog Rows.ratioOrderRow.laid W) :
    Calls Tryz.prog 3 args W fun e W' => ∃ v, e = .returned v ∧ Rows.ratioOrderSpec.post enc Tryz.prog Tryz.f3 false true false false W args v W' := by
  have hW' := hW
  have hlt : ∀ p ∈ before, p.block < W.heap.size := fun p hp => hW.lt p hp
  obtain ⟨p, q, hA0, hV, rfl, hfz, hnd⟩ := hW
  have hA : DataW.TrodAll enc Tryz.prog W 0 (fun _ => true) true Tryz.f3.params.toList args.toList ds p := hA0
  have hA1 := hA
  rw [Tryz.params3] at hA hval
  obtain ⟨v0, vs0, d0, ds0, p0, q0, hargs, rfl, rfl, h0, r0⟩ := trodAll_cons hA
  obtain ⟨v1, vs1, d1, ds1, p1, q1, rfl, rfl, rfl, h1, r1⟩ := trodAll_cons r0
  obtain ⟨rfl, rfl, rfl⟩ := trodAll_nil r1
  obtain rfl : args = #[v0, v1] := by cases args; simp_all
  obtain ⟨rfl, rfl⟩ := trodVars_none hV
  obtain ⟨f, A, A', c, c', rfl, rA, rA', hc, hc'⟩ := open_ratio (hval 0 24 v0 rfl rfl) h0
  obtain ⟨k, C, C', d, d', rfl, rC, rC', hd, hd'⟩ := open_ratio (hval 1 24 v1 rfl rfl) h1
  refine (RatioOrder_any f k A A' c c' C C' d d' W rA rA' hc hc' rC rC' hd hd' (table hL)).mono fun e W' ⟨he, hb⟩ => ?_
  subst he
  simp only [List.append_nil] at hW' hlt
  refine ⟨_, rfl, post_of_below (pa := p0 ++ (p1 ++ [])) (pv := []) hW' (fun _ _ _ => trodAll_cons_mk (shut_bool Tryz.underlying4 _) trodAll_mk0) (fun sp hs => ?_) (fun _ _ => rfl) (by simp) hb (ok_one (by kernel_rfl) rfl (okWide_bool_mk Tryz.underlying4 _))⟩
  exact args_stay hb (by
    rw [Tryz.params3]
    intro t ht
    have e : t = 24 := by simpa using ht
    subst e
    exact ⟨by kernel_rfl, by exact of_decide_eq_true (by kernel_rfl)⟩) hA1 (fun x hx => hlt x (by simpa using hx)) (fun x hx => hs x (by simpa using hx))

def zr : Value := .agg #[.bool false, .slice none 0 0, .slice none 0 0]
noncomputable def laidWorld (os : Os) : World := World.laidAll Tryz.prog os Rows.ratioOrderRow.laid
theorem laid_met (os : Os) : laidMet Tryz.prog Rows.ratioOrderRow.laid ((laidWorld os).forCall (fun _ _ => 0) ⟨#[], #[zr, zr], []⟩).memory :=
  laidMet_laidAll _ (by kernel_rfl) (by kernel_rfl)
theorem reads (os : Os) {H : Type} (enc : TypeId × Value → H) : ∃ ds places, DataW.whole enc Tryz.prog ((laidWorld os).forCall (fun _ _ => 0) ⟨#[], #[zr, zr], []⟩).memory Tryz.f3.params.toList Rows.ratioOrderSpec.vars false #[zr, zr].toList 8 = some (ds, [], places) :=
  ⟨[.agg [.lit (.bool false), .nil, .nil], .agg [.lit (.bool false), .nil, .nil]], [], by kernel_rfl⟩

set_option maxRecDepth 100000 in
theorem lifted (os : Os) (started : os.Started) (H : Type) (enc : TypeId × Value → H) (F : Stop.Interp) :
    ReturnsInHanded {} Tryz.checked os 3 .any ((OpenSpec.ofChange Rows.ratioOrderSpec).preRow enc Tryz.prog Tryz.f3 Rows.ratioOrderRow.domain false Rows.ratioOrderRow.laid) (((OpenSpec.ofChange Rows.ratioOrderSpec).at F).post enc Tryz.prog Tryz.f3 false true false false) := by
  obtain ⟨ds, places, hx⟩ := reads os enc
  refine returnsInHanded_of_row (C := Tryz.checked) (s := OpenSpec.ofChange Rows.ratioOrderSpec) own started (by kernel_rfl) Tryz.func3
    (witness_row_atRef (enc := enc) (C := Tryz.checked) false (laidWorld os) #[zr, zr] (World.laidAll_os _ _ _) (by kernel_rfl) (by kernel_rfl) (by kernel_rfl)
      (OpenSpec.preRow_of_cond 8 hx (by rfl) (fun k hk => by cases hk) (by kernel_rfl) (laid_met os))) ?_
  intro W base args ds gs before hval hW _ _ _ hL _ _
  exact contract H enc W base args ds gs before hval hW hL

theorem said : Rows.RatioOrderSaid :=
  OpenClaim.holds_of_cond 3 Tryz.f3 rfl rfl rfl rfl rfl rfl rfl ⟨rfl, rfl, rfl, rfl, rfl⟩ rfl rfl rfl rfl rfl (by kernel_rfl) Tryz.func3 (by kernel_rfl)
    (of_decide_eq_true (by kernel_rfl)) (by unfold Func.isWrapper; first | (rw [if_pos (by decide +kernel)]; kernel_rfl) | (rw [if_neg (by decide +kernel)]; exact ⟨rfl, rfl⟩))
    (fun os started H enc _ F => by rw [OpenClaim.pre_eq_preRow]; exact lifted os started H enc F)

theorem plain (f : FuncId) (fn : Func) (hf : Tryz.pinned.checked.prog.funcNamed "slackwater/slackwaterlaw03.RatioOrder" = some f) (hfn : Tryz.pinned.checked.prog.funcs[f]? = some fn) :
    true = Tryz.pinned.checked.prog.looks [] ∧ ∀ (j : Nat) t, fn.params[j]? = some t → Tryz.pinned.checked.prog.wantsStandIn t = false := by
  obtain rfl : f = 3 := Option.some.inj ((show Tryz.prog.funcNamed "slackwater/slackwaterlaw03.RatioOrder" = some 3 by kernel_rfl).symm.trans hf) |>.symm
  obtain rfl : fn = Tryz.f3 := (Option.some.inj (Tryz.func3.symm.trans hfn)).symm
  refine ⟨by kernel_rfl, fun j t ht => ?_⟩
  rw [Tryz.params3] at ht
  have hm : t ∈ [24, 24] := by simpa using Array.mem_of_getElem? ht
  have e : t = 24 := by simpa using hm
  subst e
  exact (show Tryz.prog.wantsStandIn 24 = false by kernel_rfl)

theorem card : Rows.RatioOrderCardSaid :=
  Claim7.holds_tied_plain_at .later [] _ _ _ _ said (fun _ h => by cases h) (by kernel_rfl) (fun _ h => by cases h) ratioOrder_row_tie rfl ⟨rfl, rfl⟩ (by kernel_rfl) rfl plain (by kernel_rfl)
end ratioOrder
end Go.Proofs.YtbjclfmplndkcaaGreatDoor
