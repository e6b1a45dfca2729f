/-
  slackwaterkit: Long, over a list of fractions.
-/
import Derived.Test.YtbjclfmplndkcaaGreatDoorRj
set_option linter.unusedVariables false
set_option linter.unusedSimpArgs false
set_option linter.unnecessarySimpa false
namespace Go.Proofs.YtbjclfmplndkcaaGreatDoor
open Go.RowKit Pl

def klng (n : Nat) : Bool := decide (60 < n) && (decide (n ≤ 2048) || decide (2057 ≤ n))
/-- a list of fractions in memory: of each its sign and its two slices -/
structure Rs (w : World) (ad : Addr) (l : List (Bool × (Option Addr × Nat × Nat) × (Option Addr × Nat × Nat))) : Prop where
  len : l.length ≤ 3074457345618258602
  at_ : ∀ (i : Nat) (x : Bool × (Option Addr × Nat × Nat) × (Option Addr × Nat × Nat)), l[i]? = some x → x.2.1.2.1 ≤ 9223372036854775807 ∧ x.2.2.2.1 ≤ 9223372036854775807 ∧
    w.cell? (ad.add (i * 3)) = some (.bool x.1) ∧ w.cell? ⟨(ad.add (i * 3)).block, (ad.add (i * 3)).off + 1, none⟩ = some (.slice x.2.1.1 x.2.1.2.1 x.2.1.2.2) ∧ w.cell? ⟨(ad.add (i * 3)).block, (ad.add (i * 3)).off + 2, none⟩ = some (.slice x.2.2.1 x.2.2.2.1 x.2.2.2.2)
def klongs (l : List (Bool × (Option Addr × Nat × Nat) × (Option Addr × Nat × Nat))) : Bool := l.any fun x => klng x.2.1.2.1 || klng x.2.2.2.1
theorem any_take_succ {α : Type} (l : List α) (f : α → Bool) (k : Nat) (x : α) (h : l[k]? = some x) : (l.take (k + 1)).any f = ((l.take k).any f || f x) := by
  obtain ⟨hk, rfl⟩ := List.getElem?_eq_some_iff.1 h
  rw [List.take_succ_eq_append_getElem hk, List.any_append]; simp
theorem any_of_mem {α : Type} (l : List α) (f : α → Bool) (k : Nat) (x : α) (h : l[k]? = some x) (hf : f x = true) : l.any f = true :=
  List.any_eq_true.2 ⟨x, List.mem_of_getElem? h, hf⟩

set_option maxHeartbeats 800000 in
theorem Long_any (ad : Addr) (c : Nat) (l : List (Bool × (Option Addr × Nat × Nat) × (Option Addr × Nat × Nat))) (w : World) (h : Rs w ad l) :
    Calls Tryz.prog 5 #[.slice (some ad) l.length c] w fun e w' => e = .returned (.bool (klongs l)) ∧ w = w' := by
  have hlen := h.len
  go_enter Tryz.func5, Tryz.ntmps5
  go_wp2
  go_loop [3] (fun i => ∃ k : Nat, k ≤ l.length ∧ i = .int .i64 k ∧ (l.take k).any (fun x => klng x.2.1.2.1 || klng x.2.2.2.1) = false) (fun i => l.length - (intOf i).toNat)
  case atStart => exact ⟨0, Nat.zero_le _, rfl, rfl⟩
  case round =>
    obtain ⟨k, hk, rfl, hd⟩ := hrel
    have Hd := Lib.hid hd
    clear hd
    by_cases h0 : k < l.length
    · obtain ⟨x, hx⟩ : ∃ x, l[k]? = some x := ⟨_, List.getElem?_eq_getElem h0⟩
      obtain ⟨l1, l2, c0, c1, c2⟩ := h.at_ k x hx
      have HA := Lib.hid (any_of_mem l (fun x => klng x.2.1.2.1 || klng x.2.2.2.1) k x hx)
      have HT := Lib.hid (any_take_succ l (fun x => klng x.2.1.2.1 || klng x.2.2.2.1) k x hx)
      obtain ⟨b, ⟨X, n, m⟩, Y, p, q⟩ := x
      simp only at *
      have K1 := klong_any X m n w l1
      have K2 := klong_any Y q p w l2
      change Calls _ _ _ _ (fun e w' => e = .returned (.bool (klng n)) ∧ _) at K1
      change Calls _ _ _ _ (fun e w' => e = .returned (.bool (klng p)) ∧ _) at K2
      have HK1 := Lib.hid K1
      have HK2 := Lib.hid K2
      clear K1 K2 hx
      generalize klng n = r at *
      generalize klng p = s at *
      cases r
      · cases s
        · go_wp2_with (first | ((with_reducible refine HK1.out.mono ?_); rintro e w' ⟨rfl, rfl⟩) | ((with_reducible refine HK2.out.mono ?_); rintro e w' ⟨rfl, rfl⟩))
          go_round
          case rel => exact ⟨k + 1, by omega, by go_num, by rw [HT.out, Hd.out]; rfl⟩
          case measure => first | (simp [intOf]; done) | (simp [intOf]; omega)
        · go_wp2_with (first | ((with_reducible refine HK1.out.mono ?_); rintro e w' ⟨rfl, rfl⟩) | ((with_reducible refine HK2.out.mono ?_); rintro e w' ⟨rfl, rfl⟩))
          go_ret
          exact ⟨ret_bool (HA.out rfl).symm, rfl⟩
      · go_wp2_with (first | ((with_reducible refine HK1.out.mono ?_); rintro e w' ⟨rfl, rfl⟩) | ((with_reducible refine HK2.out.mono ?_); rintro e w' ⟨rfl, rfl⟩))
        go_ret
        exact ⟨ret_bool (HA.out rfl).symm, rfl⟩
    · have hE : klongs l = false := by
        have := Hd.out
        rwa [List.take_of_length_le (by omega)] at this
      have HE := Lib.hid hE
      clear hE
      go_wp2
      go_ret
      exact ⟨ret_bool HE.out.symm, rfl⟩
end Go.Proofs.YtbjclfmplndkcaaGreatDoor
