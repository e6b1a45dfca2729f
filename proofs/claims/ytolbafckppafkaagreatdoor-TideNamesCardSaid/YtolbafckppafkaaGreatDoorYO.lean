/-
  Stable texts joined: Nq, Pn, Nr, Sc.
-/
import Derived.Test.YtolbafckppafkaaGreatDoorYC
import Derived.Test.YtolbafckppafkaaGreatDoorPl
import Derived.Lib.ParseIntB
import Derived.Lib.SlTrimSet
import Derived.Test.YtolbafckppafkaaGreatDoorYN
import Derived.Shelf.Strings.SlTrimAscii
/-
  PACKAGE nat: grow.
-/
set_option linter.unusedVariables false
set_option linter.unusedSimpArgs false
set_option linter.unnecessarySimpa false
namespace Go.Proofs.YtolbafckppafkaaGreatDoor
open Go.RowKit Pl

theorem owns_of_ow {w : World} {base c : Nat} {A : Option Addr} {l : List Int} (h : Ow w base A c l) : w.ownsRow base 43 1 (.slice A l.length c) l.length (l.map (Value.int .u32)) := by
  refine ⟨by simp, ?_⟩
  rcases h with ⟨rfl, rfl, rfl⟩ | ⟨g, rfl, hb, cs, hk, hs, hl, hr, hm, hc⟩
  · exact .inl ⟨rfl, rfl⟩
  · refine .inr ⟨g, c, cs, rfl, hb, hk, hl, by simp only [maxLen]; omega, by omega, ?_⟩
    apply List.ext_getElem?
    intro j
    by_cases hj : j < l.length
    · rw [List.getElem?_take_of_lt (by omega), Array.getElem?_toList, hc j hj]
      simp [hj]
    · rw [List.getElem?_eq_none (by simp; omega), List.getElem?_eq_none (by simp; omega)]
theorem grow_step (l out : List Int) (k c m s : Nat) (hi : k < out.length) (h : val (out.take k) + 4294967296 ^ k * c = val (l.take k) * 1000000000 + m) (hs : s = c + (l.getD k 0).toNat * 1000000000) :
    val ((out.set k ((s % 4294967296 : Nat) : Int)).take (k + 1)) + 4294967296 ^ (k + 1) * (s / 4294967296) = val (l.take (k + 1)) * 1000000000 + m := by
  rw [take_set_val _ _ _ hi, take_succ_val, Nat.pow_succ]
  have e : ((s % 4294967296 : Nat) : Int).toNat = s % 4294967296 := by omega
  rw [e]
  have h2 : s = 4294967296 * (s / 4294967296) + s % 4294967296 := (Nat.div_add_mod s 4294967296).symm
  have h3 : 4294967296 ^ k * s = 4294967296 ^ k * (4294967296 * (s / 4294967296) + s % 4294967296) := by rw [← h2]
  rw [hs] at h3
  rw [← hs] at h3
  have h4 : 4294967296 ^ k * s = 4294967296 ^ k * c + 4294967296 ^ k * ((l.getD k 0).toNat * 1000000000) := by rw [hs]; grind
  grind
theorem InR.one {x : Int} (h0 : 0 ≤ x) (h1 : x < 4294967296) : InR [x] := by intro y hy; rw [List.mem_singleton] at hy; omega
theorem news_word {w : World} {x : Value} {t : TypeId} : ∀ j u, [x][j]? = some u → (w.alloc (.cells #[x] t)).cell? ((⟨w.heap.size, 0, none⟩ : Addr).add j) = some u := by
  intro j u hj
  cases j with
  | zero =>
    simp only [List.getElem?_cons_zero, Option.some.injEq] at hj
    subst hj
    rw [add_plain, World.cell?_alloc_new]; rfl
  | succ j => simp at hj

set_option maxHeartbeats 1000000 in
theorem grow_any (base c : Nat) (A : Option Addr) (l : List Int) (m : Nat) (w : World) (h : Ow w base A c l) (hb : base ≤ w.heap.size) (hm : m < 4294967296) (hl : l.length ≤ 100000) :
    Calls Tryz.prog 102 #[.slice A l.length c, .int .u32 1000000000, .int .u32 m] w fun e w' =>
      ∃ B d out, e = .returned (.slice B out.length d) ∧ Ow w' base B d out ∧ Below base w w' ∧ val out = val l * 1000000000 + m ∧ out.length ≤ l.length + 1 := by
  obtain ⟨i0, hi0, hz0, hz1, hz2⟩ := info_parts info_word
  rcases h with ⟨rfl, rfl, rfl⟩ | ⟨g, rfl, hgb, hk⟩
  · by_cases hc : 0 < m
    · go_enter Tryz.func102, Tryz.ntmps102
      go_wp2
      refine wp_loop_rounds 1 ?_
      rw [rounds_succ]
      go_wp2_with (at_builtin; refine wpList_append_own_at _ rfl (.tmp 36) (.tmp 39) 25 rfl base 43 i0 _ 1 4 Tryz.underlying25 hi0 hz0 hz1 hz2 rfl (by omega) (.slice none 0 0) 0 [] rfl (World.ownsRow_nil _ _ _ _) ⟨w.heap.size, 0, none⟩ 1 1 [.int .u32 m] rfl rfl news_word (one_words [(m : Int)]) (by simp only [maxLen]; omega) (by omega) (by simp; omega) ?_)
      intro v' w1 hown hg _ _
      obtain ⟨B, d, rfl, hO⟩ := ow_of_owns (l := [(m : Int)]) hown (by simp) (InR.one (by omega) (by omega))
      have HO := Lib.hid hO
      have HB := Lib.hid (((Below.refl base w).alloc hb _).grown hg (by simp; omega) (fun k hk => by simp [Value.ownBlock] at hk))
      clear hO hg hown
      go_wp2
      go_ret
      exact ⟨B, d, [(m : Int)], rfl, HO.out, HB.out, by simp [val], by simp⟩
    · obtain rfl : m = 0 := by omega
      go_enter Tryz.func102, Tryz.ntmps102
      go_wp2
      refine wp_loop_rounds 1 ?_
      rw [rounds_succ]
      go_wp2
      go_ret
      exact ⟨none, 0, [], rfl, Ow.nil _ _, Below.refl _ _, by simp [val], by simp⟩
  · have hlen := hk.le
    have hmax := hk.max
    have H0 : Hid (Ow w base (some ⟨g, 0, none⟩) c l) := Lib.hid (.inr ⟨g, rfl, hgb, hk⟩)
    have HW := Lib.hid hb
    clear hb
    go_enter Tryz.func102, Tryz.ntmps102
    go_wp2
    go_loopw [7, 14] (fun cv i wr => ∃ (k cN : Nat) (out : List Int), k ≤ l.length ∧ i = .int .i64 k ∧ cv = .int .u64 cN ∧ cN ≤ 4294967295 ∧ out.length ≤ l.length ∧ l.length ≤ out.length ∧ Bw wr g c out ∧ w.grownBy wr (some g) ∧
        Hid (val (out.take k) + 4294967296 ^ k * cN = val (l.take k) * 1000000000 + m ∧ ∀ j, k ≤ j → out.getD j 0 = l.getD j 0)) (fun _ i _ => l.length - (intOf i).toNat)
    case atStart => exact ⟨0, m, l, Nat.zero_le _, rfl, rfl, by omega, Nat.le_refl _, Nat.le_refl _, hk, only_refl _ _, Lib.hid ⟨by simp [val], fun _ _ => rfl⟩⟩
    case round =>
      obtain ⟨k, cN, out, hkl, rfl, rfl, hc1, hl1, hl2, hK, hG, HV⟩ := hrel
      by_cases h0 : k < l.length
      · have hg := hK.cell (j := k) (by omega)
        have hf := hK.frozen k
        have hx := hK.inr.getD k
        have E := HV.out.2 k (Nat.le_refl _)
        have ST := fun s hs => grow_step l out k cN m s (by omega) HV.out.1 hs
        rw [← E] at ST
        have HE := Lib.hid HV.out.2
        clear E HV
        generalize out.getD k 0 = x at *
        have hx0 := hx.1
        have hx1 := hx.2
        obtain ⟨sN, hsN⟩ : ∃ sN : Nat, sN = cN + x.toNat * 1000000000 := ⟨_, rfl⟩
        have HE1 := Lib.hid (show (cN : Int) + x * 1000000000 = (sN : Int) by omega)
        have HS := Lib.hid (ST sN hsN)
        clear hsN
        have KK := Lib.hid hK
        have KG := Lib.hid hG
        clear ST hx hK hG hk
        go_wp2
        go_roundw
        case rel =>
          refine ⟨k + 1, sN / 4294967296, out.set k ((sN % 4294967296 : Nat) : Int), by omega, by go_num, ?_, ?_, by simp; omega, by simp; omega, ?_, ?_, Lib.hid ⟨HS.out, fun j hj => ?_⟩⟩
          · rw [HE1.out]; rfl
          · have := HE1.out; omega
          · rw [HE1.out]; exact KK.out.set k (x := ((sN % 4294967296 : Nat) : Int)) (by omega) (by omega)
          · exact only_setCell KG.out k _
          · rw [getD_set_ne _ _ _ _ (by omega)]; exact HE.out j (by omega)
        case measure => first | (simp [intOf]; done) | (simp [intOf]; omega)
      · obtain rfl : k = l.length := by omega
        have eL : out.length = l.length := by omega
        have t2 : out.take l.length = out := List.take_of_length_le (by omega)
        have hv : val out + 4294967296 ^ out.length * cN = val l * 1000000000 + m := by
          have := HV.out.1
          rw [t2, List.take_length] at this
          rw [eL]; exact this
        have Hv := Lib.hid hv
        have KK := Lib.hid hK
        have KG := Lib.hid hG
        clear hv HV hK hG hk t2
        have KO : Hid (Ow wr base (some ⟨g, 0, none⟩) c out) := Lib.hid (.inr ⟨g, rfl, hgb, KK.out⟩)
        by_cases hc : 0 < cN
        · have hown0 := Lib.hid (owns_of_ow KO.out)
          rw [eL] at hown0
          go_wp2_with (at_builtin; refine wpList_append_own_at _ rfl (.tmp 36) (.tmp 39) 25 rfl base 43 i0 _ 1 4 Tryz.underlying25 hi0 hz0 hz1 hz2 rfl (by omega) _ l.length (out.map (Value.int .u32)) rfl (hown0.out.alloc _) ⟨wr.heap.size, 0, none⟩ 1 1 [.int .u32 cN] rfl rfl news_word (one_words [(cN : Int)]) (by simp only [maxLen]; omega) (by omega) (by have := KG.out.size; have := HW.out; simp; omega) ?_)
          intro v' w1 hown hg _ _
          obtain ⟨B, d, rfl, hO⟩ := ow_of_owns (l := out ++ [(cN : Int)]) (by rw [show l.length + 1 = (out ++ [(cN : Int)]).length by simp [eL]] at hown; exact hown) (by simp) (KK.out.inr.append (InR.one (by omega) (by omega)))
          have HO := Lib.hid hO
          have HB0 := H0.out.only KG.out HW.out
          have HB := Lib.hid ((HB0.alloc (Nat.le_trans HW.out KG.out.size) _).grown hg (by have := KG.out.size; have := HW.out; simp; omega) (fun k hk => by simp [Value.ownBlock] at hk; omega))
          clear hO hg hown HB0
          go_wp2
          go_ret
          have HV := Hv.out
          refine ⟨B, d, out ++ [(cN : Int)], rfl, HO.out, HB.out, ?_, by simp [eL]⟩
          rw [val_append, ← HV]
          show _ + _ * (cN + 4294967296 * 0) = _
          rw [Nat.mul_zero, Nat.add_zero]
        · obtain rfl : cN = 0 := by omega
          have HB := Lib.hid (H0.out.only KG.out HW.out)
          go_wp2
          go_ret
          have HV := Hv.out
          exact ⟨some ⟨g, 0, none⟩, c, out, ret_slice eL.symm, KO.out, HB.out, by rw [← HV]; simp, by rw [eL]; exact Nat.le_succ _⟩
end Go.Proofs.YtolbafckppafkaaGreatDoor

/-
  PLAIN: what nat.Parse takes of a text.
-/
set_option linter.unusedVariables false
set_option linter.unusedSimpArgs false
set_option linter.unnecessarySimpa false
namespace Go.Proofs.YtolbafckppafkaaGreatDoor
open Pl

def tenDigits : List UInt8 := [48, 49, 50, 51, 52, 53, 54, 55, 56, 57]
theorem ten_contains (c : UInt8) : tenDigits.contains c = digit c := by
  unfold digit tenDigits
  rw [Bool.eq_iff_iff]
  simp only [List.contains_eq_mem, List.mem_cons, List.not_mem_nil, or_false, decide_eq_true_eq, Bool.and_eq_true, UInt8.le_iff_toNat_le, ← UInt8.toNat_inj]
  simp only [UInt8.reduceToNat]
  omega
theorem dw_nil {α : Type} (p : α → Bool) (l : List α) : l.dropWhile p = [] ↔ ∀ x ∈ l, p x = true := by
  induction l with
  | nil => simp
  | cons a l ih =>
    by_cases h : p a = true
    · rw [List.dropWhile_cons_of_pos h, ih]; simp [h]
    · rw [List.dropWhile_cons_of_neg h]; simp [h]
theorem dw_head {α : Type} (p : α → Bool) (l : List α) (a : α) (r : List α) (h : l.dropWhile p = a :: r) : p a = false := by
  induction l with
  | nil => simp at h
  | cons b l ih =>
    by_cases hb : p b = true
    · rw [List.dropWhile_cons_of_pos hb] at h; exact ih h
    · rw [List.dropWhile_cons_of_neg hb] at h; injection h with h1 _; subst h1; simpa using hb
theorem trim_nil (l : List UInt8) : Lib.trimS l tenDigits = [] ↔ l.all digit = true := by
  have e : (fun c => tenDigits.contains c) = digit := by funext c; exact ten_contains c
  unfold Lib.trimS Lib.trimLeftS Lib.trimRightS
  simp only [ten_contains]
  constructor
  · intro h
    rw [dw_nil] at h
    have h2 : ∀ x ∈ l.reverse.dropWhile digit, digit x = true := fun x hx => h x (by simpa using hx)
    have h3 : l.reverse.dropWhile digit = [] := by
      cases hd : l.reverse.dropWhile digit with
      | nil => rfl
      | cons a r =>
        have h4 := dw_head digit l.reverse a r hd
        have h5 : digit a = true := h2 a (by rw [hd]; simp)
        rw [h5] at h4; cases h4
    rw [dw_nil] at h3
    rw [List.all_eq_true]
    exact fun x hx => h3 x (by simpa using hx)
  · intro h
    rw [List.all_eq_true] at h
    have h3 : l.reverse.dropWhile digit = [] := by
      rw [dw_nil]; exact fun x hx => h x (by simpa using hx)
    rw [h3]; rfl
theorem undec_lt (l : List UInt8) (h : l.all digit = true) : undec l < 10 ^ l.length := by
  have key : ∀ (k : Nat) (l : List UInt8), l.length = k → l.all digit = true → undec l < 10 ^ k := by
    intro k
    induction k with
    | zero =>
      intro l hl _
      have := List.eq_nil_of_length_eq_zero hl
      subst this; simp [undec]
    | succ k ih =>
      intro l hl hd
      have hne : l ≠ [] := by intro e; subst e; simp at hl
      have e := List.dropLast_concat_getLast hne
      generalize l.dropLast = m at e
      generalize l.getLast hne = c at e
      subst e
      have hml : m.length = k := by simp at hl; omega
      rw [List.all_append, Bool.and_eq_true] at hd
      have h1 := ih m hml hd.1
      have hc : digit c = true := by simpa using hd.2
      simp [digit, UInt8.le_iff_toNat_le] at hc
      rw [undec_append, Nat.pow_succ]
      have e2 : undec [c] = c.toNat - 48 := by simp [undec]
      rw [e2]
      simp only [List.length_singleton, Nat.pow_one]
      omega
  exact key l.length l rfl h
theorem parseM (l : List UInt8) (acc k : Nat) (h : l.all digit = true) (hk : acc < 10 ^ k) (hl : k + l.length ≤ 9) :
    Lib.parseUintM (2 ^ 32 - 1) acc l = .ok (l.foldl (fun a c => a * 10 + (c.toNat - 48)) acc) := by
  induction l generalizing acc k with
  | nil => rfl
  | cons c l ih =>
    simp only [List.all_cons, Bool.and_eq_true] at h
    have hc := h.1
    simp [digit, UInt8.le_iff_toNat_le] at hc
    simp only [List.length_cons] at hl
    have hp : acc * 10 + (c.toNat - 48) < 10 ^ (k + 1) := by rw [Nat.pow_succ]; omega
    have hp2 : 10 ^ (k + 1) ≤ 10 ^ 9 := Nat.pow_le_pow_right (by omega) (by omega)
    have hp3 : 10 ^ k ≤ 10 ^ 9 := Nat.pow_le_pow_right (by omega) (by omega)
    unfold Lib.parseUintM
    rw [if_pos hc, if_neg (by omega), if_neg (by omega)]
    rw [List.foldl_cons]
    exact ih _ (k + 1) h.2 hp (by omega)
theorem parse_chunk (l : List UInt8) (h : l.all digit = true) (h0 : l ≠ []) (hl : l.length ≤ 9) : Lib.parseUintB 32 l = .ok (undec l) := by
  unfold Lib.parseUintB
  rw [if_neg h0]
  exact parseM l 0 0 h (by simp) (by omega)
theorem all_take {l : List UInt8} (h : l.all digit = true) (k : Nat) : (l.take k).all digit = true := by
  rw [List.all_eq_true] at *; exact fun x hx => h x (List.mem_of_mem_take hx)
theorem all_drop {l : List UInt8} (h : l.all digit = true) (k : Nat) : (l.drop k).all digit = true := by
  rw [List.all_eq_true] at *; exact fun x hx => h x (List.mem_of_mem_drop hx)
/-- what Parse's loop keeps, one round on -/
theorem undec_round (l : List UInt8) (k n : Nat) (hk : k + n ≤ l.length) (h9 : k = 0 ∨ n = 9) : undec (l.take (k + n)) = undec (l.take k) * 1000000000 + undec ((l.drop k).take n) := by
  rw [List.take_add, undec_append]
  rcases h9 with rfl | rfl
  · simp [undec]
  · rw [List.length_take, List.length_drop, Nat.min_eq_left (by omega)]
/-- nat.Parse -/
def parseN (l : List UInt8) : List Int × Int := if 65536 < l.length then ([], 3) else if numeral l = true then (words (undec l), 0) else ([], 110)
theorem undec_pow (l : List UInt8) (h : l.all digit = true) {N M : Nat} (hM : N ≤ 8 * M) (hl : l.length ≤ N) : undec l < 4294967296 ^ M := by
  have h1 := undec_lt l h
  have h2 : 10 ^ l.length ≤ 16 ^ l.length := Nat.pow_le_pow_left (by omega) _
  have h3 : 16 ^ l.length ≤ 16 ^ (8 * M) := Nat.pow_le_pow_right (by omega) (by omega)
  rw [Nat.pow_mul] at h3
  exact Nat.lt_of_lt_of_le h1 (Nat.le_trans h2 h3)
set_option exponentiation.threshold 100000 in
theorem undec_words (l : List UInt8) (h : l.all digit = true) (hl : l.length ≤ 65536) : (words (undec l)).length ≤ 8192 := by
  rw [words_len]
  exact undec_pow l h (by omega) hl
end Go.Proofs.YtolbafckppafkaaGreatDoor

/-
  PACKAGE nat: Parse.
-/
set_option linter.unusedVariables false
set_option linter.unusedSimpArgs false
set_option linter.unnecessarySimpa false
namespace Go.Proofs.YtolbafckppafkaaGreatDoor
open Go.RowKit Pl Go.Sort Go.Lib

theorem Trim_any (l : List UInt8) (w : World) (hs : l.length ≤ 9223372036854775807) :
    Calls Tryz.prog 100 #[.string ⟨l.toArray⟩, .string ⟨#[48, 49, 50, 51, 52, 53, 54, 55, 56, 57]⟩] w fun e w' => e = .returned (.string ⟨(Lib.trimS l tenDigits).toArray⟩) ∧ Below w.heap.size w w' :=
  Any.strings_Trim_laid Tryz.lays160 (by kernel_rfl) ⟨l.toArray⟩ ⟨#[48, 49, 50, 51, 52, 53, 54, 55, 56, 57]⟩ w (by show l.toArray.size ≤ _; simpa using hs) (by decide) (ascii_of_all (by decide))

set_option maxHeartbeats 1000000 in
theorem Parse_no (l : List UInt8) (w : World) (hs : l.length ≤ 9223372036854775807) (hn : (parseN l).2 ≠ 0) :
    Calls Tryz.prog 75 #[.string ⟨l.toArray⟩] w fun e w' => e = .returned (.tuple #[.slice none 0 0, .int .i64 (parseN l).2]) ∧ Below w.heap.size w w' := by
  unfold parseN at *
  by_cases h1 : 65536 < l.length
  · rw [if_pos h1]
    clear hn
    go_enter Tryz.func75, Tryz.ntmps75
    go_wp2
    go_ret2
    exact ⟨rfl, Below.refl _ _⟩
  rw [if_neg h1] at *
  by_cases h2 : numeral l = true
  · rw [if_pos h2] at hn; exact absurd rfl hn
  rw [if_neg h2]
  clear hn
  by_cases h3 : l = []
  · subst h3
    go_enter Tryz.func75, Tryz.ntmps75
    go_wp2
    go_ret2
    exact ⟨rfl, Below.refl _ _⟩
  have T := Lib.hid (Trim_any l w hs)
  by_cases h4 : Lib.trimS l tenDigits = []
  · have h5 := (trim_nil l).1 h4
    rw [h4] at T
    -- a nought ahead of others
    have h6 : 1 < l.length ∧ l.head? = some 48 := by
      refine Classical.byContradiction fun e => h2 ?_
      unfold numeral
      rw [h5]
      have hne : l.isEmpty = false := by cases l with | nil => exact absurd rfl h3 | cons a l => rfl
      rw [hne]
      by_cases e1 : l.length = 1
      · simp [e1]
      · have : l.head? ≠ some 48 := fun k => e ⟨by have := List.length_pos_iff.2 h3; omega, k⟩
        simp [this]
    have h7 : 0 < l.length := by omega
    have h8 : l[0]'h7 = 48 := by
      have := h6.2
      rw [List.head?_eq_getElem?, List.getElem?_eq_getElem h7] at this
      simpa using this
    have h9 : (1 : Int) < (l.length : Int) := by omega
    have hE : l.isEmpty = false := by cases l with | nil => exact absurd rfl h3 | cons a l => rfl
    have h10 : (⟨l.toArray⟩ : ByteArray)[0]'(by show 0 < l.toArray.size; simpa using h7) = 48 := h8
    clear h6 h2 h5 h4 h8
    go_enter Tryz.func75, Tryz.ntmps75
    go_wp2_with fail
    refine T.out.mono ?_
    rintro e w1 ⟨rfl, hB⟩
    have HB := Lib.hid hB
    clear hB
    go_wp2
    go_ret2
    exact ⟨rfl, HB.out⟩
  · clear h2
    generalize Lib.trimS l tenDigits = t at *
    go_enter Tryz.func75, Tryz.ntmps75
    go_wp2_with fail
    refine T.out.mono ?_
    rintro e w1 ⟨rfl, hB⟩
    have HB := Lib.hid hB
    clear hB
    go_wp2
    go_ret2
    exact ⟨rfl, HB.out⟩

theorem str_drop (l : List UInt8) (k : Nat) : (⟨l.toArray⟩ : ByteArray).extract k l.length = ⟨(l.drop k).toArray⟩ := by
  apply ByteArray.ext
  simp only [ByteArray.data_extract, List.extract_toArray, List.extract_eq_take_drop]
  rw [List.take_of_length_le (by simp)]
theorem str_take (l : List UInt8) (k : Nat) : (⟨l.toArray⟩ : ByteArray).extract 0 k = ⟨(l.take k).toArray⟩ := by
  apply ByteArray.ext
  simp [ByteArray.data_extract]
theorem empty_drop (l : List UInt8) (k : Nat) (h : k < l.length) : (l.drop k).isEmpty = false := by
  cases hd : l.drop k with
  | nil => have := congrArg List.length hd; simp at this; omega
  | cons a r => rfl
theorem nine_pow {k : Nat} (h : k ≤ 9) : 10 ^ k ≤ 1000000000 := Nat.pow_le_pow_right (n := 10) (by omega) h
theorem below_bytes (w : World) (e : TypeId) (s : ByteArray) : Below w.heap.size w (Lib.bytesWorld w e s) := by
  have hb : Below w.heap.size w (w.drew.alloc (.cells (bytesCells w e s) e)) := (Below.refl _ _).drew.alloc (Nat.le_refl _) _
  unfold Lib.bytesWorld World.freeze
  rw [if_neg (by omega)]
  refine ⟨hb.os, hb.tape, hb.output, by have := hb.size; simpa using this, fun k hk => ?_⟩
  rw [← hb.block k hk]
  simp only [Array.getElem?_modify]
  rw [if_neg (by omega)]
theorem PUint_any (c : List UInt8) (h : c.all digit = true) (h0 : c ≠ []) (hl : c.length ≤ 9) (w : World) :
    Calls Tryz.prog 101 #[.string ⟨c.toArray⟩, .int .i64 10, .int .i64 32] w fun e w' => e = .returned (.tuple #[.int .u64 (undec c), .nilIface]) ∧ Below w.heap.size w w' := by
  refine (Tryz.strconv_ParseUint_10_at32_ok ⟨c.toArray⟩ (by show c.toArray.size ≤ _; simp; omega) (undec c) (parse_chunk c h h0 hl) w).mono ?_
  rintro e w' ⟨rfl, rfl | rfl⟩
  · exact ⟨rfl, Below.refl _ _⟩
  · exact ⟨rfl, below_bytes _ _ _⟩
set_option maxRecDepth 100000 in
set_option maxHeartbeats 2000000 in
theorem Parse_yes (l : List UInt8) (w : World) (hs : l.length ≤ 65536) (hn : numeral l = true) :
    Calls Tryz.prog 75 #[.string ⟨l.toArray⟩] w fun e w' => ∃ B d, e = .returned (.tuple #[.slice B (words (undec l)).length d, .int .i64 0]) ∧ Ow w' w.heap.size B d (words (undec l)) ∧ Below w.heap.size w w' := by
  have T := Trim_any l w (by omega)
  have hn' := hn
  unfold numeral at hn'
  simp only [Bool.and_eq_true, Bool.or_eq_true, Bool.not_eq_true', beq_iff_eq, bne_iff_ne] at hn'
  obtain ⟨⟨hE, hd⟩, hh⟩ := hn'
  rw [(trim_nil l).2 hd] at T
  have HT := Lib.hid T
  have HD := Lib.hid hd
  have h7 : 0 < l.length := by cases l with | nil => cases hE | cons a l => simp
  have hw := undec_words l hd hs
  have HW := Lib.hid hw
  have h8 : (l.length = 1 ∨ l[0]'h7 ≠ 48) := by
    rcases hh with h | h
    · exact .inl h
    · refine .inr fun e => h ?_
      rw [List.head?_eq_getElem?, List.getElem?_eq_getElem h7, e]
  have h10 : ((l.length : Int) ≤ 1) ∨ ¬ ((((⟨l.toArray⟩ : ByteArray)[0]'(by show 0 < l.toArray.size; simpa using h7)).toNat : Nat) : Int) = 48 := by
    rcases h8 with h | h
    · exact .inl (by omega)
    · refine .inr fun e => h ?_
      have e2 : (l[0]'h7).toNat = 48 := by exact_mod_cast e
      exact UInt8.toNat_inj.1 (by rw [e2]; rfl)
  clear T hd hn hh h8 hw
  rcases h10 with h10 | h10
  all_goals
    go_enter Tryz.func75, Tryz.ntmps75
    go_wp2_with fail
    refine HT.out.mono ?_
    rintro e w1 ⟨rfl, hB⟩
    have HB := Lib.hid hB
    clear hB
    go_wp2
    all_goals
      go_loopg [0, 4] l.length (fun gk sv av wr => ∃ (k : Nat) (B : Option Addr) (c : Nat) (out : List Int), sv = .string ⟨(l.drop k).toArray⟩ ∧ av = .slice B out.length c ∧ Hid (k + gk = l.length) ∧ Hid (k = 0 ∨ gk % 9 = 0) ∧ Hid (out.length ≤ k) ∧ Hid (Ow wr w.heap.size B c out) ∧ Hid (Below w.heap.size w wr) ∧ Hid (val out = undec (l.take k)))
      case atStart => exact ⟨0, none, 0, [], rfl, rfl, Lib.hid (by omega), Lib.hid (.inl rfl), Lib.hid (Nat.le_refl _), Lib.hid (Ow.nil _ _), Lib.hid HB.out, Lib.hid rfl⟩
      case round =>
        obtain ⟨k, B, c, out, rfl, rfl, Hk, H9, HL, KO, KB, KV⟩ := hrel
        clear HB HT
        by_cases hg : 0 < gk
        · have hEd := empty_drop l k (by have := Hk.out; omega)
          have hdl : (l.drop k).length = gk := by have := Hk.out; rw [List.length_drop]; omega
          have hdd := all_drop HD.out k
          obtain ⟨t, ht⟩ : ∃ t, t = l.drop k := ⟨_, rfl⟩
          rw [← ht] at hEd hdl hdd
          rw [← ht]
          have HTt := Lib.hid ht
          have HDD := Lib.hid hdd
          have Hdl := Lib.hid hdl
          clear ht hdd h10
          subst hdl
          have htl : t.length ≤ 65536 := by have := Hk.out; omega
          by_cases hm : t.length % 9 = 0
          · have h9t : 9 ≤ t.length := by omega
            have E1 := str_take t (9)
            have E2 := str_drop t (9)
            have htn : t.take (9) ≠ [] := by intro e; have := congrArg List.length e; rw [List.length_take] at this; simp only [List.length_nil] at this; omega
            have HP := Lib.hid (PUint_any (t.take (9)) (all_take HDD.out _) htn (by rw [List.length_take]; omega))
            have HR := Lib.hid (undec_round l k (9) (by have := Hk.out; have := Hdl.out; omega) (.inr rfl))
            rw [← HTt.out] at HR
            have hu : undec (t.take (9)) < 1000000000 := Nat.lt_of_lt_of_le (undec_lt _ (all_take HDD.out _)) (nine_pow (by rw [List.length_take]; omega))
            have HN1 := Lib.hid (show k + (9) + (t.length - (9)) = l.length by have := Hk.out; omega)
            have HN2 := Lib.hid (show (t.length - (9)) % 9 = 0 by omega)
            have HN3 := Lib.hid (show t.length - (9) < t.length by omega)
            have HN4 := Lib.hid (show 0 < (9) by omega)
            clear htn
            generalize undec (t.take (9)) = u at *
            go_wp2_with fail
            refine (HP.out _).mono ?_
            rintro e w2 ⟨rfl, hB⟩
            have KO2 := Lib.hid (KO.out.below hB)
            have KB2 := Lib.hid (KB.out.trans (hB.mono KB.out.size))
            clear hB KO KB HP
            go_wp2_with fail
            refine (grow_any w.heap.size c B out u _ KO2.out KB2.out.size (by omega) (by have := HL.out; have := Hk.out; omega)).mono ?_
            rintro e w3 ⟨B3, d3, out3, rfl, hO3, hB3, hv3, hl3⟩
            have KO3 := Lib.hid hO3
            have KB3 := Lib.hid (KB2.out.trans hB3)
            have HV3 := Lib.hid hv3
            have HL3 := Lib.hid hl3
            clear hO3 hB3 hv3 hl3 KO2 KB2
            go_wp2_with fail
            go_roundg (t.length - (9))
            case measure => exact HN3.out
            case rel =>
              refine ⟨k + (9), B3, d3, out3, ?_, rfl, Lib.hid HN1.out, Lib.hid (.inr HN2.out), Lib.hid (by have := HL3.out; have := HL.out; have := HN4.out; omega), Lib.hid KO3.out, Lib.hid KB3.out, Lib.hid (by rw [HV3.out, KV.out, HR.out])⟩
              first | rw [HTt.out, List.drop_drop] | rw [str_drop, HTt.out, List.drop_drop]
          · have h9t : t.length % 9 < 9 := by omega
            have E1 := str_take t (t.length % 9)
            have E2 := str_drop t (t.length % 9)
            have htn : t.take (t.length % 9) ≠ [] := by intro e; have := congrArg List.length e; rw [List.length_take] at this; simp only [List.length_nil] at this; omega
            have HP := Lib.hid (PUint_any (t.take (t.length % 9)) (all_take HDD.out _) htn (by rw [List.length_take]; omega))
            have HR := Lib.hid (undec_round l k (t.length % 9) (by have := Hk.out; have := Hdl.out; omega) (.inl (by rcases H9.out with h | h; exact h; exact absurd h hm)))
            rw [← HTt.out] at HR
            have hu : undec (t.take (t.length % 9)) < 1000000000 := Nat.lt_of_lt_of_le (undec_lt _ (all_take HDD.out _)) (nine_pow (by rw [List.length_take]; omega))
            have HN1 := Lib.hid (show k + (t.length % 9) + (t.length - (t.length % 9)) = l.length by have := Hk.out; omega)
            have HN2 := Lib.hid (show (t.length - (t.length % 9)) % 9 = 0 by omega)
            have HN3 := Lib.hid (show t.length - (t.length % 9) < t.length by omega)
            have HN4 := Lib.hid (show 0 < (t.length % 9) by omega)
            clear htn
            generalize undec (t.take (t.length % 9)) = u at *
            go_wp2_with fail
            refine (HP.out _).mono ?_
            rintro e w2 ⟨rfl, hB⟩
            have KO2 := Lib.hid (KO.out.below hB)
            have KB2 := Lib.hid (KB.out.trans (hB.mono KB.out.size))
            clear hB KO KB HP
            go_wp2_with fail
            refine (grow_any w.heap.size c B out u _ KO2.out KB2.out.size (by omega) (by have := HL.out; have := Hk.out; omega)).mono ?_
            rintro e w3 ⟨B3, d3, out3, rfl, hO3, hB3, hv3, hl3⟩
            have KO3 := Lib.hid hO3
            have KB3 := Lib.hid (KB2.out.trans hB3)
            have HV3 := Lib.hid hv3
            have HL3 := Lib.hid hl3
            clear hO3 hB3 hv3 hl3 KO2 KB2
            go_wp2_with fail
            go_roundg (t.length - (t.length % 9))
            case measure => exact HN3.out
            case rel =>
              refine ⟨k + (t.length % 9), B3, d3, out3, ?_, rfl, Lib.hid HN1.out, Lib.hid (.inr HN2.out), Lib.hid (by have := HL3.out; have := HL.out; have := HN4.out; omega), Lib.hid KO3.out, Lib.hid KB3.out, Lib.hid (by rw [HV3.out, KV.out, HR.out])⟩
              first | rw [HTt.out, List.drop_drop] | rw [str_drop, HTt.out, List.drop_drop]
        · have e0 : gk = 0 := by omega
          have hz : l.drop k = [] := List.drop_of_length_le (by have := Hk.out; omega)
          have hk2 : l.take k = l := List.take_of_length_le (by have := Hk.out; omega)
          have hv := KV.out
          rw [hk2] at hv
          have T := told_ok B c out wr KO.out.rd KO.out.le (by rw [cut_words KO.out.rd.inr, hv]; exact HW.out)
          have hO := KO.out.take (cut out).length
          rw [← cut_take, cut_words KO.out.rd.inr, hv] at hO
          rw [cut_words KO.out.rd.inr, hv] at T
          have T' := Lib.hid T
          have O' := Lib.hid hO
          clear T hO hv hk2 h10
          rw [hz]
          clear hz
          go_wp2_with fail
          refine T'.out.mono ?_
          rintro e w3 ⟨rfl, rfl⟩
          go_wp2
          go_ret2
          exact ⟨_, _, rfl, O'.out, KB.out⟩
end Go.Proofs.YtolbafckppafkaaGreatDoor

/-
  strings.Cut at a separator of one byte.
-/
set_option linter.unusedVariables false
set_option linter.unusedSimpArgs false
set_option linter.unnecessarySimpa false
namespace Go.Proofs.YtolbafckppafkaaGreatDoor
open Go.RowKit Pl Go.Sort Go.Lib

def cutB (l : List UInt8) (c : UInt8) : List UInt8 × List UInt8 × Bool :=
  if 0 ≤ Lib.indexByte l c then (l.take (Lib.indexByte l c).toNat, l.drop ((Lib.indexByte l c).toNat + 1), true) else (l, [], false)
theorem indexByte_lt (l : List UInt8) (c : UInt8) : Lib.indexByte l c < l.length := by
  induction l with
  | nil => unfold Lib.indexByte; simp
  | cons b l ih =>
    unfold Lib.indexByte
    split
    · simp
    · split
      · simp; omega
      · simp; omega
theorem ret_3s {a b a' b' : List UInt8} {c c' : Bool} (h1 : a = a') (h2 : b = b') (h3 : c = c') :
    Ending.returned (.tuple #[.string ⟨a.toArray⟩, .string ⟨b.toArray⟩, .bool c]) = .returned (.tuple #[.string ⟨a'.toArray⟩, .string ⟨b'.toArray⟩, .bool c']) := by rw [h1, h2, h3]

set_option maxHeartbeats 1000000 in
theorem iCut_any (l : List UInt8) (c : UInt8) (w : World) (hl : l.length ≤ 1000000) :
    Calls Tryz.prog 73 #[.string ⟨l.toArray⟩, .string ⟨#[c]⟩] w fun e w' =>
      e = .returned (.tuple #[.string ⟨(cutB l c).1.toArray⟩, .string ⟨(cutB l c).2.1.toArray⟩, .bool (cutB l c).2.2]) ∧ Below w.heap.size w w' := by
  have I := Tryz.stringslite_Index_one ⟨l.toArray⟩ c w
  rw [show (⟨l.toArray⟩ : ByteArray).data.toList = l from rfl] at I
  have h1 := Lib.indexByte_ge l c
  have h2 := indexByte_lt l c
  unfold cutB
  generalize Lib.indexByte l c = i at *
  have HI := Lib.hid I
  clear I
  by_cases h : 0 ≤ i
  · obtain ⟨k, rfl⟩ : ∃ k : Nat, i = (k : Int) := ⟨i.toNat, by omega⟩
    rw [if_pos h]
    have hk : k < l.length := by omega
    have E1 := str_take l k
    have E2 := str_drop l (k + 1)
    have hk1 : (k : Int) < (l.length : Int) := by omega
    have e1 : IntKind.i64.wrap ((k : Int) + 1) = (k : Int) + 1 := by simp [IntKind.wrap, IntKind.signed, IntKind.bits]; omega
    go_enter Tryz.func73, Tryz.ntmps73
    go_wp2_with fail
    refine HI.out.mono ?_
    rintro e w1 ⟨rfl, rfl⟩
    go_wp2_with fail
    go_quiet (fail)
    go_wp2
    go_ret3
    exact ⟨rfl, below_drewN (Below.refl _ _) _⟩
  · rw [if_neg h]
    have hd : decide (0 ≤ i) = false := decide_eq_false h
    go_enter Tryz.func73, Tryz.ntmps73
    go_wp2_with fail
    refine HI.out.mono ?_
    rintro e w1 ⟨rfl, rfl⟩
    go_wp2
    go_ret3
    exact ⟨rfl, Below.refl _ _⟩

theorem Cut_any (l : List UInt8) (c : UInt8) (w : World) (hl : l.length ≤ 1000000) :
    Calls Tryz.prog 45 #[.string ⟨l.toArray⟩, .string ⟨#[c]⟩] w fun e w' =>
      e = .returned (.tuple #[.string ⟨(cutB l c).1.toArray⟩, .string ⟨(cutB l c).2.1.toArray⟩, .bool (cutB l c).2.2]) ∧ Below w.heap.size w w' := by
  have C := Lib.hid (iCut_any l c w hl)
  generalize cutB l c = r at *
  go_enter Tryz.func45, Tryz.ntmps45
  go_wp2_with fail
  refine C.out.mono ?_
  rintro e w1 ⟨rfl, hB⟩
  have HB := Lib.hid hB
  clear hB
  go_wp2
  go_ret3
  exact ⟨rfl, HB.out⟩
theorem CutPrefix_any (l : List UInt8) (c : UInt8) (w : World) :
    Calls Tryz.prog 74 #[.string ⟨l.toArray⟩, .string ⟨#[c]⟩] w fun e w' =>
      e = .returned (.tuple #[.string ⟨(if l.head? = some c then l.tail else l).toArray⟩, .bool (decide (l.head? = some c))]) ∧ w = w' := by
  refine (Tryz.strings_CutPrefix ⟨l.toArray⟩ ⟨#[c]⟩ w).mono ?_
  rintro e w' ⟨rfl, rfl⟩
  refine ⟨?_, rfl⟩
  have e1 : Lib.hasPrefix l [c] = decide (l.head? = some c) := by
    unfold Lib.hasPrefix
    cases l with
    | nil => rfl
    | cons a l =>
      rw [Bool.eq_iff_iff]
      simp only [List.isPrefixOf, Bool.and_true, beq_iff_eq, List.head?_cons, Option.some.injEq, decide_eq_true_eq]
      exact eq_comm
  show Ending.returned (.tuple #[.string ⟨(Lib.trimPrefix l [c]).toArray⟩, .bool (Lib.hasPrefix l [c])]) = _
  unfold Lib.trimPrefix
  rw [e1]
  by_cases h : l.head? = some c
  · simp [h]
  · simp [h]
end Go.Proofs.YtolbafckppafkaaGreatDoor
