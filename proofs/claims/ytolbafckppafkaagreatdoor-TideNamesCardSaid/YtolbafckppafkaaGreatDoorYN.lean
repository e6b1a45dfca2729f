/-
  Stable texts joined: Fu, Np.
-/
import Derived.Test.YtolbafckppafkaaGreatDoorYB
import Derived.Test.YtolbafckppafkaaGreatDoorShC
import Derived.Lib.Walk
import Derived.Lib.ItoaMem
import Derived.BigCall
import Derived.BigGuard
import Derived.Test.YtolbafckppafkaaGreatDoorShD
import Derived.Test.YtolbafckppafkaaGreatDoorYF
import Derived.Deep.LoopGhost
/-
  strconv.FormatUint at base 10.
-/
set_option linter.unusedVariables false
set_option linter.unusedSimpArgs false
set_option linter.unnecessarySimpa false
namespace Go.Proofs.YtolbafckppafkaaGreatDoor
open Go.RowKit Pl Go.Sort Go.Lib

/-- the table of powers stands -/
def Tab (w : World) : Prop := Lib.TabIs Tryz.prog w "internal/strconv.uint64pow10" .u64 Lib.pow10Tab
theorem Tab.of_block {w w' : World} (h : Tab w) (hk : ∀ k, k < w.heap.size → w'.heap[k]? = w.heap[k]?) : Tab w' := by
  unfold Tab TabIs World.var? at *
  cases hg : Tryz.prog.globalNamed "internal/strconv.uint64pow10" with
  | none => simp [hg] at h
  | some g =>
    simp only [hg, Option.bind_some] at h ⊢
    have hlt : g < w.heap.size := by
      rcases Nat.lt_or_ge g w.heap.size with hl | hl
      · exact hl
      · rw [Array.getElem?_eq_none hl] at h; simp at h
    rw [hk g hlt]; exact h
theorem Tab.below {w w' : World} (h : Tab w) (hb : Below w.heap.size w w') : Tab w' := h.of_block fun k hk => hb.block k hk
theorem Tab.low {w w' : World} {n : Nat} (h : Tab w) (hb : Below n w w') (hn : w.heap.size ≤ n) : Tab w' := h.of_block fun k hk => hb.block k (by omega)

theorem dec_eq (n : Nat) : Lib.decDigits n = dec n := by
  induction n using Nat.strongRecOn with
  | _ n ih =>
    rw [Lib.decDigits]
    by_cases h : n < 10
    · rw [dif_pos h, dec_small h]
    · rw [dif_neg h, dec_big (by omega), ih (n / 10) (by omega)]

theorem holds_zero0 (w : World) (T : TypeId) (nd : Nat) (hs : nd ≤ 24) : Holds (fun (b : UInt8) => Value.int .u8 (b.toNat : Int)) (w.alloc (.cells zeros24 T)) w.heap.size 0 (Array.replicate nd (0 : UInt8)) := fun j hj => by
  have hj' : j < nd := by simpa using hj
  refine ⟨?_, World.frozen?_alloc_new _ _ _ _⟩
  rw [World.cell?_alloc_new, zeros24_at _ (by omega), getElem!_pos _ j hj]
  simp
theorem below_putRow {α : Type} [Inhabited α] {enc : α → Value} {w w1 : World} {B blk off : Nat} {d : Array α} (h : Below B w w1) (hb : B ≤ blk) : Below B w (putRow enc w1 blk off d) :=
  ⟨h.os, h.tape, h.output, by simpa [putRow, mapBlock] using h.size, fun k hk => by
    rw [← h.block k hk]
    simp only [putRow, mapBlock, Array.getElem?_modify]
    rw [if_neg (by omega)]⟩

set_option maxHeartbeats 6400000 in
set_option maxRecDepth 100000 in
theorem iFormatUint_any (u : Nat) (w : World) (hu64 : u < 18446744073709551616) (htab : Tab w) :
    Calls Tryz.prog 134 #[.int .u64 u, .int .i64 10] w fun e w' => e = .returned (.string ⟨(dec u).toArray⟩) ∧ Below w.heap.size w w' := by
  rw [← dec_eq]
  by_cases hs : u < 100
  · go_enter Tryz.func134, Tryz.ntmps134
    go_wp2_with (go_at_call 145; refine (Tryz.internal_strconv_small u hs _).mono ?_; rintro e w' ⟨rfl, rfl⟩)
    go_ret
    exact ⟨rfl, Below.refl _ _⟩
  · have hu1 : 1 ≤ u := by omega
    have hnd20 : Lib.nDigits u ≤ 20 := by have := Lib.numDigits_eq u hu1 hu64; split at this <;> omega
    have hal : Tryz.prog.arrayLen 173 = 24 := by simp [Program.arrayLen, Tryz.underlying173]
    have hsl1 : ∀ W, (Instr.sliceAt 173 (.pointer (some ⟨w.heap.size, 0, none⟩)) none (some (.int .i64 (Lib.nDigits u : Int))) none).run Tryz.prog W = .ok (.slice (some ⟨w.heap.size, 0, none⟩) (Lib.nDigits u) 24) W := fun W => by
      rw [run_sliceAt_array_h W 173 ⟨w.heap.size, 0, none⟩ (by simp [Program.arrayLen, Program.elem, Tryz.underlying173]) .i64 (Lib.nDigits u : Int) (by omega) (by rw [hal]; omega)]
      go_simp
    have hH0 := holds_zero0 w 173 (Lib.nDigits u) (by omega)
    have hfmt := Tryz.internal_strconv_formatBase10 w.heap.size 0 24 u (Array.replicate (Lib.nDigits u) 0) (w.alloc (.cells Lib.zeros24 173)) hH0 (by rw [Array.size_replicate]; exact Lib.lt_pow_nDigits u) hu64 (by rw [Array.size_replicate]; omega)
    rw [Array.size_replicate] at hfmt
    have HH0 := Lib.hid hH0
    have HF0 := Lib.hid hfmt
    clear hH0 hal hfmt
    have HTab := Lib.hid htab
    clear htab
    go_enter Tryz.func134, Tryz.ntmps134
    go_wp2_with (go_at_call 146; refine (Tryz.internal_strconv_numDigits u hu1 hu64 _ (Lib.tabIs_alloc HTab.out _)).mono ?_; rintro e w' ⟨rfl, rfl⟩)
    refine HF0.out.mono ?_
    rintro e w' ⟨rfl, k, v', dk, rfl, hF⟩
    have hcv : (convert 117 9 (.slice (some ⟨w.heap.size, 0, none⟩) (Lib.nDigits u) 24)).run Tryz.prog ((putRow (fun (b : UInt8) => Value.int .u8 (b.toNat : Int)) (w.alloc (.cells Lib.zeros24 173)) w.heap.size 0 dk).drewN k) = .ok (.string ⟨(Lib.decDigits u).toArray⟩) ((putRow (fun (b : UInt8) => Value.int .u8 (b.toNat : Int)) (w.alloc (.cells Lib.zeros24 173)) w.heap.size 0 dk).drewN k) := by
      have h := run_convert_bytes_back (P := Tryz.prog) ((putRow (fun (b : UInt8) => Value.int .u8 (b.toNat : Int)) (w.alloc (.cells Lib.zeros24 173)) w.heap.size 0 dk).drewN k) 117 9 5 ⟨w.heap.size, 0, none⟩ 24 (Lib.decDigits u) Tryz.underlying117 Tryz.underlying5 Tryz.underlying9 (fun j hj => by
        rw [Lib.row_is_numeral hF j hj, Lib.add_plain, World.cell?_drewN]
        exact cell?_putRow (fun (b : UInt8) => Value.int .u8 (b.toNat : Int)) _ w.heap.size 0 _ dk HH0.out (by rw [hF.size, Array.size_replicate]) j (by rw [hF.size]; rw [Lib.decDigits_length] at hj; exact hj))
      rw [Lib.decDigits_length] at h
      exact h
    go_wp2
    go_ret
    exact ⟨rfl, below_drewN (below_putRow ((Below.refl _ _).alloc (Nat.le_refl _) _) (Nat.le_refl _)) _⟩

theorem FormatUint_any (u : Nat) (w : World) (hu64 : u < 18446744073709551616) (htab : Tab w) :
    Calls Tryz.prog 105 #[.int .u64 u, .int .i64 10] w fun e w' => e = .returned (.string ⟨(dec u).toArray⟩) ∧ Below w.heap.size w w' := by
  have C := Lib.hid (iFormatUint_any u w hu64 htab)
  clear htab
  go_enter Tryz.func105, Tryz.ntmps105
  go_wp2_with fail
  refine C.out.mono ?_
  rintro e w1 ⟨rfl, hB⟩
  have HB := Lib.hid hB
  clear hB
  go_wp2
  go_ret
  exact ⟨rfl, HB.out⟩
end Go.Proofs.YtolbafckppafkaaGreatDoor

/-
  PACKAGE nat: Print.
-/
set_option linter.unusedVariables false
set_option linter.unusedSimpArgs false
set_option linter.unnecessarySimpa false
namespace Go.Proofs.YtolbafckppafkaaGreatDoor
open Go.RowKit Pl Go.Sort Go.Lib

/-- a text as the program has it -/
def str (l : List UInt8) : Value := .string ⟨l.toArray⟩
theorem info_str : (Tryz.prog.info? 9).map (fun i => (i.zero, i.size, i.bytes)) = some (some (.string ⟨#[]⟩), 1, 16) := by kernel_rfl
theorem one_str (zs : List (List UInt8)) : ∀ u ∈ zs.map str, u.oneCell' = true := by
  intro u hu
  obtain ⟨l, _, rfl⟩ := List.mem_map.1 hu
  rfl
theorem own_ne {w : World} {v : Value} {n base base' c : Nat} {xs : List Value} {B : Option Addr} {l : List Int} (h : w.ownsRow base 9 1 v n xs) (ho : Ow w base' B c l) :
    v.ownBlock = none ∨ v.ownBlock ≠ B.map (·.block) := by
  rcases h.2 with ⟨rfl, _⟩ | ⟨g', cap, cur, rfl, _, hh, _⟩
  · exact .inl rfl
  · rcases ho with ⟨rfl, _⟩ | ⟨g, rfl, _, cs, hk, _⟩
    · right; simp [Value.ownBlock]
    · right
      intro e
      have e2 : g' = g := by simpa [Value.ownBlock] using e
      subst e2
      unfold Blk at hk
      rw [hh] at hk
      injection hk with hk
      injection hk with _ ht
      exact absurd ht (by decide)
theorem Ow.grown {w w' : World} {base c : Nat} {A : Option Addr} {l : List Int} {row : Option Nat} (h : Ow w base A c l) (hg : w.grownBy w' row) (hne : row = none ∨ row ≠ A.map (·.block)) : Ow w' base A c l := by
  rcases h with h | ⟨g, rfl, hb, hk⟩
  · exact .inl h
  · refine .inr ⟨g, rfl, hb, hk.grown hg ?_⟩
    rcases hne with rfl | hne
    · simp
    · exact fun e => hne (by rw [← e]; rfl)
theorem repeat_zero (n : Nat) : Lib.repeatL [48] n = List.replicate n 48 := by
  induction n with
  | zero => rfl
  | succ n ih => rw [Lib.repeatL, ih, List.replicate_succ]; rfl
theorem own_below {w w' : World} {v : Value} {n base : Nat} {e : TypeId} {sz : Nat} {xs : List Value} (h : w.ownsRow base e sz v n xs) (hb : Below w.heap.size w w') : w'.ownsRow base e sz v n xs :=
  h.kept (only_below hb none) (by
    cases hv : v.ownBlock with
    | none => exact .inl rfl
    | some g => exact .inr (by simp))
theorem cat_str (a b : List UInt8) : (⟨a.toArray⟩ : ByteArray) ++ ⟨b.toArray⟩ = ⟨(a ++ b).toArray⟩ := by
  apply ByteArray.ext
  rw [ByteArray.data_append]; first | done | simp
theorem cat_zero (k : Nat) (b : List UInt8) : (⟨Array.replicate k 48⟩ : ByteArray) ++ ⟨b.toArray⟩ = ⟨(List.replicate k 48 ++ b).toArray⟩ := by
  rw [← cat_str, List.toArray_replicate]
theorem news_one {w : World} {x : Value} {t : TypeId} : ∀ j u, [x][j]? = some u → (w.alloc (.cells #[x] t)).cell? ((⟨w.heap.size, 0, none⟩ : Addr).add j) = some u := by
  intro j u hj
  cases j with
  | zero =>
    simp only [List.getElem?_cons_zero, Option.some.injEq] at hj
    subst hj
    rw [add_plain, World.cell?_alloc_new]; rfl
  | succ j => simp at hj
theorem one_one (l : List UInt8) : ∀ u ∈ [str l], u.oneCell' = true := by intro u hu; rw [List.mem_singleton] at hu; subst hu; rfl
theorem below_ahead {B : Nat} {a w : World} (h : Below B a w) (n : Nat) : Below B a (Sort.ahead w n) := ⟨h.os, h.tape, h.output, h.size, h.block⟩
theorem cells_rev {wr : World} {g : Nat} {zs ys : List (List UInt8)} (hH : Holds encStr wr g 0 zs.toArray) (hl : ys.length = zs.length) (j : Nat) (x : ByteArray)
    (hj : (ys.map fun l => (⟨l.toArray⟩ : ByteArray))[j]? = some x) : (putRow encStr wr g 0 ys.toArray).cell? ⟨g, 0 + j, none⟩ = some (.string x) := by
  have hjl : j < ys.length := by
    rcases Nat.lt_or_ge j ys.length with hlt | hge
    · exact hlt
    · rw [List.getElem?_eq_none (by simpa using hge)] at hj; cases hj
  have := cell?_putRow encStr wr g 0 zs.toArray ys.toArray hH (by simp [hl]) j (by simpa using hjl)
  rw [this]
  simp only [List.getElem?_map, List.getElem?_eq_getElem hjl, Option.map_some, Option.some.injEq] at hj
  rw [← hj, getElem!_pos _ j (by simpa using hjl)]
  simp [encStr]
theorem inter_nil (l : List (List UInt8)) : (List.intersperse [] l).flatten = l.flatten := by
  induction l with
  | nil => rfl
  | cons a l ih =>
    cases l with
    | nil => rfl
    | cons b l => rw [List.intersperse_cons_cons]; simp only [List.flatten_cons, List.nil_append]; rw [ih]; simp
theorem own_cap {w : World} {g cap n base sz : Nat} {e : TypeId} {xs : List Value} (h : w.ownsRow base e sz (.slice (some ⟨g, 0, none⟩) n cap) n xs) : n ≤ cap := by
  rcases h.2 with ⟨h, _⟩ | ⟨g', cap', cur, h, _, _, hc, _⟩
  · cases h
  · injection h with _ _ hcap; omega
/-- what Print's loop keeps -/
def PI (D : List UInt8) (v : Nat) (zs : List (List UInt8)) : Prop := if v = 0 then zs.reverse.flatten = D else dec v ++ zs.reverse.flatten = D
theorem PI.more {D : List UInt8} {v : Nat} {zs : List (List UInt8)} (h : PI D v zs) (hq : v / 1000000000 ≠ 0) : PI D (v / 1000000000) (zs ++ [pad 9 (v % 1000000000)]) := by
  unfold PI at *
  have hv : v ≠ 0 := fun e => hq (by rw [e])
  rw [if_neg hv] at h
  rw [if_neg hq, ← h]
  have e := dec_pad (v / 1000000000) 9 (v % 1000000000) (by omega) (Nat.mod_lt _ (by omega))
  have e2 : v / 1000000000 * 10 ^ 9 + v % 1000000000 = v := by omega
  rw [e2] at e
  rw [e]; simp
theorem PI.last {D : List UInt8} {v : Nat} {zs : List (List UInt8)} (h : PI D v zs) (hv : v ≠ 0) (hq : v / 1000000000 = 0) : PI D 0 (zs ++ [dec (v % 1000000000)]) := by
  unfold PI at *
  rw [if_neg hv] at h
  rw [if_pos rfl, ← h]
  have e : v % 1000000000 = v := Nat.mod_eq_of_lt (by omega)
  rw [e]; simp
theorem PI.ne {D : List UInt8} {zs : List (List UInt8)} (h : PI D 0 zs) (hD : D ≠ []) : 0 < zs.length := by
  unfold PI at h
  rw [if_pos rfl] at h
  cases zs with
  | nil => exact absurd h.symm hD
  | cons a l => simp
theorem pow_step {v k : Nat} (h : v < 1000000000 ^ (k + 1)) : v / 1000000000 < 1000000000 ^ k := by
  rw [Nat.pow_succ] at h
  exact Nat.div_lt_of_lt_mul (by rw [Nat.mul_comm]; exact h)
theorem val_lt_pow {l : List Int} (h : InR l) {N M : Nat} (hM : 2 * N ≤ M) (hl : l.length ≤ N) : val l < 1000000000 ^ M := by
  have h1 := val_lt h
  have h2 : 4294967296 ^ l.length ≤ 4294967296 ^ N := Nat.pow_le_pow_right (by omega) hl
  have h3 : (4294967296 : Nat) ^ N ≤ (1000000000 ^ 2) ^ N := Nat.pow_le_pow_left (by omega) _
  rw [← Nat.pow_mul] at h3
  exact Nat.lt_of_lt_of_le h1 (Nat.le_trans h2 (Nat.le_trans h3 (Nat.pow_le_pow_right (by omega) hM)))
set_option exponentiation.threshold 100000 in
theorem val_lt_nine {l : List Int} (h : InR l) (hl : l.length ≤ 8192) : val l < 1000000000 ^ 16384 := val_lt_pow h (by omega) hl
theorem dec_len_nine {v k : Nat} (h : v < 1000000000 ^ k) (hk : 0 < k) : (dec v).length ≤ 9 * k := by
  refine dec_length_le (9 * k) v (by omega) ?_
  rw [Nat.pow_mul]; exact h

set_option maxRecDepth 100000 in
set_option maxHeartbeats 4000000 in
theorem Print_ok (A : Option Addr) (c : Nat) (l : List Int) (w : World) (h : Rd w A l) (hc : l.length ≤ c) (hl : Norm l) (hl8 : l.length ≤ 8192) (htab : Tab w) :
    Calls Tryz.prog 76 #[.slice A l.length c] w fun e w' => e = .returned (.tuple #[.string ⟨(dec (val l)).toArray⟩, .int .i64 0]) ∧ Below w.heap.size w w' := by
  have C1 := Check_any A c l w h
  rw [(natChk_ok h.inr).2 ⟨hl8, hl⟩] at C1
  have H1 := Lib.hid C1
  clear C1
  rcases Nat.eq_zero_or_pos l.length with h0 | h0
  · obtain rfl := List.eq_nil_of_length_eq_zero h0
    have e0 : (⟨(dec (val [])).toArray⟩ : ByteArray) = ⟨#[48]⟩ := rfl
    rw [e0]
    clear e0 htab
    go_enter Tryz.func76, Tryz.ntmps76
    go_wp2_with fail
    refine H1.out.mono ?_
    rintro e w' ⟨rfl, rfl⟩
    go_wp2
    go_ret2
    exact ⟨rfl, Below.refl _ _⟩
  have hz : ((l.length : Int) == 0) = false := beq_eq_false_iff_ne.2 (by omega)
  have C2 := Lib.hid (Clone_any A c l w h hc (by omega))
  have HP := Lib.hid (val_lt_nine h.inr hl8)
  have HV0 := Lib.hid (hl.val_pos (List.length_pos_iff.1 h0))
  have HT := Lib.hid htab
  have HL := Lib.hid (words_val hl)
  have hlen : l.length ≤ 8192 := hl8
  have HD := Lib.hid (dec_len_nine (val_lt_nine h.inr hl8) (by omega))
  clear htab h hl
  obtain ⟨i0, hi0, hz0, hz1, hz2⟩ := info_parts info_str
  go_enter Tryz.func76, Tryz.ntmps76
  go_wp2_with fail
  refine H1.out.mono ?_
  rintro e w' ⟨rfl, rfl⟩
  go_wp2_with fail
  refine C2.out.mono ?_
  rintro e w1 ⟨B, d, rfl, hO, hB⟩
  have HO := Lib.hid hO
  have HB := Lib.hid hB
  clear hO hB H1 C2
  generalize hn : l.length = n at *
  go_wp2
  go_loopg [6, 5] 16384 (fun gk xv pv wr => ∃ (v : Nat) (B : Option Addr) (c : Nat) (zs : List (List UInt8)), xv = .slice B (words v).length c ∧ zs.length + gk ≤ 16384 ∧ Hid (Ow wr w.heap.size B c (words v)) ∧ Hid (wr.ownsRow w.heap.size 9 1 pv zs.length (zs.map str)) ∧ Hid (Below w.heap.size w wr) ∧ Hid (PI (dec (val l)) v zs ∧ v < 1000000000 ^ gk))
  case atStart =>
    refine ⟨val l, B, d, [], by rw [HL.out, hn], Nat.le_refl _, Lib.hid (by rw [HL.out]; exact HO.out), Lib.hid (World.ownsRow_nil _ _ _ _), Lib.hid HB.out, Lib.hid ⟨?_, HP.out⟩⟩
    unfold PI; rw [if_neg (by have := HV0.out; omega)]; simp
  case round =>
    obtain ⟨v, B, c, zs, rfl, hzs, KO, KP, KB, KI⟩ := hrel
    clear HO HB
    by_cases hv : v = 0
    · subst hv
      rw [words_zero]
      have hzl := KI.out.1.ne (by have := dec_length_pos (val l); intro e; rw [e] at this; simp at this)
      obtain ⟨g, cap, rfl, hgb, hgl⟩ := KP.out.form hzl
      have hJ : zs.reverse.flatten = dec (val l) := by have := KI.out.1; unfold PI at this; rwa [if_pos rfl] at this
      have HJ := Lib.hid hJ
      have hH : Holds encStr wr g 0 zs.toArray := fun j hj => by
        have hj' : j < zs.length := by simpa using hj
        refine ⟨?_, KP.out.frozenAt _⟩
        rw [Nat.zero_add, KP.out.cellAt j (by omega)]
        simp [hj', encStr, str]
      have HR := Lib.hid (Tryz.slices_Reverse_string g 0 cap zs wr hH (by omega))
      have HH := Lib.hid hH
      clear hH hJ
      go_wp2_with fail
      refine HR.out.mono ?_
      rintro e w2 ⟨rfl, nd, rfl⟩
      have KB2 := Lib.hid (below_putRow (enc := encStr) (blk := g) (off := 0) (d := zs.reverse.toArray) (below_ahead KB.out nd) hgb)
      have hcell : ∀ (j : Nat) x, (zs.reverse.map fun l => (⟨l.toArray⟩ : ByteArray))[j]? = some x → (putRow encStr (Sort.ahead wr nd) g 0 zs.reverse.toArray).cell? ⟨g, 0 + j, none⟩ = some (.string x) := by
        exact cells_rev HH.out (by simp)
      have hj2 : Lib.join ((zs.reverse.map fun l => (⟨l.toArray⟩ : ByteArray)).map (·.data.toList)) (⟨#[]⟩ : ByteArray).data.toList = dec (val l) := by
        rw [← HJ.out, List.map_map]
        have e : (fun (x : ByteArray) => x.data.toList) ∘ (fun l : List UInt8 => (⟨l.toArray⟩ : ByteArray)) = id := by funext l; rfl
        rw [e, List.map_id]
        show ([] : List UInt8).intercalate _ = _
        unfold List.intercalate; exact inter_nil _
      have J := Tryz.strings_Join g 0 cap (zs.reverse.map fun l => (⟨l.toArray⟩ : ByteArray)) ⟨#[]⟩ (putRow encStr (Sort.ahead wr nd) g 0 zs.reverse.toArray) hcell (by rw [size_putRow]; exact hgl) (by simp; omega) (by simpa using own_cap KP.out) (by rw [hj2]; have := HD.out; omega)
      rw [hj2] at J
      simp only [List.length_map, List.length_reverse] at J
      have HJ2 := Lib.hid J
      clear J hj2 hcell
      generalize putRow encStr (Sort.ahead wr nd) g 0 zs.reverse.toArray = w3 at *
      go_wp2_with fail
      refine HJ2.out.mono ?_
      rintro e w4 ⟨rfl, hB4⟩
      have KB4 := Lib.hid (KB2.out.trans (hB4.mono KB2.out.size))
      clear hB4
      go_wp2
      go_ret2
      exact ⟨rfl, KB4.out⟩
    · have hgk : 0 < gk := by
        rcases Nat.eq_zero_or_pos gk with e | e
        · have := KI.out.2; rw [e] at this; simp at this; omega
        · exact e
      have wl : 0 < (words v).length := List.length_pos_iff.2 (fun e => hv (words_eq_nil.1 e))
      have SM := Lib.hid (fun (W : World) (hO : Ow W w.heap.size B c (words v)) => small_any w.heap.size c B (words v) 1000000000 W hO (by omega) (by omega))
      rw [val_words] at SM
      have hr : v % 1000000000 < 1000000000 := Nat.mod_lt _ (by omega)
      have hrl : (dec (v % 1000000000)).length ≤ 9 := dec_length_le 9 _ (by omega) (Nat.mod_lt _ (by omega))
      have HPAD := Lib.hid (pad_dec 9 (v % 1000000000) (by omega) (Nat.mod_lt _ (by omega)))
      by_cases hq : v / 1000000000 = 0
      · have HI := Lib.hid (KI.out.1.last hv hq)
        generalize v / 1000000000 = q at *
        generalize v % 1000000000 = r at *
        have ql : ¬ 0 < (words q).length := by rw [hq, words_zero]; simp
        have HQ0 := Lib.hid hq
        clear hq
        go_wp2_with fail
        refine (SM.out _ KO.out).mono ?_
        rintro e w2 ⟨rfl, hO2, hG2⟩
        have KP2 := Lib.hid (KP.out.kept hG2 (own_ne KP.out KO.out))
        have KB2 := Lib.hid (KB.out.trans (KO.out.only hG2 KB.out.size))
        have KO2 := Lib.hid hO2
        clear hO2 hG2 KP KB KO
        go_wp2_with fail
        refine (FormatUint_any r w2 (by omega) (HT.out.low KB2.out (Nat.le_refl _))).mono ?_
        rintro e w3 ⟨rfl, hB3⟩
        have KO3 := Lib.hid (KO2.out.below hB3)
        have KP3 := Lib.hid (own_below KP2.out hB3)
        have KB3 := Lib.hid (KB2.out.trans (hB3.mono KB2.out.size))
        clear hB3 KP2 KB2 KO2
        go_wp2_with (at_builtin; refine wpList_append_own_at _ rfl (.tmp 39) (.tmp 41) 40 rfl w.heap.size 9 i0 _ 1 16 Tryz.underlying40 hi0 hz0 hz1 hz2 rfl (by omega) _ zs.length (zs.map str) rfl (KP3.out.alloc _) ⟨w3.heap.size, 0, none⟩ 1 1 [str (dec r)] rfl rfl news_one (one_one _) (by simp only [maxLen]; omega) (by omega) (KB3.out.alloc (Nat.le_trans KB3.out.size (Nat.le_refl _)) _).size ?_)
        intro v5 w5 hown hg _ _
        have KO5 := Lib.hid ((KO3.out.below ((Below.refl _ _).alloc (Nat.le_refl _) _)).grown hg (own_ne KP3.out KO3.out))
        have KP5 := Lib.hid hown
        have KB5 := Lib.hid ((KB3.out.alloc KB3.out.size _).grown hg (KB3.out.alloc KB3.out.size _).size (fun k hk => ((KP3.out.lt k hk).1)))
        clear hown hg KP3 KO3 KB3
        go_wp2
        go_roundg (gk - 1)
        case measure => omega
        case rel =>
          exact ⟨q, B, c, zs ++ [dec r], rfl, by simp; omega, KO5, Lib.hid (by rw [List.map_append, List.length_append]; exact KP5.out), KB5, Lib.hid ⟨by rw [HQ0.out]; exact HI.out, by rw [HQ0.out]; exact Nat.pow_pos (by omega)⟩⟩
      · have HI := Lib.hid (KI.out.1.more hq)
        have HQ := Lib.hid (show v / 1000000000 < 1000000000 ^ (gk - 1) from pow_step (by have := KI.out.2; rwa [show gk - 1 + 1 = gk by omega]))
        have ql : 0 < (words (v / 1000000000)).length := List.length_pos_iff.2 (fun e => hq (words_eq_nil.1 e))
        generalize v / 1000000000 = q at *
        generalize v % 1000000000 = r at *
        go_wp2_with fail
        refine (SM.out _ KO.out).mono ?_
        rintro e w2 ⟨rfl, hO2, hG2⟩
        have KP2 := Lib.hid (KP.out.kept hG2 (own_ne KP.out KO.out))
        have KB2 := Lib.hid (KB.out.trans (KO.out.only hG2 KB.out.size))
        have KO2 := Lib.hid hO2
        clear hO2 hG2 KP KB KO
        go_wp2_with fail
        refine (FormatUint_any r w2 (by omega) (HT.out.low KB2.out (Nat.le_refl _))).mono ?_
        rintro e w3 ⟨rfl, hB3⟩
        have KO3 := Lib.hid (KO2.out.below hB3)
        have KP3 := Lib.hid (own_below KP2.out hB3)
        have KB3 := Lib.hid (KB2.out.trans (hB3.mono KB2.out.size))
        clear hB3 KP2 KB2 KO2
        go_wp2_with fail
        have R := Tryz.strings_Repeat ⟨#[48]⟩ (9 - (dec r).length) w3 (by omega) (by show 1 * _ ≤ _; omega)
        have e9 : ((9 - (dec r).length : Nat) : Int) = 9 - ((dec r).length : Int) := by omega
        rw [e9, show (⟨#[48]⟩ : ByteArray).data.toList = [48] from rfl, repeat_zero] at R
        have HR := Lib.hid R
        clear R e9
        refine HR.out.mono ?_
        rintro e w4 ⟨rfl, hB4⟩
        have KO4 := Lib.hid (KO3.out.below hB4)
        have KP4 := Lib.hid (own_below KP3.out hB4)
        have KB4 := Lib.hid (KB3.out.trans (hB4.mono KB3.out.size))
        clear hB4 KP3 KB3 KO3 HR
        have hcat := cat_zero (9 - (dec r).length) (dec r)
        rw [HPAD.out] at hcat
        go_wp2_with (at_builtin; refine wpList_append_own_at _ rfl (.tmp 39) (.tmp 41) 40 rfl w.heap.size 9 i0 _ 1 16 Tryz.underlying40 hi0 hz0 hz1 hz2 rfl (by omega) _ zs.length (zs.map str) rfl (KP4.out.alloc _) ⟨w4.heap.size, 0, none⟩ 1 1 [str (pad 9 r)] rfl rfl news_one (one_one _) (by simp only [maxLen]; omega) (by omega) (KB4.out.alloc (Nat.le_trans KB4.out.size (Nat.le_refl _)) _).size ?_)
        intro v5 w5 hown hg _ _
        have KO5 := Lib.hid ((KO4.out.below ((Below.refl _ _).alloc (Nat.le_refl _) _)).grown hg (own_ne KP4.out KO4.out))
        have KP5 := Lib.hid hown
        have KB5 := Lib.hid ((KB4.out.alloc KB4.out.size _).grown hg (KB4.out.alloc KB4.out.size _).size (fun k hk => ((KP4.out.lt k hk).1)))
        clear hown hg KP4 KO4 KB4
        go_wp2
        go_roundg (gk - 1)
        case measure => omega
        case rel =>
          exact ⟨q, B, c, zs ++ [pad 9 r], rfl, by simp; omega, KO5, Lib.hid (by rw [List.map_append, List.length_append]; exact KP5.out), KB5, Lib.hid ⟨HI.out, HQ.out⟩⟩
end Go.Proofs.YtolbafckppafkaaGreatDoor
