/-
  Parts of package trie: what 'whole', 'filled' and slices.Equal (of two pages) come to. Conditions: bounds on the block's first scalar and on the number of ranges; the ranges lie where the slice says.
-/
import Derived.Test.YtphhgmhgkendaaaTbl
import Derived.WalkKit
import Derived.IntWalk
import Derived.Laws.Rows
import Derived.Deep.QuietTactic
import Derived.BigQuiet
import Derived.Deep.LoopGhost
import Derived.Lib.Hide
import Derived.Test.YtphhgmhgkendaaaWWords
namespace Go.Proofs.Ytphhgmhgkendaaa
open Go.RowKit Go.Proofs.YtphhgmhgkendaaaW.PrintWords

/-- The value of a scalar: that of the first range that doesn't end ahead of it, if it has begun; else the other one. -/
def look : List (Int × Int × Int) → Int → Int → Int
  | [], o, _ => o
  | x :: t, o, r => if x.2.1 < r then look t o r else if x.1 ≤ r then x.2.2 else o

/-- A slice of ranges that is read. -/
def RgC (w : World) (A : Option Addr) (t : List (Int × Int × Int)) : Prop :=
  t ≠ [] → ∃ B o, A = some ⟨B, o, none⟩ ∧ ∀ j a b c, t[j]? = some (a, b, c) →
    w.cell? ⟨B, o + j * 3, none⟩ = some (.int .i32 a) ∧ w.cell? ⟨B, o + j * 3 + 1, none⟩ = some (.int .i32 b) ∧ w.cell? ⟨B, o + j * 3 + 2, none⟩ = some (.int .u8 c)

theorem RgC.below {w w1 : World} {A : Option Addr} {t : List (Int × Int × Int)} (h : RgC w A t) (hb : Below w.heap.size w w1) : RgC w1 A t := fun hn => by
  obtain ⟨B, o, rfl, hc⟩ := h hn
  refine ⟨B, o, rfl, fun j a b c hj => ?_⟩
  obtain ⟨c0, c1, c2⟩ := hc j a b c hj
  exact ⟨pw_cell_below hb c0, pw_cell_below hb c1, pw_cell_below hb c2⟩

/-- What whole answers. -/
def wholeF (t : List (Int × Int × Int)) (at_ o : Int) : Int × Bool :=
  match t with
  | [] => (o, true)
  | x :: _ => if at_ + 128 ≤ x.1 then (o, true) else if x.1 ≤ at_ ∧ at_ + 127 ≤ x.2.1 then (x.2.2, true) else (0, false)

theorem whole_calls (A : Option Addr) (c : Nat) (t : List (Int × Int × Int)) (at_ o : Int) (w : World) (h : RgC w A t) (h0 : 0 ≤ at_) (h1 : at_ ≤ 1114111) :
    Calls Try.prog 45 #[.slice A t.length c, .int .i32 at_, .int .u8 o] w fun e w' => e = .returned (.tuple #[.int .u8 (wholeF t at_ o).1, .bool (wholeF t at_ o).2]) ∧ w = w' := by
  cases t with
  | nil =>
    go_enter Try.func45, Try.ntmps45
    go_wp2
    go_ret2
    exact ⟨rfl, rfl⟩
  | cons x t =>
    obtain ⟨B, q, rfl, hc⟩ := h (by simp)
    obtain ⟨a, b, v⟩ := x
    obtain ⟨c0, c1, c2⟩ := hc 0 a b v rfl
    clear hc h
    simp only [Nat.zero_mul, Nat.add_zero] at c0 c1 c2
    have hl : (t.length : Int) + 1 ≠ 0 := by omega
    by_cases g1 : at_ + 128 ≤ a
    · have hf : wholeF ((a, b, v) :: t) at_ o = (o, true) := by simp [wholeF, g1]
      rw [hf]
      clear hf
      go_enter Try.func45, Try.ntmps45
      go_wp2
      go_ret2
      exact ⟨rfl, rfl⟩
    · by_cases g2 : a ≤ at_
      · by_cases g3 : at_ + 127 ≤ b
        · have hf : wholeF ((a, b, v) :: t) at_ o = (v, true) := by simp [wholeF, g1, g2, g3]
          rw [hf]
          clear hf
          go_enter Try.func45, Try.ntmps45
          go_wp2
          go_ret2
          exact ⟨rfl, rfl⟩
        · have hf : wholeF ((a, b, v) :: t) at_ o = (0, false) := by simp [wholeF, g1, g2, g3]
          rw [hf]
          clear hf
          go_enter Try.func45, Try.ntmps45
          go_wp2
          go_ret2
          exact ⟨rfl, rfl⟩
      · have hf : wholeF ((a, b, v) :: t) at_ o = (0, false) := by simp [wholeF, g1, g2]
        rw [hf]
        clear hf
        go_enter Try.func45, Try.ntmps45
        go_wp2
        go_ret2
        exact ⟨rfl, rfl⟩

/-- Are two pages the same? -/
def eqF (f g : Nat → Int) : Bool := (List.range 128).all fun j => decide (f j = g j)
theorem eqF_true {f g : Nat → Int} : eqF f g = true ↔ ∀ j, j < 128 → f j = g j := by simp [eqF]

theorem equal_calls (B1 B2 c1 c2 : Nat) (f g : Nat → Int) (w : World) (h1 : ∀ j, j < 128 → w.cell? ⟨B1, j, none⟩ = some (.int .u8 (f j))) (h2 : ∀ j, j < 128 → w.cell? ⟨B2, j, none⟩ = some (.int .u8 (g j))) :
    Calls Try.prog 52 #[.slice (some ⟨B1, 0, none⟩) 128 c1, .slice (some ⟨B2, 0, none⟩) 128 c2] w fun e w' => e = .returned (.bool (eqF f g)) ∧ ∃ n, w' = w.drewN n := by
  have H1 := Lib.hid h1
  have H2 := Lib.hid h2
  clear h1 h2
  go_enter Try.func52, Try.ntmps52
  go_wp2
  go_loopw [13] (fun i wr => ∃ k : Nat, k ≤ 128 ∧ i = .int .i64 k ∧ Hid (∀ j, j < k → f j = g j) ∧ ∃ n, wr = w.drewN n) (fun i _ => 128 - (intOf i).toNat)
  case atStart => exact ⟨0, by omega, rfl, Lib.hid (fun j hj => by omega), 0, rfl⟩
  case round =>
    obtain ⟨k, hk, rfl, hE, n, rfl⟩ := hrel
    by_cases hlt : k < 128
    · have c1 : w.cell? ⟨B1, k, none⟩ = some (.int .u8 (f k)) := H1.out k hlt
      have c2 : w.cell? ⟨B2, k, none⟩ = some (.int .u8 (g k)) := H2.out k hlt
      obtain ⟨x, hx⟩ : ∃ x, f k = x := ⟨_, rfl⟩
      obtain ⟨y, hy⟩ : ∃ y, g k = y := ⟨_, rfl⟩
      rw [hx] at c1
      rw [hy] at c2
      have HX := Lib.hid hx
      have HY := Lib.hid hy
      clear hx hy
      have i0 : (0 : Int) ≤ (k : Int) := by omega
      have i1 : (k : Int) < 128 := by omega
      by_cases hxy : x = y
      · subst hxy
        have hb : (x != x) = false := by simp
        go_wp2_with fail
        go_quiet (fail)
        go_wp2
        go_roundw
        case rel => exact ⟨k + 1, by omega, by go_num, Lib.hid (fun j hj => by
          rcases Nat.lt_or_eq_of_le (Nat.le_of_lt_succ hj) with h | rfl
          · exact hE.out j h
          · rw [HX.out, HY.out]), _, rfl⟩
        case measure => simp [intOf]; omega
      · have hb : (x != y) = true := by simpa using hxy
        have hf : eqF f g = false := by
          exact Bool.eq_false_iff.2 (fun h => hxy (by rw [← HX.out, ← HY.out]; exact eqF_true.1 h k hlt))
        have HF := Lib.hid hf
        clear hf hxy
        go_wp2_with fail
        go_quiet (fail)
        go_wp2
        go_ret
        exact ⟨by rw [HF.out]; rfl, _, World.drewN_drewN ..⟩
    · have : k = 128 := by omega
      subst this
      have hf : eqF f g = true := eqF_true.2 hE.out
      have HF := Lib.hid hf
      clear hf
      go_wp2
      go_ret
      exact ⟨by rw [HF.out]; rfl, n, rfl⟩

/-! ### filled -/
theorem look_drop {t : List (Int × Int × Int)} {k : Nat} {a b c : Int} (h : t[k]? = some (a, b, c)) (o r : Int) : look (t.drop k) o r = if b < r then look (t.drop (k + 1)) o r else if a ≤ r then c else o := by
  obtain ⟨hk, e⟩ := List.getElem?_eq_some_iff.1 h
  rw [List.drop_eq_getElem_cons hk, e]
  rfl
/-- The first n of a page, the rest as it was made. -/
def pageTo (f : Nat → Int) (n : Nat) : List Int := (List.range 128).map fun i => if i < n then f i else 0
theorem pageTo_set (f : Nat → Int) (n : Nat) (h : n < 128) : (nums .u8 (pageTo f n)).set n (.int .u8 (f n)) = nums .u8 (pageTo f (n + 1)) := by
  apply List.ext_getElem?
  intro i
  simp only [nums, pageTo, List.map_map, List.getElem?_set, List.length_map, List.length_range, List.getElem?_map]
  by_cases hi : i < 128
  · rw [List.getElem?_range hi]
    by_cases e : n = i
    · subst e
      simp [h]
    · rw [if_neg e]
      simp only [Option.map_some, Function.comp, Option.some.injEq, Value.int.injEq, true_and]
      by_cases h2 : i < n
      · rw [if_pos h2, if_pos (by omega)]
      · rw [if_neg h2, if_neg (by omega)]
  · rw [List.getElem?_eq_none (by simpa using hi)]
    simp; omega
theorem pageTo_at (f : Nat → Int) (n i : Nat) (h : i < 128) : (nums .u8 (pageTo f n))[i]? = some (.int .u8 (if i < n then f i else 0)) := by
  simp [nums, pageTo, List.getElem?_range h]
theorem info5 : (Try.prog.info? 5).map (fun i => (i.zero, i.size, i.bytes)) = some (some (.int .u8 0), 1, 1) := by kernel_rfl
theorem pageTo_zero (f : Nat → Int) : (madeCells (Value.int .u8 0).cells (128 * 1)).toList = nums .u8 (pageTo f 0) := by
  kernel_rfl

set_option maxRecDepth 100000 in
set_option maxHeartbeats 1600000 in
theorem filled_calls (A : Option Addr) (c : Nat) (t : List (Int × Int × Int)) (at_ o : Int) (w : World) (h : RgC w A t) (h0 : 0 ≤ at_) (h1 : at_ ≤ 1114111) (hl : t.length ≤ 1000) :
    Calls Try.prog 47 #[.slice A t.length c, .int .i32 at_, .int .u8 o] w fun e w' => e = .returned (.slice (some ⟨w.heap.size, 0, none⟩) 128 128) ∧
      w'.ownsRow w.heap.size 5 1 (.slice (some ⟨w.heap.size, 0, none⟩) 128 128) 128 (nums .u8 (pageTo (fun i : Nat => look t o (at_ + (i : Int))) 128)) ∧ Below w.heap.size w w' := by
  obtain ⟨i0, hi, hz0, hz1, hz2⟩ := info_parts info5
  obtain ⟨f, hf⟩ : ∃ f : Nat → Int, f = fun i : Nat => look t o (at_ + (i : Int)) := ⟨_, rfl⟩
  rw [← hf]
  have HF := Lib.hid hf
  have HC := Lib.hid h
  clear hf h
  go_enter Try.func47, Try.ntmps47
  go_wp2_with (at_make; refine wpList_make_full _ rfl _ _ 49 rfl w.heap.size 5 i0 (.int .u8 0) 1 Try.underlying49 hi hz0 hz1 .i64 .i64 128 128 128 rfl rfl rfl rfl (by rw [hz2]; omega) (by unfold maxLen; omega) (Nat.le_refl _) ?_; intro w1 hown hgrow)
  rw [pageTo_zero f] at hown
  have hB := (Below.refl w.heap.size w).grown hgrow (Nat.le_refl _) (by simp)
  clear hgrow
  go_loopw [8, 14] (fun v8 v14 wr => ∃ k i : Nat, k ≤ t.length ∧ i ≤ 128 ∧ v8 = .int .i64 k ∧ v14 = .int .i64 i ∧ wr.ownsRow w.heap.size 5 1 (.slice (some ⟨w.heap.size, 0, none⟩) 128 128) 128 (nums .u8 (pageTo f i)) ∧ Below w.heap.size w wr ∧ Hid (∀ r, at_ + i ≤ r → look (t.drop k) o r = look t o r))
    (fun _ i _ => 128 - (intOf i).toNat)
  case atStart => exact ⟨0, 0, Nat.zero_le _, Nat.zero_le _, rfl, rfl, hown, hB, Lib.hid (fun r _ => rfl)⟩
  case round =>
    clear hown hB
    obtain ⟨k, i, hk, hi128, rfl, rfl, hown, hB, hK⟩ := hrel
    by_cases hlt : i < 128
    · obtain ⟨wo, rfl⟩ : ∃ wo : World, wo = wr := ⟨_, rfl⟩
      have HO := Lib.hid hown
      have HB := Lib.hid hB
      clear hown hB
      go_wp2_with fail
      go_loop [8] (fun v8 => ∃ j : Nat, j ≤ t.length ∧ v8 = .int .i64 j ∧ Hid (∀ r, at_ + i ≤ r → look (t.drop j) o r = look t o r)) (fun v8 => t.length - (intOf v8).toNat)
      case atStart => exact ⟨k, hk, rfl, hK⟩
      case round =>
        clear hK hk
        obtain ⟨j, hj, rfl, hJ⟩ := hrel
        by_cases hjl : j < t.length
        · obtain ⟨a, b, v, hx⟩ : ∃ a b v, t[j]? = some (a, b, v) := by
            obtain ⟨x, hx⟩ : ∃ x, t[j]? = some x := ⟨_, List.getElem?_eq_getElem (by omega)⟩
            exact ⟨x.1, x.2.1, x.2.2, hx⟩
          obtain ⟨B, q, rfl, hc⟩ := HC.out (by intro e; rw [e] at hjl; simp at hjl)
          obtain ⟨w0, w1, w2⟩ := hc j a b v hx
          clear hc
          have HX := Lib.hid hx
          clear hx
          have hBw : B < w.heap.size := World.block_lt_of_cell? w _ w0
          by_cases hb : b < at_ + i
          · have c1 : wo.cell? ⟨B, q + j * 3 + 1, none⟩ = some (.int .i32 b) := pw_cell_below HB.out w1
            clear w0 w1 w2
            go_wp2_with fail
            go_round
            case rel => exact ⟨j + 1, by omega, by go_num, Lib.hid (fun r hr => by
              have := hJ.out r hr
              rw [look_drop HX.out, if_pos (by omega)] at this
              exact this)⟩
            case measure => simp [intOf]; omega
          · have c1 : wo.cell? ⟨B, q + j * 3 + 1, none⟩ = some (.int .i32 b) := pw_cell_below HB.out w1
            have e0 : wo.cell? ⟨w.heap.size, i, none⟩ = some (.int .u8 0) := by rw [HO.out.cellAt i (by omega), pageTo_at f i i hlt, if_neg (by omega)]
            have e1 : wo.frozen? ⟨w.heap.size, i, none⟩ = false := HO.out.frozenAt i
            have d0 : (wo.setCell ⟨w.heap.size, i, none⟩ (.int .u8 o)).cell? ⟨B, q + j * 3, none⟩ = some (.int .i32 a) := (World.cell?_setCell_far _ _ _ _ (by simp; omega)).trans (pw_cell_below HB.out w0)
            have d2 : (wo.setCell ⟨w.heap.size, i, none⟩ (.int .u8 o)).cell? ⟨B, q + j * 3 + 2, none⟩ = some (.int .u8 v) := (World.cell?_setCell_far _ _ _ _ (by simp; omega)).trans (pw_cell_below HB.out w2)
            clear w0 w1 w2
            have hfi : Hid (f i = if a ≤ at_ + i then v else o) := Lib.hid (by
              rw [HF.out]
              show look t o (at_ + (i : Int)) = _
              rw [← hJ.out _ (Int.le_refl _), look_drop HX.out, if_neg (by omega)])
            by_cases ha : a ≤ at_ + i
            · go_wp2_with fail
              go_roundw
              case rel =>
                refine ⟨j, i + 1, by omega, by omega, rfl, by go_num, ?_, ?_, Lib.hid (fun r hr => hJ.out r (by omega))⟩
                · have h1 := ((HO.out.stored i (.int .u8 o)).1.stored i (.int .u8 v)).1
                  rwa [List.set_set, show v = f i by rw [hfi.out, if_pos ha], pageTo_set f i hlt, ← show v = f i by rw [hfi.out, if_pos ha]] at h1
                · exact (HB.out.setCell (p := ⟨w.heap.size, i, none⟩) (Nat.le_refl _) _).setCell (p := ⟨w.heap.size, i, none⟩) (Nat.le_refl _) _
              case measure => simp [intOf]; omega
            · go_wp2_with fail
              go_roundw
              case rel =>
                refine ⟨j, i + 1, by omega, by omega, rfl, by go_num, ?_, ?_, Lib.hid (fun r hr => hJ.out r (by omega))⟩
                · have h1 := (HO.out.stored i (.int .u8 (f i))).1
                  rw [pageTo_set f i hlt, hfi.out, if_neg ha] at h1
                  exact h1
                · exact HB.out.setCell (p := ⟨w.heap.size, i, none⟩) (Nat.le_refl _) _
              case measure => simp [intOf]; omega
        · have hjj : j = t.length := by omega
          have hfi : Hid (f i = o) := Lib.hid (by
              rw [HF.out]
              show look t o (at_ + (i : Int)) = _
              rw [← hJ.out _ (Int.le_refl _), hjj, List.drop_length]
              rfl)
          subst hjj
          have e0 : wo.cell? ⟨w.heap.size, i, none⟩ = some (.int .u8 0) := by rw [HO.out.cellAt i (by omega), pageTo_at f i i hlt, if_neg (by omega)]
          have e1 : wo.frozen? ⟨w.heap.size, i, none⟩ = false := HO.out.frozenAt i
          go_wp2_with fail
          go_roundw
          case rel =>
            refine ⟨t.length, i + 1, by omega, by omega, rfl, by go_num, ?_, ?_, Lib.hid (fun r hr => hJ.out r (by omega))⟩
            · have h1 := (HO.out.stored i (.int .u8 (f i))).1
              rw [pageTo_set f i hlt, hfi.out] at h1
              exact h1
            · exact HB.out.setCell (p := ⟨w.heap.size, i, none⟩) (Nat.le_refl _) _
          case measure => simp [intOf]; omega
    · have : i = 128 := by omega
      subst this
      go_wp2
      go_ret
      exact ⟨rfl, hown, hB⟩
end Go.Proofs.Ytphhgmhgkendaaa
