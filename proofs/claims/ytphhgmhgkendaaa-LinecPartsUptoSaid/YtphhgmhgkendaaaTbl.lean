/-
  linec.Table and cellw.Table: each hands back a new slice of ranges, with the table's rows, and changes nothing that was there. No condition.
-/
import Derived.Test.YtphhgmhgkendaaaLit
import Derived.WalkKit
import Derived.Laws.Rows
import Derived.Deep.LoopGhost
import Derived.Lib.Hide
import Derived.Test.YtphhgmhgkendaaaWWords
namespace Go.Proofs.Ytphhgmhgkendaaa
open Go.RowKit Go.Proofs.YtphhgmhgkendaaaW.PrintWords

/-- The cells of ranges. -/
def rgCells (t : List (Int × Int × Int)) : List Value := t.flatMap fun x => [.int .i32 x.1, .int .i32 x.2.1, .int .u8 x.2.2]
theorem info32 : (Try.prog.info? 32).map (fun i => (i.zero, i.size, i.bytes)) = some (some (.agg #[.int .i32 0, .int .i32 0, .int .u8 0]), 3, 12) := by kernel_rfl
/-- A function that hands back a literal of rows. -/
def RowsSaid (f : Nat) (tab : List (Int × Int × Int)) (n : Nat) : Prop := ∀ w : World, Calls Try.prog f #[] w fun e w' => e = .returned (.slice (some ⟨w.heap.size, 0, none⟩) n n) ∧ w' = w.alloc (.cells (tabCells .i32 tab).toArray 60)

theorem tabCells_at (kd : IntKind) : ∀ (t : List (Int × Int × Int)) (j : Nat) (a b c : Int), t[j]? = some (a, b, c) → (tabCells kd t)[j * 3]? = some (.int kd a) ∧ (tabCells kd t)[j * 3 + 1]? = some (.int kd b) ∧ (tabCells kd t)[j * 3 + 2]? = some (.int kd c)
  | [], j, a, b, c, h => by simp at h
  | x :: t, 0, a, b, c, h => by
    simp only [List.getElem?_cons_zero, Option.some.injEq] at h
    subst h
    simp [tabCells]
  | x :: t, j + 1, a, b, c, h => by
    have ih := tabCells_at kd t j a b c (by simpa using h)
    have e : tabCells kd (x :: t) = .int kd x.1 :: .int kd x.2.1 :: .int kd x.2.2 :: tabCells kd t := by simp [tabCells]
    rw [e, show (j + 1) * 3 = j * 3 + 1 + 1 + 1 by omega]
    simpa using ih
/-- The cells of a row of a literal's block, in whatever world has kept it. -/
theorem row_cells {kd : IntKind} {T : TypeId} {t : List (Int × Int × Int)} {w wr : World} (hB : Below (w.heap.size + 1) (w.alloc (.cells (tabCells kd t).toArray T)) wr) {j : Nat} {a b c : Int} (h : t[j]? = some (a, b, c)) :
    wr.cell? ⟨w.heap.size, j * 3, none⟩ = some (.int kd a) ∧ wr.cell? ⟨w.heap.size, j * 3 + 1, none⟩ = some (.int kd b) ∧ wr.cell? ⟨w.heap.size, j * 3 + 2, none⟩ = some (.int kd c) := by
  obtain ⟨h0, h1, h2⟩ := tabCells_at kd t j a b c h
  have hc : ∀ o, wr.cell? ⟨w.heap.size, o, none⟩ = (tabCells kd t)[o]? := fun o => by
    rw [hB.cell (p := ⟨w.heap.size, o, none⟩) (by simp)]
    simp [World.cell?_alloc_at]
  exact ⟨by rw [hc, h0], by rw [hc, h1], by rw [hc, h2]⟩

theorem rg_snoc {t : List (Int × Int × Int)} {k : Nat} {a b c : Int} (h : t[k]? = some (a, b, c)) : rgCells (t.take (k + 1)) = rgCells (t.take k) ++ [.int .i32 a, .int .i32 b, .int .u8 c] := by
  rw [List.take_add_one, h]
  simp [rgCells]

set_option maxRecDepth 100000 in
theorem linec_Table_any (tab : List (Int × Int × Int)) (hl : tab.length ≤ 331) (hl' : 331 ≤ tab.length) (hr : RowsSaid 32 tab 331) (hv : Hid (∀ x ∈ tab, 0 ≤ x.2.2 ∧ x.2.2 ≤ 255)) (w : World) : Calls Try.prog 16 #[] w fun e w' => ∃ v, e = .returned v ∧ w'.ownsRow w.heap.size 32 3 v 331 (rgCells tab) ∧ Below w.heap.size w w' := by
  obtain ⟨i0, hi, hz0, hz1, hz2⟩ := info_parts info32
  go_enter Try.func16, Try.ntmps16
  go_wp2_with (go_at_call 32; refine (hr _).mono ?_; rintro e w' ⟨rfl, rfl⟩)
  go_loopw [1, 6] (fun v i wr => ∃ k : Nat, k ≤ 331 ∧ i = .int .i64 k ∧ wr.ownsRow (w.heap.size + 1) 32 3 v k (rgCells (tab.take k)) ∧ Below (w.heap.size + 1) (w.alloc (.cells (tabCells .i32 tab).toArray 60)) wr)
    (fun _ i _ => 331 - (intOf i).toNat)
  case atStart => exact ⟨0, Nat.zero_le _, rfl, World.ownsRow_nil _ _ _ _, Below.refl _ _⟩
  case round =>
    obtain ⟨k, hk, rfl, hown, hB⟩ := hrel
    by_cases hlt : k < 331
    · obtain ⟨a, b, c, hx⟩ : ∃ a b c, tab[k]? = some (a, b, c) := by
        obtain ⟨x, hx⟩ : ∃ x, tab[k]? = some x := ⟨_, List.getElem?_eq_getElem (by omega)⟩
        exact ⟨x.1, x.2.1, x.2.2, hx⟩
      obtain ⟨v0, v1⟩ := hv.out _ (List.mem_of_getElem? hx)
      obtain ⟨c0, c1, c2⟩ := row_cells hB hx
      have HX := Lib.hid hx
      clear hx
      go_wp2_with (at_builtin; refine wpList_append_own _ rfl _ _ 24 rfl (w.heap.size + 1) 32 i0 (.agg #[.int .i32 0, .int .i32 0, .int .u8 0]) 3 12 Try.underlying24 hi hz0 hz1 hz2 rfl (by decide) _ _ _ rfl ((hown.alloc _).alloc _) ⟨wr.heap.size + 1, 0, none⟩ 1 1 [.int .i32 a, .int .i32 b, .int .u8 c] rfl rfl ?c1 ?c2 ?c3 ?c4 ?c5 ?_)
      case c1 =>
        intro j u hj
        match j, hj with
        | 0, hj => simp at hj; subst hj; simp [go_sem]
        | 1, hj => simp at hj; subst hj; simp [go_sem]
        | 2, hj => simp at hj; subst hj; simp [go_sem]; omega
      case c2 => first | (intro u hu; simp at hu; rcases hu with rfl | rfl | rfl <;> rfl) | simp [Value.oneCell']
      case c3 => unfold maxLen; omega
      case c4 => omega
      case c5 => have := hB.size; simp at this ⊢; omega
      intro v' w1 hown' hgrow _
      clear c0 c1 c2
      go_wp2
      go_roundw
      case rel =>
        refine ⟨k + 1, by omega, by go_num, ?_, ?_⟩
        · rw [rg_snoc HX.out]; exact hown'
        · exact ((hB.alloc (by have := hB.size; simp at this ⊢; omega) _).alloc (by have := hB.size; simp at this ⊢; omega) _).grown hgrow (by have := hB.size; simp at this ⊢; omega) (own_base hown)
      case measure => simp [intOf]; omega
    · have : k = 331 := by omega
      subst this
      go_wp2
      go_ret
      refine ⟨_, rfl, ?_, ?_⟩
      · rw [List.take_of_length_le hl] at hown; exact own_weaken hown (by omega)
      · exact ((Below.refl _ _).alloc (Nat.le_refl _) _).trans (hB.mono (by omega))
set_option maxRecDepth 100000 in
theorem cellw_Table_any (tab : List (Int × Int × Int)) (hl : tab.length ≤ 69) (hl' : 69 ≤ tab.length) (hr : RowsSaid 53 tab 69) (hv : Hid (∀ x ∈ tab, 0 ≤ x.2.2 ∧ x.2.2 ≤ 255)) (w : World) : Calls Try.prog 48 #[] w fun e w' => ∃ v, e = .returned v ∧ w'.ownsRow w.heap.size 32 3 v 69 (rgCells tab) ∧ Below w.heap.size w w' := by
  obtain ⟨i0, hi, hz0, hz1, hz2⟩ := info_parts info32
  go_enter Try.func48, Try.ntmps48
  go_wp2_with (go_at_call 53; refine (hr _).mono ?_; rintro e w' ⟨rfl, rfl⟩)
  go_loopw [1, 6] (fun v i wr => ∃ k : Nat, k ≤ 69 ∧ i = .int .i64 k ∧ wr.ownsRow (w.heap.size + 1) 32 3 v k (rgCells (tab.take k)) ∧ Below (w.heap.size + 1) (w.alloc (.cells (tabCells .i32 tab).toArray 60)) wr)
    (fun _ i _ => 69 - (intOf i).toNat)
  case atStart => exact ⟨0, Nat.zero_le _, rfl, World.ownsRow_nil _ _ _ _, Below.refl _ _⟩
  case round =>
    obtain ⟨k, hk, rfl, hown, hB⟩ := hrel
    by_cases hlt : k < 69
    · obtain ⟨a, b, c, hx⟩ : ∃ a b c, tab[k]? = some (a, b, c) := by
        obtain ⟨x, hx⟩ : ∃ x, tab[k]? = some x := ⟨_, List.getElem?_eq_getElem (by omega)⟩
        exact ⟨x.1, x.2.1, x.2.2, hx⟩
      obtain ⟨v0, v1⟩ := hv.out _ (List.mem_of_getElem? hx)
      obtain ⟨c0, c1, c2⟩ := row_cells hB hx
      have HX := Lib.hid hx
      clear hx
      go_wp2_with (at_builtin; refine wpList_append_own _ rfl _ _ 24 rfl (w.heap.size + 1) 32 i0 (.agg #[.int .i32 0, .int .i32 0, .int .u8 0]) 3 12 Try.underlying24 hi hz0 hz1 hz2 rfl (by decide) _ _ _ rfl ((hown.alloc _).alloc _) ⟨wr.heap.size + 1, 0, none⟩ 1 1 [.int .i32 a, .int .i32 b, .int .u8 c] rfl rfl ?c1 ?c2 ?c3 ?c4 ?c5 ?_)
      case c1 =>
        intro j u hj
        match j, hj with
        | 0, hj => simp at hj; subst hj; simp [go_sem]
        | 1, hj => simp at hj; subst hj; simp [go_sem]
        | 2, hj => simp at hj; subst hj; simp [go_sem]; omega
      case c2 => first | (intro u hu; simp at hu; rcases hu with rfl | rfl | rfl <;> rfl) | simp [Value.oneCell']
      case c3 => unfold maxLen; omega
      case c4 => omega
      case c5 => have := hB.size; simp at this ⊢; omega
      intro v' w1 hown' hgrow _
      clear c0 c1 c2
      go_wp2
      go_roundw
      case rel =>
        refine ⟨k + 1, by omega, by go_num, ?_, ?_⟩
        · rw [rg_snoc HX.out]; exact hown'
        · exact ((hB.alloc (by have := hB.size; simp at this ⊢; omega) _).alloc (by have := hB.size; simp at this ⊢; omega) _).grown hgrow (by have := hB.size; simp at this ⊢; omega) (own_base hown)
      case measure => simp [intOf]; omega
    · have : k = 69 := by omega
      subst this
      go_wp2
      go_ret
      refine ⟨_, rfl, ?_, ?_⟩
      · rw [List.take_of_length_le hl] at hown; exact own_weaken hown (by omega)
      · exact ((Below.refl _ _).alloc (Nat.le_refl _) _).trans (hB.mono (by omega))

/-- linec.Table. -/
theorem linec_Table_calls (w : World) : Calls Try.prog 16 #[] w fun e w' => ∃ v, e = .returned v ∧ w'.ownsRow w.heap.size 32 3 v 331 (rgCells linecTab) ∧ Below w.heap.size w w' :=
  linec_Table_any linecTab (by decide +kernel) (by decide +kernel) linec_rows_calls (Lib.hid (by decide +kernel)) w
/-- cellw.Table. -/
theorem cellw_Table_calls (w : World) : Calls Try.prog 48 #[] w fun e w' => ∃ v, e = .returned v ∧ w'.ownsRow w.heap.size 32 3 v 69 (rgCells widthTab) ∧ Below w.heap.size w w' :=
  cellw_Table_any widthTab (by decide +kernel) (by decide +kernel) cellw_rows_calls (Lib.hid (by decide +kernel)) w
end Go.Proofs.Ytphhgmhgkendaaa
