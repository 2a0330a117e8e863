/-
  The walk of the statement LinecTables: whatever the number, the call answers true and changes nothing that was there. Its condition: the number is of its kind.
-/
import Derived.Test.YtphhgmhgkendaaaCx1
import Derived.Test.YtphhgmhgkendaaaPureLinecOf
import Derived.Test.YtphhgmhgkendaaaTr2
import Derived.Deep.QuietTactic
import Derived.BigQuiet
namespace Go.Proofs.Ytphhgmhgkendaaa
open Go.RowKit Go.Proofs.YtphhgmhgkendaaaW.PrintWords

theorem awake06_any (w : World) : Calls Try.prog 15 #[] w fun e w' => e = .returned (.bool true) ∧ Below w.heap.size w w' := C.boustrophedonlaw06_awake.calls true w Pure.awake06
theorem check_lines (B c : Nat) (w : World) (h : RgC w (some ⟨B, 0, none⟩) linecTab) : Calls Try.prog 18 #[.slice (some ⟨B, 0, none⟩) 331 c] w fun e w' => e = .returned .nilIface ∧ Below w.heap.size w w' := by
  have := check_calls (some ⟨B, 0, none⟩) c linecTab w h linecTab_ok.2.1 (by rw [linecTab_ok.1]; omega)
  rwa [linecTab_ok.1] at this
theorem tab_at (j : Nat) (hj : j < 331) : ∃ a b c, linecTab[j]? = some (a, b, c) := by
  obtain ⟨x, hx⟩ : ∃ x, linecTab[j]? = some x := ⟨_, List.getElem?_eq_getElem (by rw [linecTab_ok.1]; exact hj)⟩
  exact ⟨x.1, x.2.1, x.2.2, hx⟩
theorem tab_wrap : ∀ x ∈ linecTab, IntKind.i64.wrap x.1 = x.1 ∧ IntKind.i64.wrap x.2.1 = x.2.1 ∧ IntKind.i64.wrap x.2.2 = x.2.2 := by decide +kernel
set_option maxRecDepth 100000 in
set_option maxHeartbeats 1600000 in
theorem tables_calls (a0 : Int) (h0 : 0 ≤ a0) (h1 : a0 ≤ 65535) (w : World) : Calls Try.prog 3 #[.int .u16 a0] w fun e w' => e = .returned (.bool true) ∧ Below w.heap.size w w' := by
  obtain ⟨j, hj, hm⟩ : ∃ j : Nat, j < 331 ∧ a0 % 331 = (j : Int) := ⟨(a0 % 331).toNat, by omega, by omega⟩
  obtain ⟨a, b, c, hx⟩ := tab_at j hj
  have HX := Lib.hid hx
  have HM := Lib.hid hm
  clear hx hm
  go_enter Try.func3, Try.ntmps3
  go_wp2_with (go_at_call 15; refine (awake06_any _).mono ?_; rintro e w1 ⟨rfl, hB1⟩; have HB1 := Lib.hid hB1; clear hB1)
  refine (linec_Table_calls w1).mono ?_
  rintro e w2 ⟨v, rfl, hown, hB2⟩
  obtain ⟨B, cap, rfl, hcap, hrg⟩ := own_ranges hown linecTab_ok.1 (by omega)
  have HO := Lib.hid hown
  have HB2 := Lib.hid (HB1.out.trans (hB2.mono HB1.out.size))
  have HRG := Lib.hid hrg
  clear hown hB2 hrg
  go_wp2_with fail
  refine (ref_lines_calls w2).mono ?_
  rintro e w3 ⟨rfl, rfl⟩
  have hB3 : Below w2.heap.size w2 (w2.alloc (.cells (tabCells .i64 linecTab).toArray 33)) := below_alloc (Below.refl _ _) _
  have HRG3 := Lib.hid (HRG.out.below hB3)
  clear hB3
  go_wp2_with fail
  refine (check_lines B cap _ HRG3.out).mono ?_
  rintro e w4 ⟨rfl, hB4⟩
  have HB4 := Lib.hid hB4
  clear hB4
  go_wp2_with fail
  rw [HM.out]
  obtain ⟨B', o', e, hr⟩ := (HRG3.out.below HB4.out) (fun h => by have := linecTab_ok.1; rw [h] at this; simp at this)
  injection e with e
  injection e with e1 e2
  subst e1 e2
  obtain ⟨t0, t1, t2⟩ := hr j a b c HX.out
  obtain ⟨r0, r1, r2⟩ := row_cells (kd := .i64) (T := 33) (w := w2) (wr := w4) (by simpa using HB4.out) HX.out
  clear hr
  simp only [Nat.zero_add] at t0 t1 t2
  have hj0 : (0 : Int) ≤ (j : Int) := by omega
  have hj1 : (j : Int) < 331 := by omega
  obtain ⟨wa, wb, wc⟩ := tab_wrap _ (List.mem_of_getElem? HX.out)
  simp only at wa wb wc
  have ea : (IntKind.i64.wrap a == a) = true := by rw [wa]; simp
  have eb : (IntKind.i64.wrap b == b) = true := by rw [wb]; simp
  have ec : (IntKind.i64.wrap c == c) = true := by rw [wc]; simp
  clear wa wb wc
  go_quiet (fail)
  go_wp2
  go_ret
  exact ⟨rfl, pw_below_drewN (HB2.out.trans (((below_alloc (Below.refl w2.heap.size w2) _).trans (HB4.out.mono (by simp))).mono HB2.out.size)) nq⟩
end Go.Proofs.Ytphhgmhgkendaaa
