/-
  The statement LinecOf in plain lists: each scalar's class is what the document's table, or the rule of Hangul, says. No condition but the arguments' own bounds.
-/
import Derived.Test.YtphhgmhgkendaaaCx1
namespace Go.Proofs.Ytphhgmhgkendaaa.Pure
open Go.RowKit Go.Proofs.Ytphhgmhgkendaaa.C Go.Proofs.YtphhgmhgkendaaaW.PrintWords Go.Proofs.YtphhgmhgkendaaaW.PrintLast

theorem wf_i32 {x : Int} (h : (Lit.int .i32 x).wf = true) : -2147483648 ≤ x ∧ x ≤ 2147483647 := by
  simp [Lit.wf, IntKind.min, IntKind.max, IntKind.signed, IntKind.bits] at h
  omega
theorem rd_at {l : List Int} {i : Int} (h0 : 0 ≤ i) (h1 : i < (l.length : Int)) : ∃ x, l[i.toNat]? = some x ∧ rd l i = x := by
  have hi : i.toNat < l.length := by omega
  exact ⟨l[i.toNat], List.getElem?_eq_getElem hi, by simp [rd, List.getD_eq_getElem?_getD, List.getElem?_eq_getElem hi]⟩
theorem rd_map {l : List Int} {f : Int → Int} {i x : Int} (h : l[i.toNat]? = some x) : rd (l.map f) i = f x := by
  simp [rd, List.getD_eq_getElem?_getD, h]
theorem wrap64_i {x : Int} (h0 : -9223372036854775808 ≤ x) (h1 : x ≤ 9223372036854775807) : wrap64 x = x := IntWalk.wrap64_in _ ⟨h0, h1⟩
theorem class_range (r : Int) : 0 ≤ classF r ∧ classF r ≤ 255 := by
  unfold classF
  split
  · split <;> omega
  · exact getF_range linecTab_ok.2.2.2 (by omega)

theorem awake06 : boustrophedonlaw06_awake.f = some true := by decide +kernel

theorem linecOf_loop (l : List Int) (hl : l.length ≤ 140737488351232) (hw : ∀ x ∈ l, (Lit.int .i32 x).wf = true) (d : Nat) : ∀ (k : Nat) (i : Int), 0 ≤ i → i ≤ l.length → (l.length : Int) - i = d → d < k → boustrophedonlaw06_LinecOf.l0 k l (l.map classF) i = some true := by
  induction d with
  | zero =>
    intro k i h0 h1 hd hk
    obtain ⟨k, rfl⟩ : ∃ m, k = m + 1 := ⟨k - 1, by omega⟩
    simp only [boustrophedonlaw06_LinecOf.l0]
    rw [if_neg (by omega)]
  | succ d ih =>
    intro k i h0 h1 hd hk
    obtain ⟨k, rfl⟩ : ∃ m, k = m + 1 := ⟨k - 1, by omega⟩
    obtain ⟨x, hx, hrd⟩ := rd_at (l := l) h0 (by omega)
    have hb := wf_i32 (hw x (List.mem_of_getElem? hx))
    have hc := class_range x
    simp only [boustrophedonlaw06_LinecOf.l0]
    rw [if_pos (by omega), if_pos h0, if_pos (by simp; omega), hrd, rd_map hx, wrap64_i (by omega) (by omega), wrap64_i (by omega) (by omega)]
    simp only [boustrophedonref04_Line.f, Option.bind_some]
    rw [if_pos (class_line x), wrap64_i (by omega) (by omega)]
    exact ih k (i + 1) (by omega) (by omega) (by omega) (by omega)

theorem LinecOf : boustrophedonlaw06_LinecOf.Pure := by
  intro l hm hl hw
  refine ⟨l.length + 1, ?_⟩
  unfold boustrophedonlaw06_LinecOf.f
  rw [awake06]
  simp only [Option.bind_some, if_true]
  unfold linec_Of.f
  rw [if_pos (by omega)]
  simp only [Option.bind_some, List.length_map, if_true]
  exact linecOf_loop l (by omega) hw l.length (l.length + 1) 0 (by omega) (by omega) (by omega) (by omega)
end Go.Proofs.Ytphhgmhgkendaaa.Pure
