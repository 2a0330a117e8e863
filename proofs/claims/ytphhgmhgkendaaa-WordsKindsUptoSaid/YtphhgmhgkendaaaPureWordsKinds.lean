/-
  The statement WordsKinds in plain lists: what each cluster is, where words are asked, is what the document says of its first rune. Its condition: the text has at most 1048576 runes.
-/
import Derived.Test.YtphhgmhgkendaaaFx3
import Derived.Test.YtphhgmhgkendaaaPureWords
namespace Go.Proofs.Ytphhgmhgkendaaa.Pure
open Go.RowKit Go.Proofs.Ytphhgmhgkendaaa.F Go.Proofs.YtphhgmhgkendaaaW.PrintWords Go.Proofs.YtphhgmhgkendaaaW.PrintLast

theorem wf_i32 {x : Int} (h : (Lit.int .i32 x).wf = true) : -2147483648 ≤ x ∧ x ≤ 2147483647 := by
  simp [Lit.wf, IntKind.min, IntKind.max, IntKind.signed, IntKind.bits] at h
  omega
theorem class_range (r : Int) : 0 ≤ classF r ∧ classF r ≤ 255 := by
  unfold classF
  split
  · split <;> omega
  · exact getF_range linecTab_ok.2.2.2 (by omega)
theorem j0_same (k : Nat) (r c : Int) (b : Bool) : boustrophedonlaw32_kind.j0 (k + 1) r c b = words_kind.j0 (k + 1) r c b := by
  simp only [boustrophedonlaw32_kind.j0, words_kind.j0]
  by_cases h : r < 128
  · have h2 : ¬ r ≥ 128 := by omega
    rw [if_pos h, if_neg h2]
  · have h2 : r ≥ 128 := by omega
    rw [if_neg h, if_pos h2]
theorem lawkind_eq (k : Nat) (r : Int) (h0 : -2147483648 ≤ r) (h1 : r ≤ 2147483647) : boustrophedonlaw32_kind.f (k + 1) r = some (kindF r (classF r)) := by
  have hc := class_range r
  have hl : boustrophedonref04_Line.f r = some (classF r) := by
    unfold boustrophedonref04_Line.f
    rw [class_line]
  have e : classF r % 256 = classF r := by omega
  rw [← kind_eq k]
  unfold boustrophedonlaw32_kind.f words_kind.f
  rw [wrap64_i (by omega) (by omega), hl]
  simp only [Option.bind_some, e, j0_same]
theorem kinds_law (l : List Int) (hl : l.length ≤ 1048576) (hw : ∀ x ∈ l, (Lit.int .i32 x).wf = true) (d : Nat) : ∀ (i : Nat), i + d = (clF l).length → ∀ k, d + 2 ≤ k →
    boustrophedonlaw32_WordsKinds.l0 k l (ksF l) (clF l) ((clF l).length : Int) (i : Int) = some true := by
  induction d with
  | zero =>
    intro i hi k hk
    obtain ⟨k, rfl⟩ : ∃ m, k = m + 1 := ⟨k - 1, by omega⟩
    simp only [boustrophedonlaw32_WordsKinds.l0]
    rw [if_neg (by omega)]
  | succ d ih =>
    intro i hi k hk
    obtain ⟨k, rfl⟩ : ∃ m, k = m + 1 + 1 := ⟨k - 2, by omega⟩
    have hlt : i < (clF l).length := by omega
    have hcl := cl_length l
    obtain ⟨h0, h1⟩ := cl_ok l (clF l)[i] (List.getElem_mem hlt)
    have ihk := ih (i + 1) (by omega) (k + 1) (by omega)
    have hm : rd l ((clF l)[i]).f0 ∈ l := by
      rw [show ((clF l)[i]).f0 = ((((clF l)[i]).f0.toNat : Nat) : Int) by omega, rd_at l _ (by omega)]
      exact List.getElem_mem _
    obtain ⟨w0, w1⟩ := wf_i32 (hw _ hm)
    have hk2 := lawkind_eq k _ w0 w1
    have hr : rd (ksF l) (i : Int) = kindF (rd l ((clF l)[i]).f0) (classF (rd l ((clF l)[i]).f0)) := by
      rw [rd_at _ _ (by rw [ks_length]; exact hlt)]
      simp [ksF, kdF]
    generalize k + 1 = K at ihk hk2 ⊢
    simp only [boustrophedonlaw32_WordsKinds.l0]
    rw [rd_T48_at _ i hlt, if_pos (by omega), if_pos (by omega), if_pos (by omega), if_pos (by rw [ks_length]; omega), if_pos h0, if_pos h1, hk2, Option.bind_some, if_pos hr, wrap64_i (by omega) (by omega)]
    rw [show ((i + 1 : Nat) : Int) = (i : Int) + 1 by omega] at ihk
    exact ihk
theorem WordsKinds (l : List Int) (hl : l.length ≤ 1048576) (hw : ∀ x ∈ l, (Lit.int .i32 x).wf = true) : ∃ k, boustrophedonlaw32_WordsKinds.f k l = some true := by
  refine ⟨l.length + 8, ?_⟩
  have hcl := cl_length l
  unfold boustrophedonlaw32_WordsKinds.f
  refine (bind_of (show boustrophedonlaw32_awake.f = some true from rfl) _).trans ?_
  rw [if_pos rfl]
  refine (bind_of (kinds_eq l (by omega) _ (by omega)) _).trans ?_
  refine (bind_of (of_eq l (by omega) _ (by omega)) _).trans ?_
  rw [if_pos (by rw [ks_length])]
  exact kinds_law l hl hw (clF l).length 0 (by omega) _ (by omega)
end Go.Proofs.Ytphhgmhgkendaaa.Pure
