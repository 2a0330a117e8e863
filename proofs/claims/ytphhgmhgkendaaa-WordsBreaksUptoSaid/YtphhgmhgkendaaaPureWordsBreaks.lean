/-
  The statement WordsBreaks in plain lists: where words begin and end is what the document says, cluster by cluster. Its condition: the text has at most 1048576 runes.
-/
import Derived.Test.YtphhgmhgkendaaaFx6
import Derived.Test.YtphhgmhgkendaaaPureWords
namespace Go.Proofs.Ytphhgmhgkendaaa.Pure
open Go.RowKit Go.Proofs.Ytphhgmhgkendaaa.F Go.Proofs.YtphhgmhgkendaaaW.PrintWords Go.Proofs.YtphhgmhgkendaaaW.PrintLast

theorem same_loop (bs : List Bool) (hb : bs.length ≤ 8388608) (d : Nat) : ∀ (i : Nat), i + d = bs.length → ∀ k, d + 1 ≤ k → boustrophedonlaw32_WordsBreaks.l1 k bs bs (bs.length : Int) (i : Int) = some true := by
  induction d with
  | zero =>
    intro i hi k hk
    obtain ⟨k, rfl⟩ : ∃ m, k = m + 1 := ⟨k - 1, by omega⟩
    simp only [boustrophedonlaw32_WordsBreaks.l1]
    rw [if_neg (by omega)]
  | succ d ih =>
    intro i hi k hk
    obtain ⟨k, rfl⟩ : ∃ m, k = m + 1 := ⟨k - 1, by omega⟩
    have ihk := ih (i + 1) (by omega) k (by omega)
    rw [show ((i + 1 : Nat) : Int) = (i : Int) + 1 by omega] at ihk
    simp only [boustrophedonlaw32_WordsBreaks.l1]
    rw [if_pos (by omega), if_pos (by omega), if_pos (by omega), if_pos (by omega), if_neg (by simp), wrap64_i (by omega) (by omega)]
    exact ihk
theorem fill_loop (l : List Int) (hl : l.length ≤ 1048576) (bs : List Bool) (hb : bs.length = l.length + 1) (d : Nat) : ∀ (i : Nat) (o : List Bool), i + d = (clF l).length → o.length = l.length + 1 →
    (setL (brW l) i ((clF l).drop i) o).set 0 true = bs → ∀ k, d + bs.length + 3 ≤ k →
    boustrophedonlaw32_WordsBreaks.l0 k bs o (ksF l) (clF l) ((clF l).length : Int) (i : Int) = some true := by
  induction d with
  | zero =>
    intro i o hi ho he k hk
    obtain ⟨k, rfl⟩ : ∃ m, k = m + 1 := ⟨k - 1, by omega⟩
    rw [List.drop_of_length_le (by omega)] at he
    simp only [boustrophedonlaw32_WordsBreaks.l0]
    rw [if_neg (by omega), if_pos (by omega), if_pos (by omega)]
    have e : o.set (0 : Int).toNat true = bs := he
    rw [e]
    exact same_loop bs (by omega) bs.length 0 (by omega) k (by omega)
  | succ d ih =>
    intro i o hi ho he k hk
    obtain ⟨k, rfl⟩ : ∃ m, k = m + 1 := ⟨k - 1, by omega⟩
    have hlt : i < (clF l).length := by omega
    have hcl := cl_length l
    obtain ⟨h0, h1⟩ := cl_ok l (clF l)[i] (List.getElem_mem hlt)
    have hd : setL (brW l) i ((clF l).drop i) o = setL (brW l) (i + 1) ((clF l).drop (i + 1)) (o.set ((clF l)[i]).f0.toNat (brW l i)) := by
      rw [List.drop_eq_getElem_cons hlt]
      rfl
    rw [hd] at he
    have ihk := ih (i + 1) (o.set ((clF l)[i]).f0.toNat (brW l i)) (by omega) (by rw [List.length_set]; exact ho) he k (by omega)
    rw [show ((i + 1 : Nat) : Int) = (i : Int) + 1 by omega] at ihk
    simp only [boustrophedonlaw32_WordsBreaks.l0]
    rw [rd_T48_at _ i hlt, if_pos (by omega), if_pos (by omega), if_pos (by omega), wrap64_i (by omega) (by omega)]
    by_cases hz : i = 0
    · subst hz
      rw [if_pos (by rfl), if_pos h0, if_pos (by omega)]
      exact ihk
    · have hj : boustrophedonlaw32_joined.f (ksF l) (i : Int) = some (jnB (ksF l) i) := by
        unfold boustrophedonlaw32_joined.f
        rw [if_pos (by rw [ks_length]; omega), Int.toNat_natCast]
      have hbr : brW l i = !jnB (ksF l) i := by
        unfold brW
        rw [beq_eq_false_iff_ne.mpr hz]
        rfl
      rw [if_neg (by omega), hj, Option.bind_some, if_pos h0, if_pos (by omega), ← hbr]
      exact ihk
theorem want_eq (l : List Int) : (setL (brW l) 0 (clF l) ((List.replicate (l.length + 1) false).set l.length true)).set 0 true = wB l := by
  have hne : ∀ x ∈ clF l, x.f0.toNat ≠ l.length := by
    intro x hx
    have := cl_ok l x hx
    omega
  rw [setL_set _ _ _ _ _ _ hne]
  unfold wB
  by_cases h0 : l.length = 0
  · rw [h0, List.set_set]
  · rw [List.set_comm _ _ h0]
    cases hc : clF l with
    | nil => exact absurd hc (cl_some l (by omega))
    | cons x xs =>
      have hch := cl_ch l
      rw [hc] at hch
      obtain ⟨b, rfl, hb, _, hr⟩ := hch
      have hne2 : ∀ y ∈ xs, y.f0.toNat ≠ 0 := by
        intro y hy
        have := ch_mem hr y hy
        omega
      have e : (brW l 0) = true := rfl
      rw [setL, e]
      have e2 : (({ f0 := ((0 : Nat) : Int), f1 := (b : Int) } : S48).f0.toNat) = 0 := rfl
      rw [e2, setL_set _ _ _ _ _ _ hne2, List.set_set]
theorem WordsBreaks (l : List Int) (hl : l.length ≤ 1048576) : ∃ k, boustrophedonlaw32_WordsBreaks.f k l = some true := by
  refine ⟨2 * l.length + 20, ?_⟩
  have hcl := cl_length l
  have e : wrap64 ((l.length : Int) + 1) = ((l.length + 1 : Nat) : Int) := by rw [wrap64_i (by omega) (by omega)]; omega
  unfold boustrophedonlaw32_WordsBreaks.f
  refine (bind_of (show boustrophedonlaw32_awake.f = some true from rfl) _).trans ?_
  rw [if_pos rfl]
  refine (bind_of (wbreaks_eq l (by omega) _ (by omega)) _).trans ?_
  rw [e, Int.toNat_natCast, if_pos (by omega), if_pos (by omega), Option.bind_some, if_pos (by omega), if_pos (by rw [List.length_replicate]; omega), Int.toNat_natCast]
  refine (bind_of (kinds_eq l (by omega) _ (by omega)) _).trans ?_
  refine (bind_of (of_eq l (by omega) _ (by omega)) _).trans ?_
  refine fill_loop l hl (wB l) (wB_length l) (clF l).length 0 _ (by omega) (by simp) ?_ _ (by rw [wB_length]; omega)
  rw [List.drop_zero]
  exact want_eq l
end Go.Proofs.Ytphhgmhgkendaaa.Pure
