/-
  The statement ClusterMoves in plain lists: the next and the last break of a place are what the document says, of any breaks. No condition but the arguments' own bounds.
-/
import Derived.Test.YtphhgmhgkendaaaDx3
namespace Go.Proofs.Ytphhgmhgkendaaa.Pure
open Go.RowKit Go.Proofs.Ytphhgmhgkendaaa.D Go.Proofs.YtphhgmhgkendaaaW.PrintWords Go.Proofs.YtphhgmhgkendaaaW.PrintLast

theorem wrap64_i {x : Int} (h0 : -9223372036854775808 ≤ x) (h1 : x ≤ 9223372036854775807) : wrap64 x = x := IntWalk.wrap64_in _ ⟨h0, h1⟩
theorem awake31 : boustrophedonlaw31_awake.f 6 = some true := by decide +kernel
theorem awake31_more (m : Nat) : boustrophedonlaw31_awake.f (6 + m) = some true := by
  induction m with
  | zero => exact awake31
  | succ m ih => exact boustrophedonlaw31_awake.mono (6 + m) true ih
/-- The first break behind a place, among the last d boundaries. -/
def nxtF (l : List Bool) (a : Int) : Nat → Int
  | 0 => if (l.length : Int) - 1 < 0 then 0 else (l.length : Int) - 1
  | d + 1 => if rdOf false l ((l.length - (d + 1) : Nat) : Int) = true then (if ((l.length - (d + 1) : Nat) : Int) > a then ((l.length - (d + 1) : Nat) : Int) else nxtF l a d) else nxtF l a d
/-- The last break ahead of a place, among the first i boundaries but that at 0. -/
def prvF (l : List Bool) (a : Int) : Nat → Int
  | 0 => 0
  | i + 1 => if 0 < i then (if rdOf false l (i : Int) = true then (if (i : Int) < a then (i : Int) else prvF l a i) else prvF l a i) else 0
theorem mx0 (l : List Bool) (hl : l.length ≤ 9223372036854775807) : mx 0 (wrap64 ((l.length : Int) - 1)) = if (l.length : Int) - 1 < 0 then 0 else (l.length : Int) - 1 := by
  rw [wrap64_i (by omega) (by omega)]
  unfold mx
  split <;> split <;> omega
theorem next_loop (l : List Bool) (hl : l.length ≤ 9223372036854775807) (a : Int) (d : Nat) : ∀ (k : Nat), d ≤ l.length → cluster_Next.l0 (k + d + 1) l a l (l.length : Int) ((l.length - d : Nat) : Int) = some (nxtF l a d) := by
  induction d with
  | zero =>
    intro k _
    simp only [cluster_Next.l0]
    rw [if_neg (by omega), mx0 l hl, nxtF]
  | succ d ih =>
    intro k hd
    have ihk := ih k (by omega)
    rw [show k + (d + 1) + 1 = (k + d + 1) + 1 by omega]
    generalize k + d + 1 = K at ihk ⊢
    simp only [cluster_Next.l0, nxtF]
    rw [if_pos (by omega), if_pos (by omega), if_pos (by omega), wrap64_i (by omega) (by omega), show (((l.length - (d + 1) : Nat) : Int) + 1) = ((l.length - d : Nat) : Int) by omega, ihk]
    split
    · split <;> rfl
    · rfl
theorem prev_loop (l : List Bool) (hl : l.length ≤ 9223372036854775807) (a : Int) (i : Nat) : ∀ (k : Nat), i ≤ l.length → cluster_Prev.l0 (k + i + 1) l a ((i : Int) - 1) = some (prvF l a i) := by
  induction i with
  | zero =>
    intro k _
    simp only [cluster_Prev.l0]
    rw [if_neg (by omega), prvF]
  | succ i ih =>
    intro k hd
    have ihk := ih k (by omega)
    rw [show k + (i + 1) + 1 = (k + i + 1) + 1 by omega]
    generalize k + i + 1 = K at ihk ⊢
    simp only [cluster_Prev.l0, prvF]
    rw [show ((i + 1 : Nat) : Int) - 1 = (i : Int) by omega]
    by_cases h0 : 0 < i
    · rw [if_pos (by omega), if_pos (by omega), if_pos (by omega), if_pos h0, wrap64_i (by omega) (by omega), ihk]
      split
      · split <;> rfl
      · rfl
    · rw [if_neg (by omega), if_neg h0]
theorem next_eq (l : List Bool) (hl : l.length ≤ 9223372036854775807) (a : Int) (k : Nat) : cluster_Next.f (k + l.length + 1) l a = some (nxtF l a l.length) := by
  have := next_loop l hl a l.length k (Nat.le_refl _)
  rw [Nat.sub_self] at this
  exact this
theorem prev_eq (l : List Bool) (hl : l.length ≤ 9223372036854775807) (a : Int) (k : Nat) : cluster_Prev.f (k + l.length + 1) l a = some (prvF l a l.length) := by
  have := prev_loop l hl a l.length k (Nat.le_refl _)
  unfold cluster_Prev.f
  rw [wrap64_i (by omega) (by omega)]
  exact this
theorem moves_up (l : List Bool) (hl : l.length ≤ 9223372036854775806) (a : Int) (d : Nat) : ∀ (k i : Nat), 1 ≤ i → i + d = l.length + (if l.length = 0 then 1 else 0) →
    boustrophedonlaw31_ClusterMoves.l1 (k + l.length + 1 + d + 1) l a (nxtF l a l.length) (prvF l a (if l.length = 0 then 0 else i)) (i : Int) = some true := by
  induction d with
  | zero =>
    intro k i h1 hd
    have hi : (if l.length = 0 then 0 else i) = l.length := by split at hd <;> (split <;> omega)
    rw [hi, Nat.add_zero]
    simp only [boustrophedonlaw31_ClusterMoves.l1]
    rw [if_neg (by split at hd <;> omega), next_eq l (by omega), prev_eq l (by omega)]
    simp
  | succ d ih =>
    intro k i h1 hd
    by_cases hz : l.length = 0
    · rw [if_pos hz] at hd
      omega
    · rw [if_neg hz] at hd ⊢
      have ihk := ih k (i + 1) (by omega) (by rw [if_neg hz]; omega)
      rw [if_neg hz] at ihk
      rw [show k + l.length + 1 + (d + 1) + 1 = (k + l.length + 1 + d + 1) + 1 by omega]
      generalize k + l.length + 1 + d + 1 = K at ihk ⊢
      simp only [prvF] at ihk
      rw [if_pos (by omega)] at ihk
      simp only [boustrophedonlaw31_ClusterMoves.l1]
      rw [if_pos (by omega), if_pos (by omega), wrap64_i (by omega) (by omega)]
      rw [show ((i + 1 : Nat) : Int) = (i : Int) + 1 by omega] at ihk
      by_cases g : rdOf false l (i : Int) = true
      · rw [if_pos g] at ihk ⊢
        by_cases g2 : (i : Int) < a
        · rw [if_pos g2] at ihk ⊢
          exact ihk
        · rw [if_neg g2] at ihk ⊢
          exact ihk
      · rw [if_neg g] at ihk ⊢
        exact ihk
theorem moves_down (l : List Bool) (hl : l.length ≤ 9223372036854775806) (a : Int) (i : Nat) : ∀ (k : Nat), i ≤ l.length →
    boustrophedonlaw31_ClusterMoves.l0 (k + l.length + 1 + l.length + 2 + i + 1) l a (nxtF l a (l.length - i)) 0 ((i : Int) - 1) = some true := by
  induction i with
  | zero =>
    intro k _
    simp only [boustrophedonlaw31_ClusterMoves.l0]
    rw [if_neg (by omega), Nat.sub_zero]
    by_cases hz : l.length = 0
    · have h := moves_up l hl a 0 (k + l.length + 1) 1 (by omega) (by rw [if_pos hz]; omega)
      rw [if_pos hz] at h
      rw [show k + l.length + 1 + l.length + 2 + 0 = k + l.length + 1 + l.length + 1 + 0 + 1 by omega]
      exact h
    · have h := moves_up l hl a (l.length - 1) (k + 2) 1 (by omega) (by rw [if_neg hz]; omega)
      rw [if_neg hz, show prvF l a 1 = 0 by simp [prvF]] at h
      rw [show k + l.length + 1 + l.length + 2 + 0 = k + 2 + l.length + 1 + (l.length - 1) + 1 by omega]
      exact h
  | succ i ih =>
    intro k hi
    have ihk := ih k (by omega)
    rw [show k + l.length + 1 + l.length + 2 + (i + 1) + 1 = (k + l.length + 1 + l.length + 2 + i + 1) + 1 by omega]
    generalize k + l.length + 1 + l.length + 2 + i + 1 = K at ihk ⊢
    rw [show l.length - i = (l.length - (i + 1)) + 1 by omega] at ihk
    simp only [nxtF] at ihk
    rw [show l.length - (l.length - (i + 1) + 1) = i by omega] at ihk
    simp only [boustrophedonlaw31_ClusterMoves.l0]
    rw [show ((i + 1 : Nat) : Int) - 1 = (i : Int) by omega, if_pos (by omega), if_pos (by omega), if_pos (by omega), wrap64_i (by omega) (by omega)]
    by_cases g : rdOf false l (i : Int) = true
    · rw [if_pos g] at ihk ⊢
      by_cases g2 : (i : Int) > a
      · rw [if_pos g2] at ihk ⊢
        exact ihk
      · rw [if_neg g2] at ihk ⊢
        exact ihk
    · rw [if_neg g] at ihk ⊢
      exact ihk
theorem ClusterMoves (l : List Bool) (hl : l.length ≤ 9223372036854775806) (a : Int) : ∃ k, boustrophedonlaw31_ClusterMoves.f k l a = some true := by
  refine ⟨6 + l.length + 1 + l.length + 2 + l.length + 1, ?_⟩
  have h := moves_down l hl a l.length 6 (Nat.le_refl _)
  unfold boustrophedonlaw31_ClusterMoves.f
  rw [mx0 l (by omega), wrap64_i (by omega) (by omega)]
  rw [Nat.sub_self, nxtF] at h
  rw [h]
  have := awake31_more (l.length + 1 + l.length + 2 + l.length + 1)
  rw [show 6 + (l.length + 1 + l.length + 2 + l.length + 1) = 6 + l.length + 1 + l.length + 2 + l.length + 1 by omega] at this
  rw [this]
  rfl
end Go.Proofs.Ytphhgmhgkendaaa.Pure
