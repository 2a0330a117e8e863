/-
  The statement ClusterBack in plain lists: going on from break to break leads over all of a text, and back the same way. Its condition: the text has at most 1048576 scalars.
-/
import Derived.Test.YtphhgmhgkendaaaDx4
import Derived.Test.YtphhgmhgkendaaaPureClusterSpans
namespace Go.Proofs.Ytphhgmhgkendaaa.Pure
open Go.RowKit Go.Proofs.Ytphhgmhgkendaaa.D Go.Proofs.YtphhgmhgkendaaaW.PrintWords Go.Proofs.YtphhgmhgkendaaaW.PrintLast

theorem nxt_at (l : List Bool) (a t : Nat) (ht : t < l.length) (hat : a < t) (hb : rdOf false l (t : Int) = true) (hn : ∀ m, a < m → m < t → rdOf false l (m : Int) = false) (d : Nat) : d ≤ l.length → l.length - d ≤ t → nxtF l (a : Int) d = (t : Int) := by
  induction d with
  | zero =>
    intro _ h2
    omega
  | succ d ih =>
    intro h1 h2
    simp only [nxtF]
    by_cases e : l.length - (d + 1) = t
    · rw [e, if_pos hb, if_pos (by omega)]
    · have ihk := ih (by omega) (by omega)
      by_cases g : a < l.length - (d + 1)
      · rw [if_neg (by rw [hn _ g (by omega)]; simp), ihk]
      · rw [ihk]
        split
        · rw [if_neg (by omega)]
        · rfl
theorem prv_at (l : List Bool) (a t : Nat) (hat : a < t) (ha : 0 < a → rdOf false l (a : Int) = true) (hn : ∀ m, a < m → m < t → rdOf false l (m : Int) = false) (i : Nat) : a < i → prvF l (t : Int) i = (a : Int) := by
  induction i with
  | zero => omega
  | succ i ih =>
    intro h
    simp only [prvF]
    by_cases e : a = i
    · subst e
      by_cases g : 0 < a
      · rw [if_pos g, if_pos (ha g), if_pos (by omega)]
      · rw [if_neg g]
        omega
    · have ihk := ih (by omega)
      rw [if_pos (by omega), ihk]
      by_cases g : i < t
      · rw [if_neg (by rw [hn i (by omega) g]; simp)]
      · split
        · rw [if_neg (by omega)]
        · rfl
theorem back_loop (l : List Int) (bs : List Bool) (xs : List S48) (R0 : Nat) (hb : bs.length = l.length + 1) (hl : l.length ≤ 1048576) (hlast : rdOf false bs (l.length : Int) = true) (hof : ∀ k, R0 ≤ k → cluster_Of.f k l = some xs) (d : Nat) :
    ∀ (a n : Nat), d ≤ l.length → n ≤ a → n + (spF bs a d).length = xs.length → a < bs.length - d → (0 < a → rdOf false bs (a : Int) = true) → (∀ m, a < m → m < bs.length - d → rdOf false bs (m : Int) = false) →
    ∃ R, ∀ k, R ≤ k → boustrophedonlaw31_ClusterBack.l0 k l bs (a : Int) (n : Int) = some true := by
  induction d with
  | zero =>
    intro a n _ hna hx ha hab hn
    refine ⟨R0 + 2, fun k hk => ?_⟩
    obtain ⟨k, rfl⟩ : ∃ m, k = m + 1 + 1 := ⟨k - 2, by omega⟩
    have hal : a = l.length := by
      by_cases g : a < l.length
      · have := hn l.length g (by omega)
        rw [hlast] at this
        cases this
      · omega
    simp only [boustrophedonlaw31_ClusterBack.l0, spF, List.length_nil, Nat.add_zero] at hx ⊢
    rw [if_neg (by omega)]
    simp only [boustrophedonlaw31_ClusterBack.j1]
    rw [if_neg (by simp), if_pos (by omega), hof k (by omega)]
    simp [hx]
  | succ d ih =>
    intro a n hd hna hx ha hab hn
    obtain ⟨i, hi⟩ : ∃ i, bs.length - (d + 1) = i := ⟨_, rfl⟩
    simp only [spF] at hx
    rw [hi] at ha hn hx
    by_cases g1 : rdOf false bs (i : Int) = true
    · rw [if_pos g1, if_pos (by omega), if_pos ha, List.length_cons] at hx
      obtain ⟨R, hR⟩ := ih i (n + 1) (by omega) (by omega) (by omega) (by omega) (fun _ => g1) (fun m h1 h2 => by omega)
      refine ⟨R + bs.length + 3, fun k hk => ?_⟩
      obtain ⟨k, rfl⟩ : ∃ m, k = m + 1 + 1 := ⟨k - 2, by omega⟩
      have e1 : cluster_Next.f k bs (a : Int) = some (i : Int) := by
        have := next_eq bs (by omega) (a : Int) (k - bs.length - 1)
        rw [show k - bs.length - 1 + bs.length + 1 = k by omega] at this
        rw [this, nxt_at bs a i (by omega) ha g1 hn bs.length (Nat.le_refl _) (by omega)]
      have e2 : cluster_Prev.f k bs (i : Int) = some (a : Int) := by
        have := prev_eq bs (by omega) (i : Int) (k - bs.length - 1)
        rw [show k - bs.length - 1 + bs.length + 1 = k by omega] at this
        rw [this, prv_at bs a i ha hab hn bs.length (by omega)]
      simp only [boustrophedonlaw31_ClusterBack.l0]
      rw [if_pos (by omega)]
      simp only [boustrophedonlaw31_ClusterBack.j1]
      rw [if_pos (by simp; omega), e1, Option.bind_some, if_neg (by omega), e2, Option.bind_some, if_pos rfl, wrap64_i (by omega) (by omega)]
      exact hR k (by omega)
    · rw [if_neg g1] at hx
      refine ih a n (by omega) hna hx (by omega) hab (fun m h1 h2 => ?_)
      by_cases g : m < i
      · exact hn m h1 g
      · obtain rfl : m = i := by omega
        simpa using g1
theorem ClusterBack (l : List Int) (hl : l.length ≤ 1048576) : ∃ k, boustrophedonlaw31_ClusterBack.f k l = some true := by
  have hof : ∀ k, l.length + 2 ≤ k → cluster_Of.f k l = some (spF (brksF l) 0 l.length) := by
    intro k hk
    have := of_eq l (by omega) (k - l.length - 2)
    rwa [sp_first _ _ (brks_length l), show k - l.length - 2 + (l.length + 1) + 1 = k by omega] at this
  obtain ⟨R, hR⟩ := back_loop l (brksF l) _ _ (brks_length l) hl (brks_last l) hof l.length 0 0 (Nat.le_refl _) (Nat.le_refl _) (by omega) (by rw [brks_length]; omega) (by omega) (fun m h1 h2 => by rw [brks_length] at h2; omega)
  refine ⟨6 + R, ?_⟩
  unfold boustrophedonlaw31_ClusterBack.f
  refine (bind_of (awake31_more R) _).trans ?_
  rw [if_pos rfl]
  refine (bind_of (breaks_eq l hl) _).trans ?_
  exact hR _ (by omega)
end Go.Proofs.Ytphhgmhgkendaaa.Pure
