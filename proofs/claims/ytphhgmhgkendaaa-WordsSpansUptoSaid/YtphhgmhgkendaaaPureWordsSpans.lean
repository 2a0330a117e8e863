/-
  The statement WordsSpans in plain lists: words, and what is between them, follow one another and are all of the text; each begins and ends at a cluster's ends. Its condition: the text has at most 1048576 runes.
-/
import Derived.Test.YtphhgmhgkendaaaFx7
import Derived.Test.YtphhgmhgkendaaaPureWords
namespace Go.Proofs.Ytphhgmhgkendaaa.Pure
open Go.RowKit Go.Proofs.Ytphhgmhgkendaaa.F Go.Proofs.YtphhgmhgkendaaaW.PrintWords Go.Proofs.YtphhgmhgkendaaaW.PrintLast

theorem wspans_loop (l : List Int) (hl : l.length ≤ 1048576) (d : Nat) : ∀ (a : Nat) (pre : List S48), d ≤ l.length → pre.length + d ≤ l.length → a < l.length + 1 - d → rdOf false (brksF l) (a : Int) = true → (∀ m, a < m → m < l.length + 1 - d → rdOf false (wB l) (m : Int) = false) →
    ∀ k, d + 1 ≤ k → boustrophedonlaw32_WordsSpans.l0 k l (brksF l) (a : Int) (pre ++ wsF (wB l) a d) ((pre ++ wsF (wB l) a d).length : Int) (pre.length : Int) = some true := by
  induction d with
  | zero =>
    intro a pre _ _ ha _ hn k hk
    obtain ⟨k, rfl⟩ : ∃ m, k = m + 1 := ⟨k - 1, by omega⟩
    have hal : a = l.length := by
      by_cases g : a < l.length
      · have := hn l.length g (by omega)
        rw [wB_last] at this
        cases this
      · omega
    simp only [boustrophedonlaw32_WordsSpans.l0, wsF, List.append_nil]
    rw [if_neg (by omega), hal]
    simp
  | succ d ih =>
    intro a pre hd hp ha hab hn k hk
    simp only [wsF, wB_length]
    obtain ⟨i, hi⟩ : ∃ i, l.length + 1 - (d + 1) = i := ⟨_, rfl⟩
    rw [hi] at ha hn ⊢
    by_cases g1 : rdOf false (wB l) (i : Int) = true
    · obtain ⟨k, rfl⟩ : ∃ m, k = m + 1 := ⟨k - 1, by omega⟩
      rw [if_pos g1, if_pos ha]
      have hib := wB_break l i g1
      have hR := ih i (pre ++ [⟨(a : Int), (i : Int)⟩]) (by omega) (by simp; omega) (by omega) hib (fun m h1 h2 => by omega) k (by omega)
      have e : pre ++ [(⟨(a : Int), (i : Int)⟩ : S48)] ++ wsF (wB l) i d = pre ++ ⟨(a : Int), (i : Int)⟩ :: wsF (wB l) i d := by simp
      rw [e] at hR
      generalize hxs : pre ++ (⟨(a : Int), (i : Int)⟩ : S48) :: wsF (wB l) i d = xs at hR
      have hxl : pre.length < xs.length := by rw [← hxs]; simp
      have hrd : rd_T48 xs (pre.length : Int) = ⟨(a : Int), (i : Int)⟩ := by
        rw [rd_T48_at _ _ hxl]
        subst hxs
        simp
      simp only [boustrophedonlaw32_WordsSpans.l0]
      rw [if_pos (by omega), if_pos (by omega), if_pos (by omega), hrd]
      simp only [if_true]
      rw [if_neg (by omega), if_neg (by omega), if_pos (by rw [brks_length, wrap64_i (by omega) (by omega)]; omega), if_pos (by omega), if_pos (by rw [brks_length]; omega), if_pos hab, if_pos (by omega), if_pos (by rw [brks_length]; omega), if_pos hib, wrap64_i (by omega) (by omega)]
      simpa using hR
    · rw [if_neg g1]
      refine ih a pre (by omega) (by omega) (by omega) hab (fun m h1 h2 => ?_) k (by omega)
      by_cases g : m < i
      · exact hn m h1 g
      · obtain rfl : m = i := by omega
        simpa using g1
theorem ws_first (bs : List Bool) (n : Nat) (hb : bs.length = n + 1) : wsF bs 0 (n + 1) = wsF bs 0 n := by
  rw [wsF]
  rw [if_neg (by omega : ¬ 0 < bs.length - (n + 1))]
  split <;> rfl
theorem WordsSpans (l : List Int) (hl : l.length ≤ 1048576) : ∃ k, boustrophedonlaw32_WordsSpans.f k l = some true := by
  refine ⟨l.length + 20, ?_⟩
  unfold boustrophedonlaw32_WordsSpans.f
  refine (bind_of (show boustrophedonlaw32_awake.f = some true from rfl) _).trans ?_
  rw [if_pos rfl]
  refine (bind_of (breaks_eq l (by omega)) _).trans ?_
  refine (bind_of (wof_eq l (by omega) _ (by omega)) _).trans ?_
  rw [ws_first _ _ (wB_length l)]
  exact wspans_loop l hl l.length 0 [] (Nat.le_refl _) (by simp) (by omega) (brks_zero l) (fun m h1 h2 => by omega) _ (by omega)
end Go.Proofs.Ytphhgmhgkendaaa.Pure
