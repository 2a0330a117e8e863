/-
  Clusters in plain lists: what cluster.Of tells of a text's breaks.
-/
import Derived.Test.YtphhgmhgkendaaaDx2
import Derived.Test.YtphhgmhgkendaaaPureClusterMoves
namespace Go.Proofs.Ytphhgmhgkendaaa.Pure
open Go.RowKit Go.Proofs.Ytphhgmhgkendaaa.D Go.Proofs.YtphhgmhgkendaaaW.PrintWords Go.Proofs.YtphhgmhgkendaaaW.PrintLast

/-- The spans that the last d boundaries end, where a cluster goes on from a place. -/
def spF (bs : List Bool) (a : Nat) : Nat → List S48
  | 0 => []
  | d + 1 => if rdOf false bs ((bs.length - (d + 1) : Nat) : Int) = true then (if 0 < bs.length - (d + 1) then (if a < bs.length - (d + 1) then ⟨(a : Int), ((bs.length - (d + 1) : Nat) : Int)⟩ :: spF bs (bs.length - (d + 1)) d else spF bs a d) else spF bs a d) else spF bs a d
theorem of_loop (bs : List Bool) (hl : bs.length ≤ 8796093022208) (d : Nat) : ∀ (k a : Nat) (acc : List S48), d ≤ bs.length → acc.length + d ≤ 8796093022208 →
    cluster_Of.l0 (k + d + 1) acc (a : Int) bs (bs.length : Int) ((bs.length - d : Nat) : Int) = some (acc ++ spF bs a d) := by
  induction d with
  | zero =>
    intro k a acc _ _
    simp only [cluster_Of.l0]
    rw [if_neg (by omega), spF, List.append_nil]
  | succ d ih =>
    intro k a acc hd ha
    rw [show k + (d + 1) + 1 = (k + d + 1) + 1 by omega]
    have ih1 := ih k a acc (by omega) (by omega)
    have ih2 := ih k (bs.length - (d + 1)) (acc ++ [⟨(a : Int), ((bs.length - (d + 1) : Nat) : Int)⟩]) (by omega) (by simp; omega)
    generalize k + d + 1 = K at ih1 ih2 ⊢
    simp only [cluster_Of.l0, spF]
    rw [if_pos (by omega), if_pos (by omega), if_pos (by omega), wrap64_i (by omega) (by omega), show (((bs.length - (d + 1) : Nat) : Int) + 1) = ((bs.length - d : Nat) : Int) by omega]
    by_cases g1 : rdOf false bs ((bs.length - (d + 1) : Nat) : Int) = true
    · rw [if_pos g1, if_pos g1]
      by_cases g2 : 0 < bs.length - (d + 1)
      · rw [if_pos (by omega), if_pos g2]
        by_cases g3 : a < bs.length - (d + 1)
        · rw [if_pos (by omega), if_pos g3, if_pos (by omega), ih2]
          simp
        · rw [if_neg (by omega), if_neg g3, ih1]
      · rw [if_neg (by omega), if_neg g2, ih1]
    · rw [if_neg g1, if_neg g1, ih1]
theorem brks_length (l : List Int) : (brksF l).length = l.length + 1 := by simp [brksF]
theorem breaks_eq (l : List Int) (hl : l.length ≤ 1048576) : cluster_Breaks.f l = some (brksF l) := by
  unfold cluster_Breaks.f
  rw [if_pos (by omega)]
theorem of_eq (l : List Int) (hl : l.length ≤ 8796093022206) (k : Nat) : cluster_Of.f (k + (l.length + 1) + 1) l = some (spF (brksF l) 0 (l.length + 1)) := by
  unfold cluster_Of.f cluster_Breaks.f
  rw [if_pos (by omega)]
  have := of_loop (brksF l) (by rw [brks_length]; omega) (l.length + 1) k 0 [] (by rw [brks_length]; exact Nat.le_refl _) (by simp; omega)
  rw [brks_length] at this
  rw [Nat.sub_self] at this
  simp only [Option.bind_some, brks_length]
  exact this
theorem brks_last (l : List Int) : rdOf false (brksF l) (l.length : Int) = true := by
  simp [rdOf, brksF, List.getD_eq_getElem?_getD]
theorem rd_spans (pre : List S48) (x : S48) (post : List S48) : rd_T48 (pre ++ x :: post) (pre.length : Int) = x := by
  simp [rd_T48, List.getD_eq_getElem?_getD]
/-- The round over a cluster's inside. -/
theorem inner_loop (l : List Int) (bs : List Bool) (xs : List S48) (hb : bs.length = l.length + 1) (hl : l.length ≤ 1048576) (a t : Nat) (j : Nat) (hj : j ≤ 1048577) (ht : t ≤ l.length) (R : Nat)
    (hR : ∀ k, R ≤ k → boustrophedonlaw31_ClusterSpans.l0 k l bs (t : Int) xs (xs.length : Int) ((j : Int) + 1) = some true) (e : Nat) :
    ∀ (i : Nat), i + e = t → (∀ m, i ≤ m → m < t → rdOf false bs (m : Int) = false) → ∀ k, R + e + 1 ≤ k → boustrophedonlaw31_ClusterSpans.l1 k l bs (i : Int) xs (xs.length : Int) (j : Int) (a : Int) (t : Int) = some true := by
  induction e with
  | zero =>
    intro i hi hn k hk
    obtain ⟨k, rfl⟩ : ∃ m, k = m + 1 := ⟨k - 1, by omega⟩
    simp only [boustrophedonlaw31_ClusterSpans.l1]
    rw [if_neg (by omega), wrap64_i (by omega) (by omega)]
    exact hR k (by omega)
  | succ e ih =>
    intro i hi hn k hk
    obtain ⟨k, rfl⟩ : ∃ m, k = m + 1 := ⟨k - 1, by omega⟩
    simp only [boustrophedonlaw31_ClusterSpans.l1]
    rw [if_pos (by omega), if_pos (by omega), if_pos (by omega), if_neg (by rw [hn i (Nat.le_refl _) (by omega)]; simp), wrap64_i (by omega) (by omega)]
    exact ih (i + 1) (by omega) (fun m h1 h2 => hn m (by omega) h2) k (by omega)
theorem spans_loop (l : List Int) (bs : List Bool) (hb : bs.length = l.length + 1) (hl : l.length ≤ 1048576) (hlast : rdOf false bs (l.length : Int) = true) (d : Nat) :
    ∀ (a : Nat) (pre : List S48), d ≤ l.length → pre.length + d ≤ l.length → a < bs.length - d → (∀ m, a < m → m < bs.length - d → rdOf false bs (m : Int) = false) →
    ∃ R, ∀ k, R ≤ k → boustrophedonlaw31_ClusterSpans.l0 k l bs (a : Int) (pre ++ spF bs a d) ((pre ++ spF bs a d).length : Int) (pre.length : Int) = some true := by
  induction d with
  | zero =>
    intro a pre _ _ ha hn
    refine ⟨1, fun k hk => ?_⟩
    obtain ⟨k, rfl⟩ : ∃ m, k = m + 1 := ⟨k - 1, by omega⟩
    have hal : a = l.length := by
      by_cases g : a < l.length
      · have := hn l.length g (by omega)
        rw [hlast] at this
        cases this
      · omega
    simp only [boustrophedonlaw31_ClusterSpans.l0, spF, List.append_nil]
    rw [if_neg (by omega), hal]
    simp
  | succ d ih =>
    intro a pre hd hp ha hn
    simp only [spF]
    obtain ⟨i, hi⟩ : ∃ i, bs.length - (d + 1) = i := ⟨_, rfl⟩
    rw [hi] at ha hn ⊢
    by_cases g1 : rdOf false bs (i : Int) = true
    · rw [if_pos g1, if_pos (by omega), if_pos ha]
      obtain ⟨R, hR⟩ := ih i (pre ++ [⟨(a : Int), (i : Int)⟩]) (by omega) (by simp; omega) (by omega) (fun m h1 h2 => by omega)
      have e : pre ++ [(⟨(a : Int), (i : Int)⟩ : S48)] ++ spF bs i d = pre ++ ⟨(a : Int), (i : Int)⟩ :: spF bs i d := by simp
      rw [e] at hR
      generalize hxs : pre ++ (⟨(a : Int), (i : Int)⟩ : S48) :: spF bs i d = xs at hR
      have hrd : rd_T48 xs (pre.length : Int) = ⟨(a : Int), (i : Int)⟩ := by rw [← hxs]; exact rd_spans _ _ _
      have hxl : pre.length < xs.length := by rw [← hxs]; simp
      refine ⟨R + (i - (a + 1)) + 1 + 1 + 1, fun k hk => ?_⟩
      obtain ⟨k, rfl⟩ : ∃ m, k = m + 1 + 1 := ⟨k - 2, by omega⟩
      simp only [boustrophedonlaw31_ClusterSpans.l0]
      rw [if_pos (by omega), if_pos (by omega), if_pos (by omega), hrd]
      simp only [if_true]
      rw [if_neg (by omega), if_neg (by omega), if_pos (by omega), if_pos (by omega), g1]
      simp only [boustrophedonlaw31_ClusterSpans.j1, Bool.not_true, Bool.false_eq_true, if_false]
      rw [wrap64_i (by omega) (by omega)]
      refine inner_loop l bs xs hb hl a i pre.length (by omega) (by omega) R (fun k hk => ?_) (i - (a + 1)) (a + 1) (by omega) (fun m h1 h2 => hn m (by omega) h2) k (by omega)
      have := hR k hk
      simpa using this
    · rw [if_neg g1]
      refine ih a pre (by omega) (by omega) (by omega) (fun m h1 h2 => ?_)
      by_cases g : m < i
      · exact hn m h1 g
      · obtain rfl : m = i := by omega
        simpa using g1
theorem sp_first (bs : List Bool) (n : Nat) (hb : bs.length = n + 1) : spF bs 0 (n + 1) = spF bs 0 n := by
  rw [spF]
  rw [if_neg (by omega : ¬ 0 < bs.length - (n + 1))]
  split <;> rfl
theorem bind_of {α β : Type} {x : Option α} {a : α} (h : x = some a) (f : α → Option β) : x.bind f = f a := by
  subst h
  rfl
theorem ClusterSpans (l : List Int) (hl : l.length ≤ 1048576) : ∃ k, boustrophedonlaw31_ClusterSpans.f k l = some true := by
  obtain ⟨R, hR⟩ := spans_loop l (brksF l) (brks_length l) hl (brks_last l) l.length 0 [] (Nat.le_refl _) (by simp) (by rw [brks_length]; omega) (fun m h1 h2 => by rw [brks_length] at h2; omega)
  obtain ⟨K, hK⟩ : ∃ K, K = 6 + R + (l.length + 1) + 1 := ⟨_, rfl⟩
  have ha : boustrophedonlaw31_awake.f K = some true := by
    have := awake31_more (R + (l.length + 1) + 1)
    rwa [show 6 + (R + (l.length + 1) + 1) = K by omega] at this
  have ho : cluster_Of.f K l = some (spF (brksF l) 0 l.length) := by
    have := of_eq l (by omega) (6 + R)
    rwa [sp_first _ _ (brks_length l), ← hK] at this
  have h := hR K (by omega)
  rw [List.nil_append] at h
  refine ⟨K, ?_⟩
  unfold boustrophedonlaw31_ClusterSpans.f
  refine (bind_of ha _).trans ?_
  rw [if_pos rfl]
  refine (bind_of (breaks_eq l hl) _).trans ?_
  rw [brks_length, wrap64_i (by omega) (by omega), if_pos (by omega)]
  refine (bind_of ho _).trans ?_
  exact h
end Go.Proofs.Ytphhgmhgkendaaa.Pure
