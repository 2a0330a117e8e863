/-
  The statement LinecEach in plain lists: a rune's class does not hang on what stands beside it; of 28 syllables of Hangul that follow one another one is of H2. No condition but the arguments' own bounds.
-/
import Derived.Test.YtphhgmhgkendaaaCx2
import Derived.Test.YtphhgmhgkendaaaPureLinecOf
namespace Go.Proofs.Ytphhgmhgkendaaa.Pure
open Go.RowKit Go.Proofs.Ytphhgmhgkendaaa.C Go.Proofs.YtphhgmhgkendaaaW.PrintWords Go.Proofs.YtphhgmhgkendaaaW.PrintLast

theorem wf_u16 {x : Int} (h : (Lit.int .u16 x).wf = true) : 0 ≤ x ∧ x ≤ 65535 := by
  simp [Lit.wf, IntKind.min, IntKind.max, IntKind.signed, IntKind.bits] at h
  omega
/-- The syllables of a row, from b on. -/
def sylRow (b : Int) (n : Nat) : List Int := (List.range n).map fun i : Nat => b + (i : Int)
theorem sylRow_succ (b : Int) (n : Nat) : sylRow b (n + 1) = sylRow b n ++ [b + n] := by simp [sylRow, List.range_succ]
theorem sylRow_length (b : Int) (n : Nat) : (sylRow b n).length = n := by simp [sylRow]

theorem each_fill (l : List Int) (a : Int) (h0 : 0 ≤ a) (h1 : a ≤ 65535) (d : Nat) : ∀ (k n : Nat), n + d = 28 → boustrophedonlaw06_LinecEach.l0 (k + d + 1) l a (sylRow (44032 + a % 11145) n) n = (linec_Of.f (sylRow (44032 + a % 11145) 28)).bind fun t => boustrophedonlaw06_LinecEach.l1 k l a 0 t (t.length : Int) 0 := by
  induction d with
  | zero =>
    intro k n hn
    obtain rfl : n = 28 := by omega
    simp only [boustrophedonlaw06_LinecEach.l0]
    rw [if_neg (by omega)]
  | succ d ih =>
    intro k n hn
    rw [show k + (d + 1) + 1 = (k + d + 1) + 1 by omega]
    simp only [boustrophedonlaw06_LinecEach.l0]
    have e : wrap32 (wrap64 ((wrap64 (44032 + (Int.tmod (wrap64 a) 11145))) + (n : Int))) = 44032 + a % 11145 + n := by
      rw [wrap64_i (x := a) (by omega) (by omega), Int.tmod_eq_emod_of_nonneg h0, wrap64_i (x := 44032 + a % 11145) (by omega) (by omega), wrap64_i (by omega) (by omega)]
      unfold wrap32
      omega
    rw [if_pos (by omega), if_pos (by rw [sylRow_length]; omega), e, ← sylRow_succ, wrap64_i (by omega) (by omega)]
    exact ih k (n + 1) (by omega)

theorem each_class (q i : Int) (h0 : 0 ≤ q) (h1 : q < 11145) (h2 : 0 ≤ i) (h3 : i < 28) : classF (44032 + q + i) = if (q + i) % 28 = 0 then 37 else 38 := by
  unfold classF
  rw [if_pos (by omega), show 44032 + q + i - 44032 = q + i by omega]

/-- What stands behind the loop over the row. -/
theorem each_end (l : List Int) (hl : l.length * 4 ≤ 140737488351232) (a : Int) (h0 : 0 ≤ a) (h1 : a ≤ 65535) (k : Nat) (t : List Int) (x : Int) (hx : ¬ x < (28 : Int)) :
    boustrophedonlaw06_LinecEach.l1 (k + 1) l a 1 t 28 x = some true := by
  simp only [boustrophedonlaw06_LinecEach.l1]
  rw [if_neg hx]
  by_cases hn : (l.length : Int) = 0
  · rw [if_pos hn]
    rfl
  · rw [if_neg hn]
    have e1 : Int.tmod (wrap64 a) (l.length : Int) = a % (l.length : Int) := by rw [wrap64_i (by omega) (by omega), Int.tmod_eq_emod_of_nonneg h0]
    have hm0 : 0 ≤ a % (l.length : Int) := Int.emod_nonneg _ (by omega)
    have hm1 : a % (l.length : Int) < l.length := Int.emod_lt_of_pos _ (by omega)
    obtain ⟨i, hi⟩ : ∃ i : Nat, a % (l.length : Int) = i := ⟨_, (Int.toNat_of_nonneg hm0).symm⟩
    rw [e1, hi]
    have hil : i < l.length := by omega
    have e2 : wrap64 ((i : Int) + 1) = (i : Int) + 1 := wrap64_i (by omega) (by omega)
    have e3 : ((l.take ((i : Int) + 1).toNat).drop ((i : Int)).toNat) = [l[i]] := by
      rw [show ((i : Int) + 1).toNat = i + 1 by omega, Int.toNat_natCast, List.drop_take, show i + 1 - i = 1 by omega, List.drop_eq_getElem_cons hil, List.take_succ_cons, List.take_zero]
    rw [e2, e3]
    unfold linec_Of.f
    rw [if_pos (by omega)]
    simp only [Option.bind_some, List.length_map, List.length_cons, List.length_nil]
    rw [if_pos (by omega), if_pos (by omega), if_pos (by omega), if_pos (by omega)]
    simp only [Option.bind_some, if_true, List.length_map, List.length_cons, List.length_nil]
    rw [if_pos (by omega), if_pos (by omega), if_pos (by omega)]
    rw [rd_map (x := l[i]) (by rw [Int.toNat_natCast]; exact List.getElem?_eq_getElem hil), rd_map (l := [l[i]]) (x := l[i]) (by simp)]
    simp

theorem each_loop (l : List Int) (hl : l.length * 4 ≤ 140737488351232) (a : Int) (h0 : 0 ≤ a) (h1 : a ≤ 65535) (q : Int) (q0 : 0 ≤ q) (q1 : q < 11145) (j0 : Int) (hj0 : 0 ≤ j0) (hj1 : j0 < 28) (hj : ∀ i : Int, 0 ≤ i → i < 28 → ((q + i) % 28 = 0 ↔ i = j0)) (d : Nat) :
    ∀ (k : Nat) (i : Int), 0 ≤ i → i + d = 28 → boustrophedonlaw06_LinecEach.l1 (k + d + 1) l a (if j0 < i then 1 else 0) ((sylRow (44032 + q) 28).map classF) 28 i = some true := by
  induction d with
  | zero =>
    intro k i hi hd
    rw [if_pos (by omega)]
    exact each_end l hl a h0 h1 k _ i (by omega)
  | succ d ih =>
    intro k i hi hd
    have ihk := ih k (i + 1) (by omega) (by omega)
    rw [show k + (d + 1) + 1 = (k + d + 1) + 1 by omega]
    generalize k + d + 1 = K at ihk ⊢
    have hr : rd ((sylRow (44032 + q) 28).map classF) i = if (q + i) % 28 = 0 then 37 else 38 := by
      rw [rd_map (x := 44032 + q + i) (by simp [sylRow, List.getElem?_range (show i.toNat < 28 by omega)]; omega), each_class q i q0 q1 hi (by omega)]
    by_cases g : (q + i) % 28 = 0
    · have hij := (hj i hi (by omega)).1 g
      rw [if_neg (by omega)]
      simp only [boustrophedonlaw06_LinecEach.l1]
      rw [if_pos (by omega), if_pos hi, if_pos (by simp [sylRow]; omega), hr, wrap64_i (x := i + 1) (by omega) (by omega), if_pos g, if_pos rfl, wrap64_i (x := 0 + 1) (by omega) (by omega)]
      rw [if_pos (by omega)] at ihk
      exact ihk
    · have hne : i ≠ j0 := fun e => g ((hj i hi (by omega)).2 e)
      by_cases g2 : j0 < i
      · rw [if_pos g2]
        simp only [boustrophedonlaw06_LinecEach.l1]
        rw [if_pos (by omega), if_pos hi, if_pos (by simp [sylRow]; omega), hr, wrap64_i (x := i + 1) (by omega) (by omega), if_neg g, if_neg (by omega), if_pos rfl]
        rw [if_pos (by omega)] at ihk
        exact ihk
      · rw [if_neg g2]
        simp only [boustrophedonlaw06_LinecEach.l1]
        rw [if_pos (by omega), if_pos hi, if_pos (by simp [sylRow]; omega), hr, wrap64_i (x := i + 1) (by omega) (by omega), if_neg g, if_neg (by omega), if_pos rfl]
        rw [if_neg (by omega)] at ihk
        exact ihk

theorem LinecEach : boustrophedonlaw06_LinecEach.Pure := by
  intro l a hm hl hw ha
  obtain ⟨h0, h1⟩ := wf_u16 ha
  refine ⟨29 + 28 + 1, ?_⟩
  unfold boustrophedonlaw06_LinecEach.f
  rw [awake06]
  simp only [Option.bind_some, if_true]
  have h := each_fill l a h0 h1 28 29 0 rfl
  rw [show sylRow (44032 + a % 11145) 0 = [] from rfl] at h
  refine h.trans ?_
  unfold linec_Of.f
  rw [if_pos (by rw [sylRow_length]; omega)]
  simp only [Option.bind_some, List.length_map, sylRow_length]
  have h2 := each_loop l hl a h0 h1 (a % 11145) (by omega) (by omega) ((28 - (a % 11145) % 28) % 28) (by omega) (by omega) (fun i hi hi2 => by omega) 28 0 0 (by omega) (by omega)
  rw [if_neg (by omega)] at h2
  exact h2
end Go.Proofs.Ytphhgmhgkendaaa.Pure
