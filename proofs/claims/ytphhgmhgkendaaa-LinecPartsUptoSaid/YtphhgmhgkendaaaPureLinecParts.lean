/-
  The statement LinecParts in plain lists: the classes of two texts one behind the other are those of one and those of the other; none is beyond the list. Its condition: each text has at most 1048576 runes.
-/
import Derived.Test.YtphhgmhgkendaaaGx1
namespace Go.Proofs.Ytphhgmhgkendaaa.Pure
open Go.RowKit Go.Proofs.Ytphhgmhgkendaaa.G Go.Proofs.YtphhgmhgkendaaaW.PrintWords Go.Proofs.YtphhgmhgkendaaaW.PrintLast

theorem wrap64_i {x : Int} (h0 : -9223372036854775808 ≤ x) (h1 : x ≤ 9223372036854775807) : wrap64 x = x := IntWalk.wrap64_in _ ⟨h0, h1⟩
theorem bind_of {α β : Type} {x : Option α} {a : α} (h : x = some a) (f : α → Option β) : x.bind f = f a := by
  subst h
  rfl
theorem awake06g : boustrophedonlaw06_awake.f = some true := by decide +kernel
theorem tab42 : ∀ x ∈ linecTab, x.2.2 ≤ 42 := by decide +kernel
theorem look42 (r : Int) : ∀ t : List (Int × Int × Int), (∀ x ∈ t, x.2.2 ≤ 42) → look t 0 r ≤ 42
  | [], _ => by simp [look]
  | x :: t, h => by
    unfold look
    split
    · exact look42 r t (fun y hy => h y (by simp [hy]))
    · split
      · exact h x (by simp)
      · omega
theorem class42 (r : Int) : classF r ≤ 42 := by
  unfold classF
  split
  · split <;> omega
  · unfold getF
    split
    · omega
    · exact look42 r linecTab tab42
theorem linec_eq (l : List Int) (hl : l.length ≤ 2097152) : linec_Of.f l = some (l.map classF) := by
  unfold linec_Of.f
  rw [if_pos (by omega)]
theorem rd_at (l : List Int) (i : Nat) (h : i < l.length) : rd l (i : Int) = l[i] := by
  simp [rd, List.getD_eq_getElem?_getD, h]
theorem parts_loop (a b : List Int) (ha : a.length ≤ 1048576) (hb : b.length ≤ 1048576) (z : List Int) (hz : z = (a ++ b).map classF) (d : Nat) : ∀ (i : Nat), i + d = z.length → ∀ k, d + 1 ≤ k →
    boustrophedonlaw06_LinecParts.l0 k (a.map classF) (b.map classF) z (z.length : Int) (i : Int) = some true := by
  have hlen : z.length = a.length + b.length := by simp [hz]
  induction d with
  | zero =>
    intro i hi k hk
    obtain ⟨k, rfl⟩ : ∃ m, k = m + 1 := ⟨k - 1, by omega⟩
    simp only [boustrophedonlaw06_LinecParts.l0]
    rw [if_neg (by omega)]
  | succ d ih =>
    intro i hi k hk
    obtain ⟨k, rfl⟩ : ∃ m, k = m + 1 := ⟨k - 1, by omega⟩
    have ihk := ih (i + 1) (by omega) k (by omega)
    rw [show ((i + 1 : Nat) : Int) = (i : Int) + 1 by omega] at ihk
    have hi2 : i < z.length := by omega
    have hzi : rd z (i : Int) ≤ 42 := by
      rw [rd_at z i hi2]
      subst hz
      rw [List.getElem_map]
      exact class42 _
    simp only [boustrophedonlaw06_LinecParts.l0]
    rw [if_pos (by omega), if_pos (by omega), if_pos (by omega), if_neg (by omega), wrap64_i (x := (i : Int) + 1) (by omega) (by omega), List.length_map, List.length_map]
    by_cases g : i < a.length
    · have e : rd z (i : Int) = rd (a.map classF) (i : Int) := by
        rw [rd_at z i hi2, rd_at _ i (by simpa using g)]
        subst hz
        rw [List.getElem_map, List.getElem_map, List.getElem_append_left g]
      rw [if_pos (by omega), if_pos e, if_neg (by omega)]
      exact ihk
    · have hj : wrap64 ((i : Int) - (a.length : Int)) = ((i - a.length : Nat) : Int) := by rw [wrap64_i (by omega) (by omega)]; omega
      have e : rd z (i : Int) = rd (b.map classF) ((i - a.length : Nat) : Int) := by
        rw [rd_at z i hi2, rd_at _ _ (by simp; omega)]
        subst hz
        rw [List.getElem_map, List.getElem_map, List.getElem_append_right (by omega : a.length ≤ i)]
      rw [if_neg (by omega), if_pos (by omega), hj, if_pos (by omega), if_pos (by omega), if_pos e]
      exact ihk
theorem LinecParts (a b : List Int) (ha : a.length ≤ 1048576) (hb : b.length ≤ 1048576) : ∃ k, boustrophedonlaw06_LinecParts.f k a b = some true := by
  refine ⟨a.length + b.length + 3, ?_⟩
  unfold boustrophedonlaw06_LinecParts.f
  refine (bind_of awake06g _).trans ?_
  rw [if_pos rfl, if_pos (by simp only [List.length_nil]; omega), Option.bind_some, List.nil_append, if_pos (by omega), Option.bind_some]
  refine (bind_of (linec_eq a (by omega)) _).trans ?_
  refine (bind_of (linec_eq b (by omega)) _).trans ?_
  refine (bind_of (linec_eq (a ++ b) (by simp; omega)) _).trans ?_
  rw [if_pos (by simp), if_pos (by simp)]
  have e : (((List.map classF (a ++ b)).length : Int) != ((a ++ b).length : Int)) = false := by simp
  rw [e]
  obtain ⟨z, hz⟩ : ∃ z, z = (a ++ b).map classF := ⟨_, rfl⟩
  rw [← hz]
  have h := parts_loop a b ha hb z hz z.length 0 (by omega) (a.length + b.length + 2) (by simp [hz])
  simp only [boustrophedonlaw06_LinecParts.j0]
  exact h
end Go.Proofs.Ytphhgmhgkendaaa.Pure
