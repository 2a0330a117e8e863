/-
  law32.joined and its closure: does a word go on over a boundary between two clusters? Their conditions: the boundary lies within the kinds.
-/
import Derived.Test.YtphhgmhgkendaaaOf
import Derived.Deep.QuietTactic
import Derived.BigQuiet
namespace Go.Proofs.Ytphhgmhgkendaaa
open Go.RowKit Go.Proofs.YtphhgmhgkendaaaW.PrintWords

/-- Does a word go on over what stands in the middle? -/
def betB (ks : List Int) (i : Nat) : Bool := decide (0 < i) && decide (i + 1 < ks.length) && (ks.getD i 0 == 3) && (ks.getD (i - 1) 0 == 1) && (ks.getD (i + 1) 0 == 1)

set_option maxRecDepth 100000 in
set_option maxHeartbeats 1600000 in
theorem between_calls (ks : List Int) (i : Nat) (A : Option Addr) (c g : Nat) (w : World) (hi : i < ks.length) (hl : ks.length ≤ 17592186044416) (hr : Kd.C (Kd.int .i64) w A ks.length ks) (hg : w.cell? ⟨g, 0, none⟩ = some (.slice A ks.length c)) :
    Calls Try.prog 44 #[.int .i64 i, .pointer (some ⟨g, 0, none⟩)] w fun e w' => e = .returned (.bool (betB ks i)) ∧ w' = w := by
  have HR := Lib.hid hr
  clear hr
  obtain ⟨r, hrr⟩ : ∃ r, betB ks i = r := ⟨_, rfl⟩
  rw [hrr]
  have HRR := Lib.hid hrr
  clear hrr
  match i, hi, HRR with
  | 0, hi, HRR =>
    obtain rfl : false = r := by have := HRR.out; simpa [betB] using this
    clear HRR
    go_enter Try.func44, Try.ntmps44
    go_wp2
    go_ret
    exact ⟨rfl, rfl⟩
  | j + 1, hi, HRR =>
    by_cases h1 : j + 2 < ks.length
    · obtain ⟨x, hx⟩ : ∃ x, ks[j + 1]? = some x := ⟨_, List.getElem?_eq_getElem hi⟩
      obtain ⟨y, hy⟩ : ∃ x, ks[j]? = some x := ⟨_, List.getElem?_eq_getElem (by omega)⟩
      obtain ⟨z, hz⟩ : ∃ x, ks[j + 2]? = some x := ⟨_, List.getElem?_eq_getElem h1⟩
      obtain ⟨ad, rfl, cx⟩ := c_at HR.out hx
      obtain ⟨ad', e, cy⟩ := c_at HR.out hy
      injection e with e
      subst e
      obtain ⟨ad', e, cz⟩ := c_at HR.out hz
      injection e with e
      subst e
      have dx : w.cell? ⟨ad.block, ad.off + (j + 1), none⟩ = some (.int .i64 x) := cx
      have dy : w.cell? (ad.add j) = some (.int .i64 y) := cy
      have dz : w.cell? ⟨ad.block, ad.off + (j + 2), none⟩ = some (.int .i64 z) := cz
      have HV : Hid ((x == 3 && y == 1 && z == 1) = r) := Lib.hid (by
        rw [← HRR.out]
        have hz' : ks[j + 1 + 1]? = some z := hz
        have h1' : decide (j + 1 + 1 < ks.length) = true := decide_eq_true h1
        simp only [betB, List.getD_eq_getElem?_getD, hx, Nat.add_sub_cancel, hy, hz', h1', Option.getD_some, Nat.succ_pos, decide_true, Bool.true_and])
      clear HRR hx hy hz cx cy cz
      by_cases e1 : x = 3
      · have b1 : (x == 3) = true := by simpa using e1
        by_cases e2 : y = 1
        · have b2 : (y == 1) = true := by simpa using e2
          obtain ⟨b, b3⟩ : ∃ b, (z == 1) = b := ⟨_, rfl⟩
          obtain rfl : b = r := by rw [← HV.out, b1, b2, b3]; rfl
          clear HV e1 e2
          cases b
          · go_enter Try.func44, Try.ntmps44
            go_wp2
            go_ret
            exact ⟨rfl, rfl⟩
          · go_enter Try.func44, Try.ntmps44
            go_wp2
            go_ret
            exact ⟨rfl, rfl⟩
        · have b2 : (y == 1) = false := by simpa using e2
          obtain rfl : false = r := by rw [← HV.out, b1, b2]; rfl
          clear HV e1 e2
          go_enter Try.func44, Try.ntmps44
          go_wp2
          go_ret
          exact ⟨rfl, rfl⟩
      · have b1 : (x == 3) = false := by simpa using e1
        obtain rfl : false = r := by rw [← HV.out, b1]; rfl
        clear HV e1
        go_enter Try.func44, Try.ntmps44
        go_wp2
        go_ret
        exact ⟨rfl, rfl⟩
    · obtain rfl : false = r := by
        have h1' : decide (j + 1 + 1 < ks.length) = false := decide_eq_false h1
        rw [← HRR.out]
        simp only [betB, h1', Bool.and_false, Bool.false_and]
      clear HRR
      go_enter Try.func44, Try.ntmps44
      go_wp2
      go_ret
      exact ⟨rfl, rfl⟩
theorem between_at (ks : List Int) (a : Int) (i : Nat) (b : Bool) (A : Option Addr) (c g : Nat) (w : World) (ha : a = (i : Int)) (hb : betB ks i = b) (hi : i < ks.length) (hl : ks.length ≤ 17592186044416) (hr : Kd.C (Kd.int .i64) w A ks.length ks) (hg : w.cell? ⟨g, 0, none⟩ = some (.slice A ks.length c)) :
    Calls Try.prog 44 #[.int .i64 a, .pointer (some ⟨g, 0, none⟩)] w fun e w' => e = .returned (.bool b) ∧ w' = w := by
  subst ha hb
  exact between_calls ks i A c g w hi hl hr hg

/-- Does a word go on over the boundary ahead of cluster k? -/
def jnB (ks : List Int) (k : Nat) : Bool := (ks.getD (k - 1) 0 == 1 && ks.getD k 0 == 1) || (ks.getD (k - 1) 0 == 2 && ks.getD k 0 == 2) || (betB ks k || betB ks (k - 1))
def boustrophedonlaw32_joined.f (l : List Int) (k : Int) : Option Bool := if 1 ≤ k ∧ k < l.length ∧ l.length ≤ 17592186044416 then some (jnB l k.toNat) else none
theorem wrap_nat (j : Nat) (h : j ≤ 17592186044416) : IntKind.i64.wrap (j : Int) = (j : Int) := by
  rw [IntKind.wrap_i64]
  omega
/-- The two tests of the first line, whatever they say. -/
theorem jn_split (x y : Int) : ((x == 1) = true ∧ (y == 1) = true) ∨ ((x == 1) = false ∧ (x == 2) = true ∧ (y == 2) = true) ∨ ((x == 1 && y == 1 || x == 2 && y == 2) = false ∧ (((x == 1) = true ∧ (y == 1) = false ∧ (x == 2) = false) ∨ ((x == 1) = false ∧ (x == 2) = true ∧ (y == 2) = false) ∨ ((x == 1) = false ∧ (x == 2) = false))) := by
  by_cases h1 : x = 1
  · by_cases h2 : y = 1
    · simp [h1, h2]
    · simp [h1, h2]
  · by_cases h2 : x = 2
    · by_cases h3 : y = 2
      · simp [h2, h3]
      · simp [h2, h3]
    · simp [h1, h2]

set_option maxRecDepth 100000 in
set_option maxHeartbeats 3200000 in
theorem joined_calls (A0 : Option Addr) (c0 : Nat) (ks : List Int) (j : Nat) (w : World) (hr : Kd.C (Kd.int .i64) w A0 ks.length ks) (hi : j + 1 < ks.length) (hl : ks.length ≤ 17592186044416) :
    Calls Try.prog 30 #[.slice A0 ks.length c0, .int .i64 ((j : Int) + 1)] w fun e w' => e = .returned (.bool (jnB ks (j + 1))) ∧ Below w.heap.size w w' := by
  have HR := Lib.hid hr
  clear hr
  obtain ⟨x, hx⟩ : ∃ x, ks[j]? = some x := ⟨_, List.getElem?_eq_getElem (by omega)⟩
  obtain ⟨y, hy⟩ : ∃ x, ks[j + 1]? = some x := ⟨_, List.getElem?_eq_getElem hi⟩
  obtain ⟨ad, rfl, cx⟩ := c_at HR.out hx
  obtain ⟨ad', e, cy⟩ := c_at HR.out hy
  injection e with e
  subst e
  obtain ⟨b1, hb1⟩ : ∃ b, betB ks (j + 1) = b := ⟨_, rfl⟩
  obtain ⟨b0, hb0⟩ : ∃ b, betB ks j = b := ⟨_, rfl⟩
  have hv : jnB ks (j + 1) = ((x == 1 && y == 1 || x == 2 && y == 2) || (b1 || b0)) := by
    simp only [jnB, Nat.add_sub_cancel, List.getD_eq_getElem?_getD, hx, hy, Option.getD_some, hb1, hb0]
  obtain ⟨r, hr0⟩ : ∃ r, ((x == 1 && y == 1 || x == 2 && y == 2) || (b1 || b0)) = r := ⟨_, rfl⟩
  rw [hv, hr0]
  have HV := Lib.hid hr0
  clear hr0
  have HB1 := Lib.hid hb1
  have HB0 := Lib.hid hb0
  clear hx hy hv hb1 hb0
  have hB : Below w.heap.size w (w.alloc (.cells #[.slice (some ad) ks.length c0] 53)) := below_alloc (Below.refl _ _) _
  have HR1 := Lib.hid (Kd.C_below HR.out hB)
  have bx := pw_cell_below hB cx
  have by_ := pw_cell_below hB cy
  have bg : (w.alloc (.cells #[.slice (some ad) ks.length c0] 53)).cell? ⟨w.heap.size, 0, none⟩ = some (.slice (some ad) ks.length c0) := by simp [World.cell?_alloc_at]
  have HB := Lib.hid hB
  clear hB cx cy
  go_enter Try.func30, Try.ntmps30
  go_wp2
  obtain ⟨W1, hW1⟩ : ∃ W1, w.alloc (.cells #[.slice (some ad) ks.length c0] 53) = W1 := ⟨_, rfl⟩
  rw [hW1] at HR1 bx by_ bg HB
  rw [hW1]
  clear hW1
  have h00 : (0 : Int) ≤ (j : Int) := by omega
  have h01 : (j : Int) < (ks.length : Int) := by omega
  have h02 : (0 : Int) ≤ (j : Int) + 1 := by omega
  have h03 : (j : Int) + 1 < (ks.length : Int) := by omega
  have hwj : IntKind.i64.wrap (j : Int) = (j : Int) := wrap_nat j (by omega)
  have dy : W1.cell? ⟨ad.block, ad.off + (j + 1), none⟩ = some (.int .i64 y) := by_
  go_quiet (fail)
  have HBq := Lib.hid (pw_below_drewN HB.out nq)
  have HR2 := Lib.hid (Kd.C_drewN HR1.out nq)
  have bg2 : (W1.drewN nq).cell? ⟨w.heap.size, 0, none⟩ = some (.slice (some ad) ks.length c0) := bg
  obtain ⟨W2, hW2⟩ : ∃ W2, W1.drewN nq = W2 := ⟨_, rfl⟩
  rw [hW2] at HBq HR2 bg2
  rw [hW2]
  clear hW2 bg dy hwj bx by_ HB HR1
  rcases jn_split x y with ⟨q1, q2⟩ | ⟨q1, q2, q3⟩ | ⟨hq, hh⟩
  · obtain rfl : true = r := by rw [← HV.out, q1, q2]; rfl
    clear HV
    go_wp2_with fail
    go_ret
    exact ⟨rfl, HBq.out⟩
  · obtain rfl : true = r := by rw [← HV.out, q1, q2, q3]; rfl
    clear HV
    go_wp2_with fail
    go_ret
    exact ⟨rfl, HBq.out⟩
  · have HV2 : Hid ((b1 || b0) = r) := Lib.hid (by rw [← HV.out, hq]; rfl)
    clear HV hq
    have HJ1 : Hid ((j : Int) + 1 = ((j + 1 : Nat) : Int)) := Lib.hid (by omega)
    rcases hh with ⟨q1, q2, q3⟩ | ⟨q1, q2, q3⟩ | ⟨q1, q2⟩
    all_goals
      cases b1
      · obtain rfl : b0 = r := by rw [← HV2.out]; rfl
        clear HV2
        go_wp2_with (first
          | ((with_reducible refine (between_at ks ((j : Int) + 1) (j + 1) false (some ad) c0 _ _ HJ1.out HB1.out hi hl HR2.out bg2).mono ?_); rintro e w' ⟨rfl, rfl⟩)
          | ((with_reducible refine (between_at ks (j : Int) j b0 (some ad) c0 _ _ rfl HB0.out (by omega) hl HR2.out bg2).mono ?_); rintro e w' ⟨rfl, rfl⟩))
        go_ret
        exact ⟨rfl, HBq.out⟩
      · obtain rfl : true = r := by rw [← HV2.out]; rfl
        clear HV2
        go_wp2_with ((with_reducible refine (between_at ks ((j : Int) + 1) (j + 1) true (some ad) c0 _ _ HJ1.out HB1.out hi hl HR2.out bg2).mono ?_); rintro e w' ⟨rfl, rfl⟩)
        go_ret
        exact ⟨rfl, HBq.out⟩
theorem boustrophedonlaw32_joined.calls (A0 : Option Addr) (c0 : Nat) (l0 : List Int) (a1 : Int) (r : Bool) (w : World) (hr0 : Kd.C (Kd.int .i64) w A0 l0.length l0) (_hc0 : l0.length ≤ c0) (h : boustrophedonlaw32_joined.f l0 a1 = some r) :
    Calls Try.prog 30 #[.slice A0 l0.length c0, .int .i64 a1] w fun e w' => e = .returned (.bool r) ∧ Below w.heap.size w w' := by
  unfold boustrophedonlaw32_joined.f at h
  split at h
  · rename_i hg
    obtain rfl := Option.some.inj h
    obtain ⟨j, rfl⟩ : ∃ j : Nat, a1 = (j : Int) + 1 := ⟨(a1 - 1).toNat, by omega⟩
    rw [show ((j : Int) + 1).toNat = j + 1 by omega]
    exact joined_calls A0 c0 l0 j w hr0 (by omega) hg.2.2
  · cases h
end Go.Proofs.Ytphhgmhgkendaaa
