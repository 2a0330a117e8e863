-- Written by a program of this session: a turned copy of the kit's printer, to which some functions are given as proved by hand. Not trusted: Lean checks it.
import Derived.Test.YtphhgmhgkendaaaFx0
namespace Go.Proofs.Ytphhgmhgkendaaa.F
open Go.RowKit Go.Proofs.YtphhgmhgkendaaaW.PrintWords Go.Proofs.YtphhgmhgkendaaaW.PrintLast Go.Proofs.YtphhgmhgkendaaaW.PrintMore
attribute [local go_sem] max2_int min2_int max_two min_two max_three min_three max_four min_four   -- for this text's walks alone
set_option linter.unusedVariables false
set_option linter.unusedSimpArgs false

-- given: function 22 (cluster_Breaks)

/-! ### cluster_Of: function 23 -/
def cluster_Of.l0 : Nat → List (S48) → Int → List Bool → Int → Int → Option ((List (S48)))
  | 0, _, _, _, _, _ => none
  | k + 1, x3, x4, x8, x9, x10 => if x10 < x9 then (if 0 ≤ x10 then (if x10 < (x8.length : Int) then (if rdOf false x8 x10 = true then (if x10 > 0 then (if x10 > x4 then (if x3.length < 8796093022208 then (cluster_Of.l0 k (x3 ++ [(⟨x4, x10⟩ : S48)]) x10 x8 x9 (wrap64 (x10 + 1))) else (none)) else (cluster_Of.l0 k x3 x4 x8 x9 (wrap64 (x10 + 1)))) else (cluster_Of.l0 k x3 x4 x8 x9 (wrap64 (x10 + 1)))) else (cluster_Of.l0 k x3 x4 x8 x9 (wrap64 (x10 + 1)))) else (none)) else (none)) else (some x3)
def cluster_Of.f (k : Nat) (l0 : List Int) : Option ((List (S48))) := (cluster_Breaks.f l0).bind fun t101 => (cluster_Of.l0 k ([] : List (S48)) 0 t101 (t101.length : Int) 0)
theorem cluster_Of.mono_l : ∀ k, (∀ y0 y1 y2 y3 y4, LeO (cluster_Of.l0 k y0 y1 y2 y3 y4) (cluster_Of.l0 (k + 1) y0 y1 y2 y3 y4))
  | 0 => fun _ _ _ _ _ r h => by simp [cluster_Of.l0] at h
  | k + 1 => by
    have ih0 := cluster_Of.mono_l k
    · intro y0 y1 y2 y3 y4
      unfold cluster_Of.l0
      repeat' first
      | (with_reducible exact ih0 _ _ _ _ _)
      | (with_reducible exact LeO.refl _)
      | (with_reducible exact LeO.none _)
      | (with_reducible refine LeO.ite ?_ ?_)
      | (with_reducible refine LeO.bind ?_ (fun _ => ?_))
      | exact ih0 _ _ _ _ _
      | exact LeO.none _
      | refine LeO.ite ?_ ?_
      | refine LeO.bind ?_ (fun _ => ?_)
theorem cluster_Of.mono : ∀ a0 k, LeO (cluster_Of.f k a0) (cluster_Of.f (k + 1) a0) := by
  intro a0 k
  have ih0 := cluster_Of.mono_l k
  unfold cluster_Of.f
  repeat' first
      | (with_reducible exact ih0 _ _ _ _ _)
      | (with_reducible exact LeO.refl _)
      | (with_reducible exact LeO.none _)
      | (with_reducible refine LeO.ite ?_ ?_)
      | (with_reducible refine LeO.bind ?_ (fun _ => ?_))
      | exact ih0 _ _ _ _ _
      | exact LeO.none _
      | refine LeO.ite ?_ ?_
      | refine LeO.bind ?_ (fun _ => ?_)
set_option maxHeartbeats 8000000 in
set_option maxRecDepth 100000 in
theorem cluster_Of.calls (k : Nat) (A0 : Option Addr) (c0 : Nat) (l0 : List Int) (r : List (S48)) (w : World) (hr0 : Kd.C (Kd.int .i32) w A0 l0.length l0) (hc0 : l0.length ≤ c0) (h : cluster_Of.f k l0 = some r) :
    Calls Try.prog 23 #[.slice A0 l0.length c0] w fun e w' => ∃ v0_ : Value, e = .returned (v0_) ∧ Kd.R k48 48 w' w.heap.size (fun _ => True) v0_ r ∧ Below w.heap.size w w' := by
  have hu48 := Try.underlying48
  have HR0 := Aside0.mk hr0
  have HC0 := Aside0.mk hc0
  clear hr0 hc0
  have HB := Aside0.mk (Below.refl w.heap.size w)
  have H : ((cluster_Breaks.f l0).bind fun t101 => (cluster_Of.l0 k ([] : List (S48)) 0 t101 (t101.length : Int) 0)) = some r := h
  clear h
  replace H := Option.bind_eq_some_iff.mp H
  obtain ⟨t101, A20, H⟩ := H
  replace H : (cluster_Of.l0 k ([] : List (S48)) 0 t101 (t101.length : Int) 0) = some r := H
  have A2 := Aside0.mk A20
  clear A20
  have H' := Aside0.mk H
  clear H
  go_enter Try.func23, Try.ntmps23
  go_wp2_with (first | ((with_reducible refine gate_callee (f := 22) rfl ?_); refine goesL_ (some 8) rfl rfl Try.func22 (by kernel_rfl) rfl #[.slice A0 l0.length c0] rfl (by (try simp only [List.map_toArray, List.map_cons, List.map_nil]); first | done | rfl | (simp only [List.length_drop, List.length_take]; rfl)) ?_; (with_reducible refine (cluster_Breaks.calls _ _ l0 t101 _ ?side1 ?side2 A2.out).mono ?_); (case side1 => repeat (first | exact HR0.out | (with_reducible refine Kd.C_alloc ?_ _) | (with_reducible refine Kd.C_drewN ?_ _) | (with_reducible refine Kd.C_drew ?_))); (case side2 => exact HC0.out); rintro e w3 ⟨v102, rfl, ho0, hb⟩; refine ⟨_, rfl, ?_⟩; have n0_ := Aside0.mk (Kd.R_lower ho0 (below_size (by repeat (first | (with_reducible first | exact HB.out | apply below_alloc | apply pw_below_drewN | apply below_drew1) | exact HB.out)))); have n1_ := Aside0.mk (below_step (by repeat (first | (with_reducible first | exact HB.out | apply below_alloc | apply pw_below_drewN | apply below_drew1) | exact HB.out)) hb); clear HB; have HO103 := n0_; have HB := n1_; clear n0_ n1_; (try clear hb); (try clear hb2); (try clear hk); (try clear hi); (try clear ho0); obtain ⟨Ao4, co4, eo4⟩ := Kd.R_slice HO103.out; subst eo4))
  go_loopg [3, 4, 10] k (fun kq v3 v4 v10 w' => ∃ (x3_1 : List (S48)) (x4_1 : Int) (x10_1 : Int), v4 = .int .i64 x4_1 ∧ v10 = .int .i64 x10_1 ∧ Aside0 (cluster_Of.l0 kq x3_1 x4_1 t101 (t101.length : Int) x10_1 = some r) ∧ Aside0 (kq ≤ k) ∧ Aside0 (Kd.R k48 48 w' w.heap.size (fun _ => True) v3 x3_1) ∧ Aside0 (Kd.R Kd.bool 4 w' w.heap.size (fun _ => True) (.slice Ao4 t101.length co4) t101) ∧ Aside0 (Below w.heap.size w w'))
  case atStart => exact ⟨(([] : List (S48))), (0), (0), (by first | rfl | (simp; done) | (simp [*]; done)), (by first | rfl | (simp; done) | (simp [*]; done)), H', ⟨Nat.le_refl _⟩, ⟨by first | exact Kd.R_nil _ _ _ _ _ | exact Kd.N_nil _ _ _ _ _ | exact Kd.V_nil _ _ _ _ _ | exact Kd.Q_nil _ _ _ _ _ | exact Kd.S_nil _ _ _ _ _⟩, ⟨by (with_reducible repeat (first | apply Kd.R_alloc | apply Kd.R_drewN | apply Kd.R_drew)); exact HO103.out⟩, ⟨by repeat (first | (with_reducible first | exact HB.out | apply below_alloc | apply pw_below_drewN | apply below_drew1) | exact HB.out)⟩⟩
  case round =>
    clear H'
    try clear c2
    try clear p2
    obtain ⟨x3_1, x4_1, x10_1, rfl, rfl, HA, HK1, HO_3, HO_8, HB⟩ := hrel
    cases gk with
    | zero => exact absurd HA.out (by simp [cluster_Of.l0])
    | succ k1 =>
      have H := HA.out
      clear HA
      simp only [cluster_Of.l0] at H
      by_cases c5 : x10_1 < (t101.length : Int)
      · rw [if_pos c5] at H
        have c5b0 : decide (x10_1 < (t101.length : Int)) = true := decide_eq_true c5
        clear c5
        by_cases c6 : 0 ≤ x10_1
        · rw [if_pos c6] at H
          have c6b0 : decide (0 ≤ x10_1) = true := decide_eq_true c6
          clear c6
          by_cases c7 : x10_1 < (t101.length : Int)
          · rw [if_pos c7] at H
            have c7b0 : decide (x10_1 < (t101.length : Int)) = true := decide_eq_true c7
            clear c7
            obtain ⟨bq8, hbq8⟩ : ∃ b_ : Bool, b_ = (rdOf false t101 x10_1) := ⟨_, rfl⟩
            replace H : (if bq8 = true then (if x10_1 > 0 then (if x10_1 > x4_1 then (if x3_1.length < 8796093022208 then (cluster_Of.l0 k1 (x3_1 ++ [(⟨x4_1, x10_1⟩ : S48)]) x10_1 t101 (t101.length : Int) (wrap64 (x10_1 + 1))) else (none)) else (cluster_Of.l0 k1 x3_1 x4_1 t101 (t101.length : Int) (wrap64 (x10_1 + 1)))) else (cluster_Of.l0 k1 x3_1 x4_1 t101 (t101.length : Int) (wrap64 (x10_1 + 1)))) else (cluster_Of.l0 k1 x3_1 x4_1 t101 (t101.length : Int) (wrap64 (x10_1 + 1)))) = some r := by rw [← hbq8] at H; exact H
            have Nbq8 := Aside0.mk hbq8
            clear hbq8
            by_cases c9 : bq8 = true
            · subst c9
              have H1 : (if x10_1 > 0 then (if x10_1 > x4_1 then (if x3_1.length < 8796093022208 then (cluster_Of.l0 k1 (x3_1 ++ [(⟨x4_1, x10_1⟩ : S48)]) x10_1 t101 (t101.length : Int) (wrap64 (x10_1 + 1))) else (none)) else (cluster_Of.l0 k1 x3_1 x4_1 t101 (t101.length : Int) (wrap64 (x10_1 + 1)))) else (cluster_Of.l0 k1 x3_1 x4_1 t101 (t101.length : Int) (wrap64 (x10_1 + 1)))) = some r := by rw [if_pos rfl] at H; exact H
              clear H
              have H := H1
              clear H1
              by_cases c10 : x10_1 > 0
              · rw [if_pos c10] at H
                have c10b0 : decide (0 < x10_1) = true := decide_eq_true c10
                clear c10
                by_cases c11 : x10_1 > x4_1
                · rw [if_pos c11] at H
                  have c11b0 : decide (x4_1 < x10_1) = true := decide_eq_true c11
                  clear c11
                  by_cases c12 : x3_1.length < 8796093022208
                  · rw [if_pos c12] at H
                    have LMc12 := Aside0.mk c12
                    clear c12
                    obtain ⟨y105, hy105⟩ : ∃ y_ : List (S48), y_ = (x3_1 ++ [(⟨x4_1, x10_1⟩ : S48)]) := ⟨_, rfl⟩
                    replace H : (cluster_Of.l0 k1 y105 x10_1 t101 (t101.length : Int) (wrap64 (x10_1 + 1))) = some r := by first | (rw [hy105]; with_reducible exact H) | (have H2_ := (Option.bind_some _ _).symm.trans H; rw [hy105]; with_reducible exact H2_) | (have H2_ := (Option.bind_some _ _).symm.trans H; with_reducible exact H2_) | with_reducible exact H | (rw [hy105]; exact H) | exact H
                    have Ny105 := Aside0.mk hy105
                    clear hy105
                    have H' := Aside0.mk H
                    clear H
                    have p104 : 0 ≤ (x10_1 : Int) := of_decide_eq_true (by first | (with_reducible assumption) | assumption)
                    have q104 : x10_1 < (t101.length : Int) := of_decide_eq_true (by first | (with_reducible assumption) | assumption)
                    obtain ⟨ad104, e104, hx104_0⟩ := Kd.at_bool (Kd.R_reads' HO_8.out).2.2 x10_1 p104 q104
                    (try rw [← Nbq8.out] at hx104_0)
                    cases e104
                    replace p104 := eq_true p104
                    replace q104 := eq_true q104
                    go_wp2_with (first | ((with_reducible refine gate_builtin (b := .append) (xs := #[.tmp 25, .tmp 29]) rfl ?_); at_builtin; refine Kd.R_append k48 (w0 := w) w.heap.size rfl (.tmp 25) (.tmp 29) 45 48 (.agg #[(.int .i64 0), (.int .i64 0)]) 16 rfl Try.underlying45 info48 rfl (by decide) (by omega) u3 x3_1 (⟨x4_1, x10_1⟩ : S48) [.int .i64 x4_1, .int .i64 x10_1] (fun _ => True) (fun _ => False) rfl rfl ?aP (fun _ hk => hk.elim) ?aF ?aO ?aB ?aS ?aL ?_; (case aP => exact k48_mkM _ _ _ (⟨x4_1, x10_1⟩ : S48)); (case aB => exact (by repeat (first | (with_reducible first | exact HB.out | apply below_alloc | apply pw_below_drewN | apply below_drew1) | exact HB.out))); (case aF => exact (fun _ _ => trivial)); (case aO => exact (by (with_reducible repeat (first | apply Kd.R_alloc | apply Kd.R_drewN | apply Kd.R_drew)); exact HO_3.out)); (case aS => exact (below_size (by repeat (first | (with_reducible first | exact HB.out | apply below_alloc | apply pw_below_drewN | apply below_drew1) | exact HB.out)))); (case aL => have := LMc12.out; omega); intro v106 w13 ho hb hg hat; rw [← Ny105.out] at ho; have n0_ := Aside0.mk (Kd.R_over' (by (with_reducible repeat (first | apply Kd.R_alloc | apply Kd.R_drewN | apply Kd.R_drew)); exact HO_8.out) (Kd.R_typed (by (with_reducible repeat (first | apply Kd.R_alloc | apply Kd.R_drewN | apply Kd.R_drew)); exact HO_3.out)) (by decide) hg); have n1_ := Aside0.mk (hb); have n2_ := Aside0.mk (ho); clear HO_8; clear HB; clear HO_3; have HO_8 := n0_; have HB := n1_; have HO107 := n2_; clear n0_ n1_ n2_; clear ho hb hg hat))
                    go_roundg k1
                    case measure => have := HK1.out; omega
                    case rel => exact ⟨(y105), (x10_1), (wrap64 (x10_1 + 1)), (by first | rfl | (simp; done) | (simp [*]; done)), (by first | rfl | (simp; done) | (simp [*]; done)), H', ⟨by have := HK1.out; omega⟩, ⟨by (with_reducible repeat (first | apply Kd.R_alloc | apply Kd.R_drewN | apply Kd.R_drew)); exact HO107.out⟩, ⟨by (with_reducible repeat (first | apply Kd.R_alloc | apply Kd.R_drewN | apply Kd.R_drew)); exact HO_8.out⟩, ⟨by repeat (first | (with_reducible first | exact HB.out | apply below_alloc | apply pw_below_drewN | apply below_drew1) | exact HB.out)⟩⟩
                  · rw [if_neg c12] at H
                    exact absurd H (by simp)
                · rw [if_neg c11] at H
                  have c11b0 : decide (x4_1 < x10_1) = false := decide_eq_false c11
                  clear c11
                  have H' := Aside0.mk H
                  clear H
                  have p104 : 0 ≤ (x10_1 : Int) := of_decide_eq_true (by first | (with_reducible assumption) | assumption)
                  have q104 : x10_1 < (t101.length : Int) := of_decide_eq_true (by first | (with_reducible assumption) | assumption)
                  obtain ⟨ad104, e104, hx104_0⟩ := Kd.at_bool (Kd.R_reads' HO_8.out).2.2 x10_1 p104 q104
                  (try rw [← Nbq8.out] at hx104_0)
                  cases e104
                  replace p104 := eq_true p104
                  replace q104 := eq_true q104
                  go_wp2
                  go_roundg k1
                  case measure => have := HK1.out; omega
                  case rel => exact ⟨(x3_1), (x4_1), (wrap64 (x10_1 + 1)), (by first | rfl | (simp; done) | (simp [*]; done)), (by first | rfl | (simp; done) | (simp [*]; done)), H', ⟨by have := HK1.out; omega⟩, ⟨by (with_reducible repeat (first | apply Kd.R_alloc | apply Kd.R_drewN | apply Kd.R_drew)); exact HO_3.out⟩, ⟨by (with_reducible repeat (first | apply Kd.R_alloc | apply Kd.R_drewN | apply Kd.R_drew)); exact HO_8.out⟩, ⟨by repeat (first | (with_reducible first | exact HB.out | apply below_alloc | apply pw_below_drewN | apply below_drew1) | exact HB.out)⟩⟩
              · rw [if_neg c10] at H
                have c10b0 : decide (0 < x10_1) = false := decide_eq_false c10
                clear c10
                have H' := Aside0.mk H
                clear H
                have p104 : 0 ≤ (x10_1 : Int) := of_decide_eq_true (by first | (with_reducible assumption) | assumption)
                have q104 : x10_1 < (t101.length : Int) := of_decide_eq_true (by first | (with_reducible assumption) | assumption)
                obtain ⟨ad104, e104, hx104_0⟩ := Kd.at_bool (Kd.R_reads' HO_8.out).2.2 x10_1 p104 q104
                (try rw [← Nbq8.out] at hx104_0)
                cases e104
                replace p104 := eq_true p104
                replace q104 := eq_true q104
                go_wp2
                go_roundg k1
                case measure => have := HK1.out; omega
                case rel => exact ⟨(x3_1), (x4_1), (wrap64 (x10_1 + 1)), (by first | rfl | (simp; done) | (simp [*]; done)), (by first | rfl | (simp; done) | (simp [*]; done)), H', ⟨by have := HK1.out; omega⟩, ⟨by (with_reducible repeat (first | apply Kd.R_alloc | apply Kd.R_drewN | apply Kd.R_drew)); exact HO_3.out⟩, ⟨by (with_reducible repeat (first | apply Kd.R_alloc | apply Kd.R_drewN | apply Kd.R_drew)); exact HO_8.out⟩, ⟨by repeat (first | (with_reducible first | exact HB.out | apply below_alloc | apply pw_below_drewN | apply below_drew1) | exact HB.out)⟩⟩
            · replace c9 := Bool.eq_false_iff.mpr c9
              subst c9
              have H1 : (cluster_Of.l0 k1 x3_1 x4_1 t101 (t101.length : Int) (wrap64 (x10_1 + 1))) = some r := by rw [if_neg (show ¬ (false = true) by decide)] at H; exact H
              clear H
              have H := H1
              clear H1
              have H' := Aside0.mk H
              clear H
              have p104 : 0 ≤ (x10_1 : Int) := of_decide_eq_true (by first | (with_reducible assumption) | assumption)
              have q104 : x10_1 < (t101.length : Int) := of_decide_eq_true (by first | (with_reducible assumption) | assumption)
              obtain ⟨ad104, e104, hx104_0⟩ := Kd.at_bool (Kd.R_reads' HO_8.out).2.2 x10_1 p104 q104
              (try rw [← Nbq8.out] at hx104_0)
              cases e104
              replace p104 := eq_true p104
              replace q104 := eq_true q104
              go_wp2
              go_roundg k1
              case measure => have := HK1.out; omega
              case rel => exact ⟨(x3_1), (x4_1), (wrap64 (x10_1 + 1)), (by first | rfl | (simp; done) | (simp [*]; done)), (by first | rfl | (simp; done) | (simp [*]; done)), H', ⟨by have := HK1.out; omega⟩, ⟨by (with_reducible repeat (first | apply Kd.R_alloc | apply Kd.R_drewN | apply Kd.R_drew)); exact HO_3.out⟩, ⟨by (with_reducible repeat (first | apply Kd.R_alloc | apply Kd.R_drewN | apply Kd.R_drew)); exact HO_8.out⟩, ⟨by repeat (first | (with_reducible first | exact HB.out | apply below_alloc | apply pw_below_drewN | apply below_drew1) | exact HB.out)⟩⟩
          · rw [if_neg c7] at H
            exact absurd H (by simp)
        · rw [if_neg c6] at H
          exact absurd H (by simp)
      · rw [if_neg c5] at H
        have c5b0 : decide (x10_1 < (t101.length : Int)) = false := decide_eq_false c5
        clear c5
        obtain rfl := Option.some.inj H
        go_wp2
        go_ret
        exact ⟨_, by first | rfl | (simp [errW_none, errW_some] <;> rfl) | (simp [*, errW_none, errW_some] <;> rfl), by (with_reducible repeat (first | apply Kd.R_alloc | apply Kd.R_drewN | apply Kd.R_drew)); exact HO_3.out, by repeat (first | (with_reducible first | exact HB.out | apply below_alloc | apply pw_below_drewN | apply below_drew1) | exact HB.out)⟩

-- given: function 26 (boustrophedonlaw32_awake)

-- given: function 19 (linec_Of)

/-! ### words_kind: function 42 -/
def words_kind.j0 : Nat → Int → Int → Bool → Option (Int)
  | 0, _, _, _ => none
  | k + 1, x0, x13, x14 => if x14 = true then (if x0 < 128 then (if x0 ≥ 48 then (if x0 ≤ 57 then (some 1) else (if x0 ≥ 97 then (if x0 ≤ 122 then (some 1) else (if x0 ≥ 65 then (if x0 ≤ 90 then (some 1) else (some 0)) else (some 0))) else (if x0 ≥ 65 then (if x0 ≤ 90 then (some 1) else (some 0)) else (some 0)))) else (if x0 ≥ 97 then (if x0 ≤ 122 then (some 1) else (if x0 ≥ 65 then (if x0 ≤ 90 then (some 1) else (some 0)) else (some 0))) else (if x0 ≥ 65 then (if x0 ≤ 90 then (some 1) else (some 0)) else (some 0)))) else (some 1)) else (if x13 = 9 then (some 2) else (if x13 = 14 then (some 2) else (if x13 = 12 then (some 2) else (some 0))))
def words_kind.f (k : Nat) (a0 : Int) (a1 : Int) : Option (Int) := if a0 = 39 then (some 3) else (if a0 = 46 then (some 3) else (if a0 = 44 then (some 3) else (if a0 = 58 then (some 3) else (if a0 = 95 then (some 3) else (if a0 = 8217 then (some 3) else (if a1 = 1 then (words_kind.j0 k a0 a1 (a1 == 1)) else (if a1 = 2 then (words_kind.j0 k a0 a1 (a1 == 2)) else (if a1 = 27 then (words_kind.j0 k a0 a1 (a1 == 27)) else (if a1 = 40 then (words_kind.j0 k a0 a1 (a1 == 40)) else (words_kind.j0 k a0 a1 (a1 == 39)))))))))))
theorem words_kind.mono_l : ∀ k, (∀ y0 y1 y2, LeO (words_kind.j0 k y0 y1 y2) (words_kind.j0 (k + 1) y0 y1 y2))
  | 0 => fun _ _ _ r h => by simp [words_kind.j0] at h
  | k + 1 => by
    have ih0 := words_kind.mono_l k
    · intro y0 y1 y2
      unfold words_kind.j0
      repeat' first
      | (with_reducible exact ih0 _ _ _)
      | (with_reducible exact LeO.refl _)
      | (with_reducible exact LeO.none _)
      | (with_reducible refine LeO.ite ?_ ?_)
      | (with_reducible refine LeO.bind ?_ (fun _ => ?_))
      | exact ih0 _ _ _
      | exact LeO.none _
      | refine LeO.ite ?_ ?_
      | refine LeO.bind ?_ (fun _ => ?_)
theorem words_kind.mono : ∀ a0 a1 k, LeO (words_kind.f k a0 a1) (words_kind.f (k + 1) a0 a1) := by
  intro a0 a1 k
  have ih0 := words_kind.mono_l k
  unfold words_kind.f
  repeat' first
      | (with_reducible exact ih0 _ _ _)
      | (with_reducible exact LeO.refl _)
      | (with_reducible exact LeO.none _)
      | (with_reducible refine LeO.ite ?_ ?_)
      | (with_reducible refine LeO.bind ?_ (fun _ => ?_))
      | exact ih0 _ _ _
      | exact LeO.none _
      | refine LeO.ite ?_ ?_
      | refine LeO.bind ?_ (fun _ => ?_)
set_option maxHeartbeats 8000000 in
set_option maxRecDepth 100000 in
theorem words_kind.calls (k : Nat) (a0 : Int) (a1 : Int) (r : Int) (w : World) (h : words_kind.f k a0 a1 = some r) :
    Calls Try.prog 42 #[.int .i32 a0, .int .u8 a1] w fun e w' => e = .returned (.int .i64 r) ∧ Drawn0 w w' := by
  have H : (if a0 = 39 then (some 3) else (if a0 = 46 then (some 3) else (if a0 = 44 then (some 3) else (if a0 = 58 then (some 3) else (if a0 = 95 then (some 3) else (if a0 = 8217 then (some 3) else (if a1 = 1 then (words_kind.j0 k a0 a1 (a1 == 1)) else (if a1 = 2 then (words_kind.j0 k a0 a1 (a1 == 2)) else (if a1 = 27 then (words_kind.j0 k a0 a1 (a1 == 27)) else (if a1 = 40 then (words_kind.j0 k a0 a1 (a1 == 40)) else (words_kind.j0 k a0 a1 (a1 == 39)))))))))))) = some r := h
  clear h
  by_cases c3 : a0 = 39
  · rw [if_pos c3] at H
    have c3b0 : (a0 == 39) = true := beq_iff_eq.mpr c3
    have c3b1 : (a0 != 39) = false := bne_eq_false_iff_eq.mpr c3
    clear c3
    obtain rfl := Option.some.inj H
    go_enter Try.func42, Try.ntmps42
    go_wp2
    go_ret
    exact ⟨by first | rfl | (simp; done) | (simp [*]; done), by repeat (first | exact Drawn0.refl _ | apply Drawn0.step)⟩
  · rw [if_neg c3] at H
    have c3b0 : (a0 == 39) = false := beq_eq_false_iff_ne.mpr c3
    have c3b1 : (a0 != 39) = true := bne_iff_ne.mpr c3
    by_cases c4 : a0 = 46
    · rw [if_pos c4] at H
      have c4b0 : (a0 == 46) = true := beq_iff_eq.mpr c4
      have c4b1 : (a0 != 46) = false := bne_eq_false_iff_eq.mpr c4
      clear c4
      obtain rfl := Option.some.inj H
      go_enter Try.func42, Try.ntmps42
      go_wp2
      go_ret
      exact ⟨by first | rfl | (simp; done) | (simp [*]; done), by repeat (first | exact Drawn0.refl _ | apply Drawn0.step)⟩
    · rw [if_neg c4] at H
      have c4b0 : (a0 == 46) = false := beq_eq_false_iff_ne.mpr c4
      have c4b1 : (a0 != 46) = true := bne_iff_ne.mpr c4
      by_cases c5 : a0 = 44
      · rw [if_pos c5] at H
        have c5b0 : (a0 == 44) = true := beq_iff_eq.mpr c5
        have c5b1 : (a0 != 44) = false := bne_eq_false_iff_eq.mpr c5
        clear c5
        obtain rfl := Option.some.inj H
        go_enter Try.func42, Try.ntmps42
        go_wp2
        go_ret
        exact ⟨by first | rfl | (simp; done) | (simp [*]; done), by repeat (first | exact Drawn0.refl _ | apply Drawn0.step)⟩
      · rw [if_neg c5] at H
        have c5b0 : (a0 == 44) = false := beq_eq_false_iff_ne.mpr c5
        have c5b1 : (a0 != 44) = true := bne_iff_ne.mpr c5
        by_cases c6 : a0 = 58
        · rw [if_pos c6] at H
          have c6b0 : (a0 == 58) = true := beq_iff_eq.mpr c6
          have c6b1 : (a0 != 58) = false := bne_eq_false_iff_eq.mpr c6
          clear c6
          obtain rfl := Option.some.inj H
          go_enter Try.func42, Try.ntmps42
          go_wp2
          go_ret
          exact ⟨by first | rfl | (simp; done) | (simp [*]; done), by repeat (first | exact Drawn0.refl _ | apply Drawn0.step)⟩
        · rw [if_neg c6] at H
          have c6b0 : (a0 == 58) = false := beq_eq_false_iff_ne.mpr c6
          have c6b1 : (a0 != 58) = true := bne_iff_ne.mpr c6
          by_cases c7 : a0 = 95
          · rw [if_pos c7] at H
            have c7b0 : (a0 == 95) = true := beq_iff_eq.mpr c7
            have c7b1 : (a0 != 95) = false := bne_eq_false_iff_eq.mpr c7
            clear c7
            obtain rfl := Option.some.inj H
            go_enter Try.func42, Try.ntmps42
            go_wp2
            go_ret
            exact ⟨by first | rfl | (simp; done) | (simp [*]; done), by repeat (first | exact Drawn0.refl _ | apply Drawn0.step)⟩
          · rw [if_neg c7] at H
            have c7b0 : (a0 == 95) = false := beq_eq_false_iff_ne.mpr c7
            have c7b1 : (a0 != 95) = true := bne_iff_ne.mpr c7
            by_cases c8 : a0 = 8217
            · rw [if_pos c8] at H
              have c8b0 : (a0 == 8217) = true := beq_iff_eq.mpr c8
              have c8b1 : (a0 != 8217) = false := bne_eq_false_iff_eq.mpr c8
              clear c8
              obtain rfl := Option.some.inj H
              go_enter Try.func42, Try.ntmps42
              go_wp2
              go_ret
              exact ⟨by first | rfl | (simp; done) | (simp [*]; done), by repeat (first | exact Drawn0.refl _ | apply Drawn0.step)⟩
            · rw [if_neg c8] at H
              have c8b0 : (a0 == 8217) = false := beq_eq_false_iff_ne.mpr c8
              have c8b1 : (a0 != 8217) = true := bne_iff_ne.mpr c8
              have HC9 := Aside0.mk H
              clear H
              go_enter Try.func42, Try.ntmps42
              go_upto_if 14 with (fail)
              go_cut [14] (fun v14 wc => ∃ (kq : Nat) (x14_8 : Bool), v14 = .bool x14_8 ∧ Aside0 (words_kind.j0 kq a0 a1 x14_8 = some r) ∧ Aside0 (kq ≤ k) ∧ Drawn0 w wc)
              case first =>
                have H := HC9.out
                clear HC9
                by_cases c10 : a1 = 1
                · rw [if_pos c10] at H
                  have c10b0 : (a1 == 1) = true := beq_iff_eq.mpr c10
                  have c10b1 : (a1 != 1) = false := bne_eq_false_iff_eq.mpr c10
                  clear c10
                  (first | rw [c10b0] | (simp only [i64_w, i32_w]; rw [c10b0]) | skip)
                  have H' := Aside0.mk H
                  clear H
                  go_wp2
                  go_meet
                  case rel => exact ⟨_, ((a1 == 1)), (by first | rfl | (simp; done) | (simp [*]; done)), H', ⟨by first | omega | exact Nat.le_refl _⟩, by repeat (first | exact Drawn0.refl _ | apply Drawn0.step)⟩
                · rw [if_neg c10] at H
                  have c10b0 : (a1 == 1) = false := beq_eq_false_iff_ne.mpr c10
                  have c10b1 : (a1 != 1) = true := bne_iff_ne.mpr c10
                  (first | rw [c10b0] | (simp only [i64_w, i32_w]; rw [c10b0]) | skip)
                  by_cases c11 : a1 = 2
                  · rw [if_pos c11] at H
                    have c11b0 : (a1 == 2) = true := beq_iff_eq.mpr c11
                    have c11b1 : (a1 != 2) = false := bne_eq_false_iff_eq.mpr c11
                    clear c11
                    have H' := Aside0.mk H
                    clear H
                    go_wp2
                    go_meet
                    case rel => exact ⟨_, ((a1 == 2)), (by first | rfl | (simp; done) | (simp [*]; done)), H', ⟨by first | omega | exact Nat.le_refl _⟩, by repeat (first | exact Drawn0.refl _ | apply Drawn0.step)⟩
                  · rw [if_neg c11] at H
                    have c11b0 : (a1 == 2) = false := beq_eq_false_iff_ne.mpr c11
                    have c11b1 : (a1 != 2) = true := bne_iff_ne.mpr c11
                    by_cases c12 : a1 = 27
                    · rw [if_pos c12] at H
                      have c12b0 : (a1 == 27) = true := beq_iff_eq.mpr c12
                      have c12b1 : (a1 != 27) = false := bne_eq_false_iff_eq.mpr c12
                      clear c12
                      have H' := Aside0.mk H
                      clear H
                      go_wp2
                      go_meet
                      case rel => exact ⟨_, ((a1 == 27)), (by first | rfl | (simp; done) | (simp [*]; done)), H', ⟨by first | omega | exact Nat.le_refl _⟩, by repeat (first | exact Drawn0.refl _ | apply Drawn0.step)⟩
                    · rw [if_neg c12] at H
                      have c12b0 : (a1 == 27) = false := beq_eq_false_iff_ne.mpr c12
                      have c12b1 : (a1 != 27) = true := bne_iff_ne.mpr c12
                      by_cases c13 : a1 = 40
                      · rw [if_pos c13] at H
                        have c13b0 : (a1 == 40) = true := beq_iff_eq.mpr c13
                        have c13b1 : (a1 != 40) = false := bne_eq_false_iff_eq.mpr c13
                        clear c13
                        have H' := Aside0.mk H
                        clear H
                        go_wp2
                        go_meet
                        case rel => exact ⟨_, ((a1 == 40)), (by first | rfl | (simp; done) | (simp [*]; done)), H', ⟨by first | omega | exact Nat.le_refl _⟩, by repeat (first | exact Drawn0.refl _ | apply Drawn0.step)⟩
                      · rw [if_neg c13] at H
                        have c13b0 : (a1 == 40) = false := beq_eq_false_iff_ne.mpr c13
                        have c13b1 : (a1 != 40) = true := bne_iff_ne.mpr c13
                        have H' := Aside0.mk H
                        clear H
                        go_wp2
                        go_meet
                        case rel => exact ⟨_, ((a1 == 39)), (by first | rfl | (simp; done) | (simp [*]; done)), H', ⟨by first | omega | exact Nat.le_refl _⟩, by repeat (first | exact Drawn0.refl _ | apply Drawn0.step)⟩
              case rest =>
                clear HC9
                try clear c1
                try clear p2
                try clear c3
                try clear c3b0
                try clear c3b1
                try clear c4
                try clear c4b0
                try clear c4b1
                try clear c5
                try clear c5b0
                try clear c5b1
                try clear c6
                try clear c6b0
                try clear c6b1
                try clear c7
                try clear c7b0
                try clear c7b1
                try clear c8
                try clear c8b0
                try clear c8b1
                try clear c10
                try clear c10b0
                try clear c10b1
                try clear c11
                try clear c11b0
                try clear c11b1
                try clear c12
                try clear c12b0
                try clear c12b1
                try clear c13
                try clear c13b0
                try clear c13b1
                obtain ⟨kq, x14_8, rfl, HA, HJ8, ⟨mc8, rfl⟩⟩ := hcut
                cases kq with
                | zero => exact absurd HA.out (by simp [words_kind.j0])
                | succ kj8 =>
                  have H := HA.out
                  clear HA
                  simp only [words_kind.j0] at H
                  by_cases c14 : x14_8 = true
                  · subst c14
                    have H1 : (if a0 < 128 then (if a0 ≥ 48 then (if a0 ≤ 57 then (some 1) else (if a0 ≥ 97 then (if a0 ≤ 122 then (some 1) else (if a0 ≥ 65 then (if a0 ≤ 90 then (some 1) else (some 0)) else (some 0))) else (if a0 ≥ 65 then (if a0 ≤ 90 then (some 1) else (some 0)) else (some 0)))) else (if a0 ≥ 97 then (if a0 ≤ 122 then (some 1) else (if a0 ≥ 65 then (if a0 ≤ 90 then (some 1) else (some 0)) else (some 0))) else (if a0 ≥ 65 then (if a0 ≤ 90 then (some 1) else (some 0)) else (some 0)))) else (some 1)) = some r := by rw [if_pos rfl] at H; exact H
                    clear H
                    have H := H1
                    clear H1
                    by_cases c15 : a0 < 128
                    · rw [if_pos c15] at H
                      have c15b0 : decide (a0 < 128) = true := decide_eq_true c15
                      clear c15
                      by_cases c16 : a0 ≥ 48
                      · rw [if_pos c16] at H
                        have c16b0 : decide (48 ≤ a0) = true := decide_eq_true c16
                        clear c16
                        by_cases c17 : a0 ≤ 57
                        · rw [if_pos c17] at H
                          have c17b0 : decide (a0 ≤ 57) = true := decide_eq_true c17
                          clear c17
                          obtain rfl := Option.some.inj H
                          go_wp2
                          go_ret
                          exact ⟨by first | rfl | (simp; done) | (simp [*]; done), by repeat (first | exact Drawn0.refl _ | apply Drawn0.step)⟩
                        · rw [if_neg c17] at H
                          have c17b0 : decide (a0 ≤ 57) = false := decide_eq_false c17
                          clear c17
                          by_cases c18 : a0 ≥ 97
                          · rw [if_pos c18] at H
                            have c18b0 : decide (97 ≤ a0) = true := decide_eq_true c18
                            clear c18
                            by_cases c19 : a0 ≤ 122
                            · rw [if_pos c19] at H
                              have c19b0 : decide (a0 ≤ 122) = true := decide_eq_true c19
                              clear c19
                              obtain rfl := Option.some.inj H
                              go_wp2
                              go_ret
                              exact ⟨by first | rfl | (simp; done) | (simp [*]; done), by repeat (first | exact Drawn0.refl _ | apply Drawn0.step)⟩
                            · rw [if_neg c19] at H
                              have c19b0 : decide (a0 ≤ 122) = false := decide_eq_false c19
                              clear c19
                              by_cases c20 : a0 ≥ 65
                              · rw [if_pos c20] at H
                                have c20b0 : decide (65 ≤ a0) = true := decide_eq_true c20
                                clear c20
                                by_cases c21 : a0 ≤ 90
                                · rw [if_pos c21] at H
                                  have c21b0 : decide (a0 ≤ 90) = true := decide_eq_true c21
                                  clear c21
                                  obtain rfl := Option.some.inj H
                                  go_wp2
                                  go_ret
                                  exact ⟨by first | rfl | (simp; done) | (simp [*]; done), by repeat (first | exact Drawn0.refl _ | apply Drawn0.step)⟩
                                · rw [if_neg c21] at H
                                  have c21b0 : decide (a0 ≤ 90) = false := decide_eq_false c21
                                  clear c21
                                  obtain rfl := Option.some.inj H
                                  go_wp2
                                  go_ret
                                  exact ⟨by first | rfl | (simp; done) | (simp [*]; done), by repeat (first | exact Drawn0.refl _ | apply Drawn0.step)⟩
                              · rw [if_neg c20] at H
                                have c20b0 : decide (65 ≤ a0) = false := decide_eq_false c20
                                clear c20
                                obtain rfl := Option.some.inj H
                                go_wp2
                                go_ret
                                exact ⟨by first | rfl | (simp; done) | (simp [*]; done), by repeat (first | exact Drawn0.refl _ | apply Drawn0.step)⟩
                          · rw [if_neg c18] at H
                            have c18b0 : decide (97 ≤ a0) = false := decide_eq_false c18
                            clear c18
                            by_cases c22 : a0 ≥ 65
                            · rw [if_pos c22] at H
                              have c22b0 : decide (65 ≤ a0) = true := decide_eq_true c22
                              clear c22
                              by_cases c23 : a0 ≤ 90
                              · rw [if_pos c23] at H
                                have c23b0 : decide (a0 ≤ 90) = true := decide_eq_true c23
                                clear c23
                                obtain rfl := Option.some.inj H
                                go_wp2
                                go_ret
                                exact ⟨by first | rfl | (simp; done) | (simp [*]; done), by repeat (first | exact Drawn0.refl _ | apply Drawn0.step)⟩
                              · rw [if_neg c23] at H
                                have c23b0 : decide (a0 ≤ 90) = false := decide_eq_false c23
                                clear c23
                                obtain rfl := Option.some.inj H
                                go_wp2
                                go_ret
                                exact ⟨by first | rfl | (simp; done) | (simp [*]; done), by repeat (first | exact Drawn0.refl _ | apply Drawn0.step)⟩
                            · rw [if_neg c22] at H
                              have c22b0 : decide (65 ≤ a0) = false := decide_eq_false c22
                              clear c22
                              obtain rfl := Option.some.inj H
                              go_wp2
                              go_ret
                              exact ⟨by first | rfl | (simp; done) | (simp [*]; done), by repeat (first | exact Drawn0.refl _ | apply Drawn0.step)⟩
                      · rw [if_neg c16] at H
                        have c16b0 : decide (48 ≤ a0) = false := decide_eq_false c16
                        clear c16
                        by_cases c24 : a0 ≥ 97
                        · rw [if_pos c24] at H
                          have c24b0 : decide (97 ≤ a0) = true := decide_eq_true c24
                          clear c24
                          by_cases c25 : a0 ≤ 122
                          · rw [if_pos c25] at H
                            have c25b0 : decide (a0 ≤ 122) = true := decide_eq_true c25
                            clear c25
                            obtain rfl := Option.some.inj H
                            go_wp2
                            go_ret
                            exact ⟨by first | rfl | (simp; done) | (simp [*]; done), by repeat (first | exact Drawn0.refl _ | apply Drawn0.step)⟩
                          · rw [if_neg c25] at H
                            have c25b0 : decide (a0 ≤ 122) = false := decide_eq_false c25
                            clear c25
                            by_cases c26 : a0 ≥ 65
                            · rw [if_pos c26] at H
                              have c26b0 : decide (65 ≤ a0) = true := decide_eq_true c26
                              clear c26
                              by_cases c27 : a0 ≤ 90
                              · rw [if_pos c27] at H
                                have c27b0 : decide (a0 ≤ 90) = true := decide_eq_true c27
                                clear c27
                                obtain rfl := Option.some.inj H
                                go_wp2
                                go_ret
                                exact ⟨by first | rfl | (simp; done) | (simp [*]; done), by repeat (first | exact Drawn0.refl _ | apply Drawn0.step)⟩
                              · rw [if_neg c27] at H
                                have c27b0 : decide (a0 ≤ 90) = false := decide_eq_false c27
                                clear c27
                                obtain rfl := Option.some.inj H
                                go_wp2
                                go_ret
                                exact ⟨by first | rfl | (simp; done) | (simp [*]; done), by repeat (first | exact Drawn0.refl _ | apply Drawn0.step)⟩
                            · rw [if_neg c26] at H
                              have c26b0 : decide (65 ≤ a0) = false := decide_eq_false c26
                              clear c26
                              obtain rfl := Option.some.inj H
                              go_wp2
                              go_ret
                              exact ⟨by first | rfl | (simp; done) | (simp [*]; done), by repeat (first | exact Drawn0.refl _ | apply Drawn0.step)⟩
                        · rw [if_neg c24] at H
                          have c24b0 : decide (97 ≤ a0) = false := decide_eq_false c24
                          clear c24
                          by_cases c28 : a0 ≥ 65
                          · rw [if_pos c28] at H
                            have c28b0 : decide (65 ≤ a0) = true := decide_eq_true c28
                            clear c28
                            by_cases c29 : a0 ≤ 90
                            · rw [if_pos c29] at H
                              have c29b0 : decide (a0 ≤ 90) = true := decide_eq_true c29
                              clear c29
                              obtain rfl := Option.some.inj H
                              go_wp2
                              go_ret
                              exact ⟨by first | rfl | (simp; done) | (simp [*]; done), by repeat (first | exact Drawn0.refl _ | apply Drawn0.step)⟩
                            · rw [if_neg c29] at H
                              have c29b0 : decide (a0 ≤ 90) = false := decide_eq_false c29
                              clear c29
                              obtain rfl := Option.some.inj H
                              go_wp2
                              go_ret
                              exact ⟨by first | rfl | (simp; done) | (simp [*]; done), by repeat (first | exact Drawn0.refl _ | apply Drawn0.step)⟩
                          · rw [if_neg c28] at H
                            have c28b0 : decide (65 ≤ a0) = false := decide_eq_false c28
                            clear c28
                            obtain rfl := Option.some.inj H
                            go_wp2
                            go_ret
                            exact ⟨by first | rfl | (simp; done) | (simp [*]; done), by repeat (first | exact Drawn0.refl _ | apply Drawn0.step)⟩
                    · rw [if_neg c15] at H
                      have c15b0 : decide (a0 < 128) = false := decide_eq_false c15
                      clear c15
                      obtain rfl := Option.some.inj H
                      go_wp2
                      go_ret
                      exact ⟨by first | rfl | (simp; done) | (simp [*]; done), by repeat (first | exact Drawn0.refl _ | apply Drawn0.step)⟩
                  · replace c14 := Bool.eq_false_iff.mpr c14
                    subst c14
                    have H1 : (if a1 = 9 then (some 2) else (if a1 = 14 then (some 2) else (if a1 = 12 then (some 2) else (some 0)))) = some r := by rw [if_neg (show ¬ (false = true) by decide)] at H; exact H
                    clear H
                    have H := H1
                    clear H1
                    by_cases c30 : a1 = 9
                    · rw [if_pos c30] at H
                      have c30b0 : (a1 == 9) = true := beq_iff_eq.mpr c30
                      have c30b1 : (a1 != 9) = false := bne_eq_false_iff_eq.mpr c30
                      clear c30
                      obtain rfl := Option.some.inj H
                      go_wp2
                      go_ret
                      exact ⟨by first | rfl | (simp; done) | (simp [*]; done), by repeat (first | exact Drawn0.refl _ | apply Drawn0.step)⟩
                    · rw [if_neg c30] at H
                      have c30b0 : (a1 == 9) = false := beq_eq_false_iff_ne.mpr c30
                      have c30b1 : (a1 != 9) = true := bne_iff_ne.mpr c30
                      by_cases c31 : a1 = 14
                      · rw [if_pos c31] at H
                        have c31b0 : (a1 == 14) = true := beq_iff_eq.mpr c31
                        have c31b1 : (a1 != 14) = false := bne_eq_false_iff_eq.mpr c31
                        clear c31
                        obtain rfl := Option.some.inj H
                        go_wp2
                        go_ret
                        exact ⟨by first | rfl | (simp; done) | (simp [*]; done), by repeat (first | exact Drawn0.refl _ | apply Drawn0.step)⟩
                      · rw [if_neg c31] at H
                        have c31b0 : (a1 == 14) = false := beq_eq_false_iff_ne.mpr c31
                        have c31b1 : (a1 != 14) = true := bne_iff_ne.mpr c31
                        by_cases c32 : a1 = 12
                        · rw [if_pos c32] at H
                          have c32b0 : (a1 == 12) = true := beq_iff_eq.mpr c32
                          have c32b1 : (a1 != 12) = false := bne_eq_false_iff_eq.mpr c32
                          clear c32
                          obtain rfl := Option.some.inj H
                          go_wp2
                          go_ret
                          exact ⟨by first | rfl | (simp; done) | (simp [*]; done), by repeat (first | exact Drawn0.refl _ | apply Drawn0.step)⟩
                        · rw [if_neg c32] at H
                          have c32b0 : (a1 == 12) = false := beq_eq_false_iff_ne.mpr c32
                          have c32b1 : (a1 != 12) = true := bne_iff_ne.mpr c32
                          obtain rfl := Option.some.inj H
                          go_wp2
                          go_ret
                          exact ⟨by first | rfl | (simp; done) | (simp [*]; done), by repeat (first | exact Drawn0.refl _ | apply Drawn0.step)⟩

end Go.Proofs.Ytphhgmhgkendaaa.F
