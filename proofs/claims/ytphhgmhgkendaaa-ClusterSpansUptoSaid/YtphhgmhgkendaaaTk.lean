/-
  (*cluster.state).take and what a cluster's state does, in plain words: the call leaves the state that the plain words say. Its conditions: the state lies in a block of its own, and its count of flags fits an int.
-/
import Derived.Test.YtphhgmhgkendaaaOf
import Derived.Test.YtphhgmhgkendaaaSx2
import Derived.Outline
namespace Go.Proofs.Ytphhgmhgkendaaa
open Go.RowKit Go.Proofs.YtphhgmhgkendaaaW.PrintWords
/-! ### What a cluster's state does, in plain words -/
def ctlB (c : Int) : Bool := c == 6 || c == 7 || c == 5 || c == 8 || c == 10
def picB (c : Int) : Bool := c == 30 || c == 31 || c == 32
def mrkB (c w : Int) : Bool := c == 3 || c == 4 || (c == 40 && w == 0)
def lastB (l c : Int) : Bool := if l = 34 then (c == 34 || c == 37 || c == 38 || c == 35) else if l = 35 ∨ l = 37 then (c == 35 || c == 36) else if l = 36 ∨ l = 38 then c == 36 else false
def joinsB (l f : Int) (j : Bool) (c w : Int) : Bool :=
  if l = 6 ∧ c = 7 then true else if ctlB l = true then false else if ctlB c = true then false else if mrkB c w = true then true else if (j && picB c) = true then true else if f = 1 ∧ c = 33 then true else lastB l c
def takeP (p : Bool) (c w : Int) (b : Bool) : Bool := if b then picB c else if mrkB c w then p else picB c
def takeN (f c : Int) (b : Bool) : Int := (if b then 0 else f) + (if c = 33 then 1 else 0)

theorem ctl_eq (c : Int) : S.cluster_control.f c = some (ctlB c) := by
  unfold S.cluster_control.f ctlB
  repeat' split
  all_goals simp_all
theorem pic_eq (c : Int) : S.cluster_picture.f c = some (picB c) := by
  unfold S.cluster_picture.f picB
  repeat' split
  all_goals simp_all
theorem mrk_eq (c w : Int) : S.cluster_mark.f c w = some (mrkB c w) := by
  unfold S.cluster_mark.f mrkB
  repeat' split
  all_goals simp_all
theorem j3_eq (k : Nat) (c l f : Int) (p j : Bool) : S.cluster_state_joins.j3 (k + 2) c l f p j = some (lastB l c, l, f, p, j) := by
  simp only [S.cluster_state_joins.j3, S.cluster_state_joins.j4, S.cluster_state_joins.j5, lastB]
  repeat' split
  all_goals simp_all
theorem joins_eq (l f : Int) (p j : Bool) (c w : Int) : S.cluster_state_joins.f 5 l f p j c w = some (joinsB l f j c w, l, f, p, j) := by
  have h2 : ∀ b : Bool, S.cluster_state_joins.j2 3 c b l f p j = some (if b = true then true else if f = 1 ∧ c = 33 then true else lastB l c, l, f, p, j) := by
    intro b
    simp only [S.cluster_state_joins.j2, j3_eq 0]
    by_cases h1 : b = true
    · simp [h1]
    · by_cases h2 : f = 1
      · by_cases h3 : c = 33 <;> simp [h1, h2, h3]
      · simp [h1, h2]
  have h1 : ∀ b : Bool, S.cluster_state_joins.j1 4 c w b l f p j = some (if b = true then false else if mrkB c w = true then true else if (j && picB c) = true then true else if f = 1 ∧ c = 33 then true else lastB l c, l, f, p, j) := by
    intro b
    simp only [S.cluster_state_joins.j1, mrk_eq, pic_eq, Option.bind_some, h2]
    by_cases g1 : b = true
    · simp [g1]
    · by_cases g2 : mrkB c w = true
      · simp [g1, g2]
      · cases j <;> simp [g1, g2]
  have h0 : ∀ b : Bool, S.cluster_state_joins.j0 5 c w b l f p j = some (if b = true then true else if ctlB l = true then false else if ctlB c = true then false else if mrkB c w = true then true else if (j && picB c) = true then true else if f = 1 ∧ c = 33 then true else lastB l c, l, f, p, j) := by
    intro b
    simp only [S.cluster_state_joins.j0, ctl_eq, Option.bind_some, h1]
    by_cases g1 : b = true
    · simp [g1]
    · by_cases g2 : ctlB l = true
      · simp [g1, g2]
      · simp [g1, g2]
  unfold S.cluster_state_joins.f joinsB
  by_cases g : l = 6
  · rw [if_pos g, h0]
    by_cases g2 : c = 7 <;> simp [g, g2]
  · rw [if_neg g, h0]
    simp [g]
theorem pic_at (c : Int) (w : World) : Calls Try.prog 51 #[.int .u8 c] w fun e w' => e = .returned (.bool (picB c)) ∧ ∃ n, w' = w.drewN n :=
  (S.cluster_picture.calls c _ w (pic_eq c)).mono fun _ _ ⟨h1, h2⟩ => ⟨h1, h2.out⟩
theorem mrk_at (c wd : Int) (w : World) : Calls Try.prog 50 #[.int .u8 c, .int .i64 wd] w fun e w' => e = .returned (.bool (mrkB c wd)) ∧ ∃ n, w' = w.drewN n :=
  (S.cluster_mark.calls c wd _ w (mrk_eq c wd)).mono fun _ _ ⟨h1, h2⟩ => ⟨h1, h2.out⟩
theorem st0 {w : World} {g : Nat} {a b c d u : Value} (h : w.heap[g]? = some (.cells #[a, b, c, d] 72 (0, 0))) : (w.setCell ⟨g, 0, none⟩ u).heap[g]? = some (.cells #[u, b, c, d] 72 (0, 0)) := (blk_set h 0 u).trans rfl
theorem st1 {w : World} {g : Nat} {a b c d u : Value} (h : w.heap[g]? = some (.cells #[a, b, c, d] 72 (0, 0))) : (w.setCell ⟨g, 1, none⟩ u).heap[g]? = some (.cells #[a, u, c, d] 72 (0, 0)) := (blk_set h 1 u).trans rfl
theorem st2 {w : World} {g : Nat} {a b c d u : Value} (h : w.heap[g]? = some (.cells #[a, b, c, d] 72 (0, 0))) : (w.setCell ⟨g, 2, none⟩ u).heap[g]? = some (.cells #[a, b, u, d] 72 (0, 0)) := (blk_set h 2 u).trans rfl
theorem st3 {w : World} {g : Nat} {a b c d u : Value} (h : w.heap[g]? = some (.cells #[a, b, c, d] 72 (0, 0))) : (w.setCell ⟨g, 3, none⟩ u).heap[g]? = some (.cells #[a, b, c, u] 72 (0, 0)) := (blk_set h 3 u).trans rfl
/-- The state at block g. -/
def StW (w : World) (g : Nat) (l f : Int) (p j : Bool) : Prop := w.heap[g]? = some (.cells #[.int .u8 l, .int .i64 f, .bool p, .bool j] 72 (0, 0))
/-- The state at block g of world w, reached from world w0 by stores into that block alone. -/
structure InvT (base : Nat) (w0 w : World) (g : Nat) (l f : Int) (p j : Bool) : Prop where
  st : StW w g l f p j
  bl : Below base w0 w
  kp : KeepBut w0 w g none
theorem InvT.drew {base : Nat} {w : World} {g : Nat} {l f : Int} {p j : Bool} (n : Nat) (h : StW w g l f p j) : InvT base w (w.drewN n) g l f p j := ⟨h, pw_below_drewN (Below.refl _ _) _, keep_drewN (KeepBut.refl _ _ _) _⟩
theorem InvT.start {base : Nat} {w : World} {g : Nat} {l f : Int} {p j : Bool} (h : StW w g l f p j) : InvT base w w g l f p j := ⟨h, Below.refl _ _, KeepBut.refl _ _ _⟩
theorem InvT.drew2 {base : Nat} {w0 w : World} {g : Nat} {l f : Int} {p j : Bool} (n : Nat) (h : InvT base w0 w g l f p j) : InvT base w0 (w.drewN n) g l f p j := ⟨h.st, pw_below_drewN h.bl _, keep_drewN h.kp _⟩
theorem InvT.set0 {base : Nat} {w0 w : World} {g : Nat} {l f : Int} {p j : Bool} {u : Int} (hg : base ≤ g) (h : InvT base w0 w g l f p j) : InvT base w0 (w.setCell ⟨g, 0, none⟩ (.int .u8 u)) g u f p j := ⟨st0 h.st, Below.setCell h.bl hg _, KeepBut.set_ h.kp _ _⟩
theorem InvT.set1 {base : Nat} {w0 w : World} {g : Nat} {l f : Int} {p j : Bool} {u : Int} (hg : base ≤ g) (h : InvT base w0 w g l f p j) : InvT base w0 (w.setCell ⟨g, 1, none⟩ (.int .i64 u)) g l u p j := ⟨st1 h.st, Below.setCell h.bl hg _, KeepBut.set_ h.kp _ _⟩
theorem InvT.set2 {base : Nat} {w0 w : World} {g : Nat} {l f : Int} {p j : Bool} {u : Bool} (hg : base ≤ g) (h : InvT base w0 w g l f p j) : InvT base w0 (w.setCell ⟨g, 2, none⟩ (.bool u)) g l f u j := ⟨st2 h.st, Below.setCell h.bl hg _, KeepBut.set_ h.kp _ _⟩
theorem InvT.set3 {base : Nat} {w0 w : World} {g : Nat} {l f : Int} {p j : Bool} {u : Bool} (hg : base ≤ g) (h : InvT base w0 w g l f p j) : InvT base w0 (w.setCell ⟨g, 3, none⟩ (.bool u)) g l f p u := ⟨st3 h.st, Below.setCell h.bl hg _, KeepBut.set_ h.kp _ _⟩
theorem InvT.eq {base : Nat} {w0 w : World} {g : Nat} {l f : Int} {p j : Bool} {l2 f2 : Int} {p2 j2 : Bool} (h : InvT base w0 w g l f p j) (e1 : l = l2) (e2 : f = f2) (e3 : p = p2) (e4 : j = j2) : InvT base w0 w g l2 f2 p2 j2 := by subst e1 e2 e3 e4; exact h
set_option maxRecDepth 100000 in
set_option maxHeartbeats 6400000 in
theorem take_any (base : Nat) (w : World) (g : Nat) (l f : Int) (p j : Bool) (c wd : Int) (b : Bool) (hf : 0 ≤ f) (hf2 : f ≤ 9000000000000000000) (hI : StW w g l f p j) (hg : base ≤ g) :
    Calls Try.prog 40 #[.pointer (some ⟨g, 0, none⟩), .int .u8 c, .int .i64 wd, .bool b] w fun e w' => e = .returned (.tuple #[]) ∧ InvT base w w' g c (takeN f c b) (takeP p c wd b) (takeP p c wd b && c == 4) := by
  unfold StW at hI
  have c0 : w.cell? ⟨g, 0, none⟩ = some (.int .u8 l) := (blk_cell hI 0).trans rfl
  have c1 : w.cell? ⟨g, 1, none⟩ = some (.int .i64 f) := (blk_cell hI 1).trans rfl
  have c2 : w.cell? ⟨g, 2, none⟩ = some (.bool p) := (blk_cell hI 2).trans rfl
  have c3 : w.cell? ⟨g, 3, none⟩ = some (.bool j) := (blk_cell hI 3).trans rfl
  have f0 : w.frozen? ⟨g, 0, none⟩ = false := blk_frozen hI 0
  have f1 : w.frozen? ⟨g, 1, none⟩ = false := blk_frozen hI 1
  have f2 : w.frozen? ⟨g, 2, none⟩ = false := blk_frozen hI 2
  have f3 : w.frozen? ⟨g, 3, none⟩ = false := blk_frozen hI 3
  have HI : Hid (StW w g l f p j) := Lib.hid hI
  have HG := Lib.hid hg
  clear hI hg
  obtain ⟨q, hq⟩ : ∃ q, picB c = q := ⟨_, rfl⟩
  have HQ := Lib.hid hq
  clear hq
  obtain ⟨m, hm⟩ : ∃ m, mrkB c wd = m := ⟨_, rfl⟩
  have HM := Lib.hid hm
  clear hm
  have hw : wrap64 (f + 1) = f + 1 := IntWalk.wrap64_in _ ⟨by omega, by omega⟩
  have HW := Lib.hid hw
  clear hw hf hf2
  obtain ⟨c33, h33⟩ : ∃ b, (c == 33) = b := ⟨_, rfl⟩
  obtain ⟨c4, h4⟩ : ∃ b, (c == 4) = b := ⟨_, rfl⟩
  cases c33 <;> cases c4 <;> cases b <;> cases q <;> cases m <;> cases p <;>
  · go_enter Try.func40, Try.ntmps40
    go_wp2_with (first
      | (go_at_call 51; refine (pic_at _ _).mono ?_; rw [HQ.out]; rintro e w' ⟨rfl, n, rfl⟩)
      | (go_at_call 50; refine (mrk_at _ _ _).mono ?_; rw [HM.out]; rintro e w' ⟨rfl, n, rfl⟩))
    go_end0
    refine ⟨rfl, ?_⟩
    apply InvT.eq
    · repeat (first | (with_reducible apply InvT.set0 HG.out) | (with_reducible apply InvT.set1 HG.out) | (with_reducible apply InvT.set2 HG.out) | (with_reducible apply InvT.set3 HG.out) | (with_reducible apply InvT.drew2) | (with_reducible apply InvT.start) | (with_reducible exact HI.out))
    all_goals clear c0 c1 c2 c3 f0 f1 f2 f3 HI HG
    all_goals have HQ2 := HQ.out
    all_goals have HM2 := HM.out
    all_goals simp_all [takeN, takeP, HW.out]
end Go.Proofs.Ytphhgmhgkendaaa
