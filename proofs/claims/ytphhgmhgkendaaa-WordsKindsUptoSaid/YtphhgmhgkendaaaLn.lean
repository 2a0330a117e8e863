/-
  The document's answer for a scalar's class (boustrophedonref04.Find of the table of classes, boustrophedonref04.Line): what each hands back. No condition but that the table lies where the slice says.
-/
import Derived.Test.YtphhgmhgkendaaaOf
namespace Go.Proofs.Ytphhgmhgkendaaa
open Go.RowKit Go.Proofs.YtphhgmhgkendaaaW.PrintWords

/-- The value of the first row that holds a number. -/
def findF : List (Int × Int × Int) → Int → Int → Int
  | [], _, o => o
  | x :: t, r, o => if x.1 ≤ r ∧ r ≤ x.2.1 then x.2.2 else findF t r o

theorem findF_drop {t : List (Int × Int × Int)} {k : Nat} {a b c : Int} (h : t[k]? = some (a, b, c)) (r o : Int) : findF (t.drop k) r o = if a ≤ r ∧ r ≤ b then c else findF (t.drop (k + 1)) r o := by
  obtain ⟨hk, e⟩ := List.getElem?_eq_some_iff.1 h
  rw [List.drop_eq_getElem_cons hk, e]
  rfl

set_option maxRecDepth 100000 in
set_option maxHeartbeats 800000 in
theorem find_calls (t : List (Int × Int × Int)) (r o : Int) (w W : World) (hB : Below (w.heap.size + 1) (w.alloc (.cells (tabCells .i64 t).toArray 33)) W) (hl : t.length ≤ 1000) :
    Calls Try.prog 36 #[.slice (some ⟨w.heap.size, 0, none⟩) t.length t.length, .int .i64 r, .int .i64 o] W fun e w' => e = .returned (.int .i64 (findF t r o)) ∧ W = w' := by
  have HB := Lib.hid hB
  clear hB
  obtain ⟨z, hz⟩ : ∃ z, findF t r o = z := ⟨_, rfl⟩
  rw [hz]
  have HZ := Lib.hid hz
  clear hz
  go_enter Try.func36, Try.ntmps36
  go_wp2
  go_loop [7] (fun v => ∃ k : Nat, k ≤ t.length ∧ v = .int .i64 k ∧ Hid (findF (t.drop k) r o = z)) (fun v => t.length - (intOf v).toNat)
  case atStart => exact ⟨0, Nat.zero_le _, rfl, HZ⟩
  case round =>
    clear HZ
    obtain ⟨k, hk, rfl, hZ⟩ := hrel
    by_cases hlt : k < t.length
    · obtain ⟨a, b, v, hx⟩ : ∃ a b v, t[k]? = some (a, b, v) := by
        obtain ⟨x, hx⟩ : ∃ x, t[k]? = some x := ⟨_, List.getElem?_eq_getElem hlt⟩
        exact ⟨x.1, x.2.1, x.2.2, hx⟩
      obtain ⟨c0, c1, c2⟩ := row_cells HB.out hx
      have hd : Hid (z = if a ≤ r ∧ r ≤ b then v else findF (t.drop (k + 1)) r o) := Lib.hid (by rw [← hZ.out, findF_drop hx])
      clear hx hZ
      by_cases ha : a ≤ r
      · by_cases hb : r ≤ b
        · have hz : Hid (z = v) := Lib.hid (by rw [hd.out, if_pos ⟨ha, hb⟩])
          clear hd
          go_wp2
          go_ret
          exact ⟨by rw [hz.out]; rfl, rfl⟩
        · have hz : Hid (findF (t.drop (k + 1)) r o = z) := Lib.hid (by rw [hd.out, if_neg (by omega)])
          clear hd
          go_wp2
          go_round
          case rel => exact ⟨k + 1, by omega, by go_num, hz⟩
          case measure => simp [intOf]; omega
      · have hz : Hid (findF (t.drop (k + 1)) r o = z) := Lib.hid (by rw [hd.out, if_neg (by omega)])
        clear hd
        go_wp2
        go_round
        case rel => exact ⟨k + 1, by omega, by go_num, hz⟩
        case measure => simp [intOf]; omega
    · have : k = t.length := by omega
      subst this
      have hz : Hid (z = o) := Lib.hid (by rw [← hZ.out, List.drop_length]; rfl)
      clear hZ
      go_wp2
      go_ret
      exact ⟨by rw [hz.out]; rfl, rfl⟩

theorem find_lines (n : Nat) (hn : linecTab.length = n) (hl : n ≤ 1000) (r o : Int) (w W : World) (hB : Below (w.heap.size + 1) (w.alloc (.cells (tabCells .i64 linecTab).toArray 33)) W) :
    Calls Try.prog 36 #[.slice (some ⟨w.heap.size, 0, none⟩) n n, .int .i64 r, .int .i64 o] W fun e w' => e = .returned (.int .i64 (findF linecTab r o)) ∧ W = w' := by
  subst hn
  exact find_calls linecTab r o w W hB hl

/-- The document's class of a number. -/
def lineF (r : Int) : Int := if 44032 ≤ r ∧ r ≤ 55203 then (if (r - 44032) % 28 = 0 then 37 else 38) else findF linecTab r 0
def boustrophedonref04_Line.f (a0 : Int) : Option Int := some (lineF a0)

set_option maxHeartbeats 800000 in
theorem boustrophedonref04_Line.calls (a0 : Int) (r : Int) (w : World) (h : boustrophedonref04_Line.f a0 = some r) :
    Calls Try.prog 20 #[.int .i64 a0] w fun e w' => e = .returned (.int .i64 r) ∧ Below w.heap.size w w' := by
  obtain rfl := Option.some.inj h
  clear h
  by_cases g1 : 44032 ≤ a0
  · by_cases g2 : a0 ≤ 55203
    · by_cases g3 : (a0 - 44032) % 28 = 0
      · have hb : ((a0 - 44032) % 28 == 0) = true := by simpa using g3
        have e : lineF a0 = 37 := by unfold lineF; rw [if_pos ⟨g1, g2⟩, if_pos g3]
        rw [e]
        clear e g3
        go_enter Try.func20, Try.ntmps20
        go_wp2_with fail
        go_ret
        exact ⟨rfl, Below.refl _ _⟩
      · have hb : ((a0 - 44032) % 28 == 0) = false := by simpa using g3
        have e : lineF a0 = 38 := by unfold lineF; rw [if_pos ⟨g1, g2⟩, if_neg g3]
        rw [e]
        clear e g3
        go_enter Try.func20, Try.ntmps20
        go_wp2_with fail
        go_ret
        exact ⟨rfl, Below.refl _ _⟩
    · have e : lineF a0 = findF linecTab a0 0 := by unfold lineF; rw [if_neg (by omega)]
      rw [e]
      clear e
      go_enter Try.func20, Try.ntmps20
      go_wp2_with fail
      refine (ref_lines_calls w).mono ?_
      rintro e w' ⟨rfl, rfl⟩
      go_wp2_with fail
      refine (find_lines 331 linecTab_ok.1 (by omega) a0 0 w _ (Below.refl _ _)).mono ?_
      rintro e w' ⟨rfl, rfl⟩
      go_wp2_with fail
      go_ret
      exact ⟨rfl, (Below.refl _ _).alloc (Nat.le_refl _) _⟩
  · have e : lineF a0 = findF linecTab a0 0 := by unfold lineF; rw [if_neg (by omega)]
    rw [e]
    clear e
    go_enter Try.func20, Try.ntmps20
    go_wp2_with fail
    refine (ref_lines_calls w).mono ?_
    rintro e w' ⟨rfl, rfl⟩
    go_wp2_with fail
    refine (find_lines 331 linecTab_ok.1 (by omega) a0 0 w _ (Below.refl _ _)).mono ?_
    rintro e w' ⟨rfl, rfl⟩
    go_wp2_with fail
    go_ret
    exact ⟨rfl, (Below.refl _ _).alloc (Nat.le_refl _) _⟩

/-- The class of a scalar is the document's: where the ranges rise, the first that holds a number is the first that doesn't end ahead of it. -/
theorem find_look : ∀ (t : List (Int × Int × Int)) (l r o : Int), risesFrom l t → findF t r o = look t o r
  | [], _, _, _, _ => rfl
  | x :: t, l, r, o, h => by
    obtain ⟨h1, h2, h3, h4, h5⟩ := h
    have ih := find_look t x.2.1 r o h5
    unfold findF look
    by_cases g1 : x.2.1 < r
    · rw [if_neg (by omega), if_pos g1]
      exact ih
    · rw [if_neg g1]
      by_cases g2 : x.1 ≤ r
      · rw [if_pos ⟨g2, by omega⟩, if_pos g2]
      · rw [if_neg (by omega), if_neg g2, ih]
        exact look_below t x.2.1 r o h5 (by omega)
where
  look_below : ∀ (t : List (Int × Int × Int)) (l r o : Int), risesFrom l t → r ≤ l → look t o r = o
  | [], _, _, _, _, _ => rfl
  | x :: t, l, r, o, h, hr => by
    obtain ⟨h1, h2, h3, h4, h5⟩ := h
    unfold look
    rw [if_neg (by omega), if_neg (by omega)]
theorem look_out : ∀ (t : List (Int × Int × Int)) (l r o : Int), risesFrom l t → (r < 0 ∨ 1114111 < r) → look t o r = o
  | [], _, _, _, _, _ => rfl
  | x :: t, l, r, o, h, hr => by
    obtain ⟨h1, h2, h3, h4, h5⟩ := h
    unfold look
    by_cases g1 : x.2.1 < r
    · rw [if_pos g1]
      exact look_out t x.2.1 r o h5 hr
    · rw [if_neg g1, if_neg (by omega)]
theorem class_line (r : Int) : classF r = lineF r := by
  unfold classF lineF
  split
  · rfl
  · rw [find_look linecTab (-1) r 0 linecTab_ok.2.1]
    unfold getF
    split
    · exact (look_out linecTab (-1) r 0 linecTab_ok.2.1 (by omega)).symm
    · rfl
end Go.Proofs.Ytphhgmhgkendaaa
