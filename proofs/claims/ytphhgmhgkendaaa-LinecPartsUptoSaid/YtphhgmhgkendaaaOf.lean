/-
  linec.Of and cellw.Of: each hands back a new slice with each scalar's class, or width, and changes nothing that was there. Condition: the text is at most 2^48, or 2^45, scalars long.
-/
import Derived.Test.YtphhgmhgkendaaaTr3
namespace Go.Proofs.Ytphhgmhgkendaaa
open Go.RowKit Go.Proofs.YtphhgmhgkendaaaW.PrintWords

/-- What Get answers. -/
def getF (t : List (Int × Int × Int)) (o r : Int) : Int := if r < 0 ∨ 1114111 < r then 0 else look t o r

/-- Where a scalar's value lies. -/
theorem BR.at_ {t : List (Int × Int × Int)} {o : Int} {w wr : World} {g kb : Nat} (h : BR t o w g kb 8704 wr) (n : Nat) (hn : n ≤ 1114111) :
    ∃ (bi ci bp np cp i bq cq : Nat), wr.cell? ⟨g, 0, none⟩ = some (.slice (some ⟨bi, 0, none⟩) 8704 ci) ∧ wr.cell? ⟨g, 1, none⟩ = some (.slice (some ⟨bp, 0, none⟩) np cp) ∧ wr.cell? ⟨bi, n / 128, none⟩ = some (.int .i64 i) ∧ i < np ∧
      wr.cell? ⟨bp, i, none⟩ = some (.slice (some ⟨bq, 0, none⟩) 128 cq) ∧ wr.cell? ⟨bq, n % 128, none⟩ = some (.int .u8 (look t o n)) := by
  obtain ⟨vi, vp, idx, vs, pages, kn, hT, _, _, _, hI⟩ := h
  have hil := hI.il
  obtain ⟨i, h1, h2⟩ := hI.at_ (n / 128) (by omega)
  have hip := (List.getElem?_eq_some_iff.1 h2).1
  have hiv : i < vs.length := by rw [hT.len]; exact hip
  obtain ⟨v, hv⟩ : ∃ v, vs[i]? = some v := ⟨_, List.getElem?_eq_getElem hiv⟩
  have hpage := hT.page i v _ hv h2
  obtain ⟨bi, ci, ei, _⟩ := own_some hT.index (by omega)
  obtain ⟨bp, cp, ep, _⟩ := own_some hT.rows (by omega)
  obtain ⟨bq, cq, eq, _⟩ := own_some hpage (by omega)
  subst ei ep eq
  refine ⟨bi, ci, bp, vs.length, cp, i, bq, cq, ?_, (blk_cell hT.blk 1).trans rfl, ?_, hiv, ?_, ?_⟩
  · rw [← hil]; exact (blk_cell hT.blk 0).trans rfl
  · rw [hT.index.cellAt _ (by omega)]
    simp [nums, h1]
  · rw [hT.rows.cellAt _ (by omega), hv]
  · rw [hpage.cellAt _ (by omega), pg, pageTo_at _ _ _ (by omega), if_pos (by omega)]
    congr 3
    omega

theorem BR.drewN {t : List (Int × Int × Int)} {o : Int} {w wr : World} {g kb m : Nat} (h : BR t o w g kb m wr) (n : Nat) : BR t o w g kb m (wr.drewN n) := by
  obtain ⟨vi, vp, idx, vs, pages, kn, hT, h1, h2, h3, hI⟩ := h
  exact ⟨vi, vp, idx, vs, pages, kn, hT.drewN n, h1, h2, ⟨h3.os, h3.tape, h3.output, h3.size, h3.block⟩, hI⟩

set_option maxHeartbeats 800000 in
theorem get_calls (t : List (Int × Int × Int)) (o r : Int) (w wr : World) (g kb : Nat) (h : BR t o w g kb 8704 wr) :
    Calls Try.prog 35 #[.pointer (some ⟨g, 0, none⟩), .int .i32 r] wr fun e w' => e = .returned (.int .u8 (getF t o r)) ∧ ∃ n, w' = wr.drewN n := by
  by_cases h0 : r < 0
  · have e : getF t o r = 0 := by simp [getF, h0]
    rw [e]
    clear e
    go_enter Try.func35, Try.ntmps35
    go_wp2
    go_ret
    exact ⟨rfl, 0, rfl⟩
  · by_cases h1 : 1114111 < r
    · have e : getF t o r = 0 := by simp [getF, h1]
      rw [e]
      clear e
      go_enter Try.func35, Try.ntmps35
      go_wp2
      go_ret
      exact ⟨rfl, 0, rfl⟩
    · obtain ⟨n, rfl⟩ := Int.eq_ofNat_of_zero_le (by omega : 0 ≤ r)
      have e : getF t o n = look t o n := by simp [getF]; omega
      obtain ⟨bi, ci, bp, np, cp, i, bq, cq, c0, c1, c2, hi, c3, c4⟩ := h.at_ n (by omega)
      rw [e]
      obtain ⟨x, hx⟩ : ∃ x, look t o n = x := ⟨_, rfl⟩
      rw [hx] at c4 ⊢
      clear e hx h
      have i0 : (0 : Int) ≤ (n : Int) / 128 := by omega
      have i1 : (n : Int) / 128 < 8704 := by omega
      have i2 : (0 : Int) ≤ (n : Int) % 128 := by omega
      have i3 : (n : Int) % 128 < 128 := by omega
      have i4 : (i : Int) < np := by omega
      go_enter Try.func35, Try.ntmps35
      go_wp2
      go_quiet (fail)
      go_wp2
      go_ret
      exact ⟨rfl, _, rfl⟩

/-! ### linec.Of -/
/-- A scalar's class. -/
def classF (r : Int) : Int := if 44032 ≤ r ∧ r ≤ 55203 then (if (r - 44032) % 28 = 0 then 37 else 38) else getF linecTab 0 r
def linec_Of.f (l : List Int) : Option (List Int) := if l.length ≤ 281474976710656 then some (l.map classF) else none

/-- The first k are done. -/
def doneTo (f : Int → Int) (l : List Int) (k : Nat) : List Int := (l.take k).map f ++ List.replicate (l.length - k) 0
theorem doneTo_zero (f : Int → Int) (l : List Int) : doneTo f l 0 = List.replicate l.length 0 := by simp [doneTo]
theorem doneTo_all (f : Int → Int) (l : List Int) : doneTo f l l.length = l.map f := by simp [doneTo]
theorem doneTo_length (f : Int → Int) (l : List Int) (k : Nat) (h : k ≤ l.length) : (doneTo f l k).length = l.length := by simp [doneTo]; omega
theorem doneTo_at (f : Int → Int) (l : List Int) (k : Nat) (h : k < l.length) : (doneTo f l k)[k]? = some 0 := by
  unfold doneTo
  rw [List.getElem?_append_right (by simp; omega), List.getElem?_replicate, if_pos (by simp; omega)]
theorem doneTo_set (f : Int → Int) (l : List Int) (k : Nat) (x : Int) (h : l[k]? = some x) : (doneTo f l k).set k (f x) = doneTo f l (k + 1) := by
  have hk := (List.getElem?_eq_some_iff.1 h).1
  unfold doneTo
  rw [List.set_append_right _ _ (by simp; omega), List.take_add_one, h]
  simp only [List.length_map, List.length_take, Option.toList_some, List.map_append, List.map_cons, List.map_nil, List.append_assoc, List.cons_append, List.nil_append]
  rw [show k - min k l.length = 0 by omega, show l.length - k = (l.length - (k + 1)) + 1 by omega, List.replicate_succ, List.set_cons_zero]

theorem BR.move {t : List (Int × Int × Int)} {o : Int} {w wr w1 : World} {g kb m : Nat} (h : BR t o w g kb m wr)
    (hm : ∀ (k : Nat) (cells : Array Value) (T : TypeId), wr.heap[k]? = some (.cells cells T (0, 0)) → (T = 83 ∨ T = 3 ∨ T = 49 ∨ T = 5 ∨ T = 84) → w1.heap[k]? = wr.heap[k]?) (hb : Below w.heap.size wr w1) : BR t o w g kb m w1 := by
  obtain ⟨vi, vp, idx, vs, pages, kn, hT, h1, h2, h3, hI⟩ := h
  exact ⟨vi, vp, idx, vs, pages, kn, hT.move (fun k c T hc hT' => hm k c T hc (by rcases hT' with h | h | h | h <;> simp [h])), (hm kb _ 84 h1 (by simp)).trans h1, h2, h3.trans hb, hI⟩
theorem BR.below {t : List (Int × Int × Int)} {o : Int} {w wr w1 : World} {g kb m : Nat} (h : BR t o w g kb m wr) (hb : Below wr.heap.size wr w1) : BR t o w g kb m w1 :=
  h.move (fun k _ _ hc _ => hb.block k (Array.getElem?_eq_some_iff.1 hc).1) (hb.mono (by obtain ⟨_, _, _, _, _, _, _, _, _, h3, _⟩ := h; exact h3.size))
theorem own_ranges {w : World} {base n : Nat} {v : Value} {t : List (Int × Int × Int)} (h : w.ownsRow base 32 3 v n (rgCells t)) (hn : t.length = n) (hp : 0 < n) : ∃ B c, v = .slice (some ⟨B, 0, none⟩) n c ∧ n ≤ c ∧ RgC w (some ⟨B, 0, none⟩) t := by
  obtain ⟨B, c, rfl, hc⟩ := own_some h hp
  refine ⟨B, c, rfl, hc, fun _ => ⟨B, 0, rfl, fun j a b v hj => ?_⟩⟩
  have hj' := (List.getElem?_eq_some_iff.1 hj).1
  have key : ∀ (t : List (Int × Int × Int)) (j : Nat), t[j]? = some (a, b, v) → (rgCells t)[j * 3]? = some (.int .i32 a) ∧ (rgCells t)[j * 3 + 1]? = some (.int .i32 b) ∧ (rgCells t)[j * 3 + 2]? = some (.int .u8 v) := by
    intro t
    induction t with
    | nil => intro j h; simp at h
    | cons x t ih =>
      intro j h
      cases j with
      | zero =>
        simp only [List.getElem?_cons_zero, Option.some.injEq] at h
        subst h
        simp [rgCells]
      | succ j =>
        have := ih j (by simpa using h)
        have e : rgCells (x :: t) = .int .i32 x.1 :: .int .i32 x.2.1 :: .int .u8 x.2.2 :: rgCells t := by simp [rgCells]
        rw [e, show (j + 1) * 3 = j * 3 + 1 + 1 + 1 by omega]
        simpa using this
  obtain ⟨k0, k1, k2⟩ := key t j hj
  simp only [Nat.zero_add]
  exact ⟨by rw [h.cellAt _ (by omega), k0], by rw [h.cellAt _ (by omega), k1], by rw [h.cellAt _ (by omega), k2]⟩
theorem info38 : (Try.prog.info? 38).map (fun i => (i.zero, i.size, i.bytes)) = some (some (.int .u8 0), 1, 1) := by kernel_rfl
theorem linecTab_ok : linecTab.length = 331 ∧ risesFrom (-1) linecTab ∧ (∀ x ∈ linecTab, x.1 ≤ x.2.1) ∧ (∀ x ∈ linecTab, 0 ≤ x.2.2 ∧ x.2.2 ≤ 255) :=
  ⟨by decide +kernel, risesB_iff _ _ (by decide +kernel), by decide +kernel, by decide +kernel⟩
theorem widthTab_ok : widthTab.length = 69 ∧ risesFrom (-1) widthTab ∧ (∀ x ∈ widthTab, x.1 ≤ x.2.1) ∧ (∀ x ∈ widthTab, 0 ≤ x.2.2 ∧ x.2.2 ≤ 255) :=
  ⟨by decide +kernel, risesB_iff _ _ (by decide +kernel), by decide +kernel, by decide +kernel⟩
/-- Build, as linec.Of and cellw.Of call it. -/
theorem build_at (tab : List (Int × Int × Int)) (n : Nat) (hok : tab.length = n ∧ risesFrom (-1) tab ∧ (∀ x ∈ tab, x.1 ≤ x.2.1) ∧ (∀ x ∈ tab, 0 ≤ x.2.2 ∧ x.2.2 ≤ 255)) (hn : n ≤ 1000) (hp : 0 < n) (o : Int) (ho : 0 ≤ o ∧ o ≤ 255) (base : Nat) (v : Value) (w : World) (h : w.ownsRow base 32 3 v n (rgCells tab)) :
    Calls Try.prog 34 #[v, .int .u8 o] w fun e w' => ∃ g kb, e = .returned (.tuple #[.pointer (some ⟨g, 0, none⟩), .nilIface]) ∧ BR tab o w g kb 8704 w' := by
  obtain ⟨h1, h2, h3, h4⟩ := hok
  obtain ⟨B, c, rfl, hc, hrg⟩ := own_ranges h h1 hp
  subst h1
  exact build_calls _ c tab o w hrg h2 hn hc (Lib.hid h3) (Lib.hid h4) ho

/-- An element of a slice of whole numbers that is read. -/
theorem c_at {k : IntKind} {w : World} {A : Option Addr} {n : Nat} {xs : List Int} (h : Kd.C (Kd.int k) w A n xs) {j : Nat} {x : Int} (hx : xs[j]? = some x) : ∃ ad, A = some ad ∧ w.cell? (ad.add j) = some (.int k x) := by
  have hj := (List.getElem?_eq_some_iff.1 hx).1
  obtain ⟨ad, e, hc⟩ := h.2.2 (by have := h.1; omega)
  obtain ⟨c, _, hK, hcell⟩ := hc j x hx
  have hK' : c = [Value.int k x] := hK
  subst hK'
  exact ⟨ad, e, by simpa [Kd.int, Kd.scalar] using hcell 0 _ rfl⟩
/-- What is owned as whole numbers, in the print's words. -/
theorem kd_own {k : IntKind} {e : Nat} {w : World} {base : Nat} {v : Value} {xs : List Int} (h : w.ownsRow base e 1 v xs.length (nums k xs)) : Kd.R (Kd.int k) e w base (fun _ => True) v xs := by
  refine ⟨fun _ _ => trivial, nums k xs, h, by simp [nums, Kd.int, Kd.scalar], fun j p hj => ?_⟩
  show ((nums k xs).drop (j * 1)).take 1 = [Value.int k p]
  have hl := (List.getElem?_eq_some_iff.1 hj)
  rw [Nat.mul_one, List.drop_eq_getElem_cons (by simpa [nums] using hl.1)]
  simp [nums, hl.2]
theorem made_zero (k : IntKind) (n : Nat) : (madeCells (Value.int k 0).cells (n * 1)).toList = nums k (List.replicate n 0) := by
  rw [Nat.mul_one]
  apply List.ext_getElem?
  intro i
  have hm : ∀ x : Nat, (#[Value.int k 0] : Array Value)[x % 1]! = .int k 0 := fun x => by
    rw [Nat.mod_one]
    rfl
  simp only [madeCells, nums, Value.cells, Array.toList_map, List.getElem?_map, List.map_replicate, List.size_toArray, List.length_cons, List.length_nil, Nat.zero_add, hm]
  by_cases hi : i < n
  · rw [List.getElem?_replicate, if_pos hi]
    simp [hi]
  · rw [List.getElem?_replicate, if_neg hi]
    simp
    omega

set_option maxRecDepth 100000 in
set_option maxHeartbeats 1600000 in
theorem linec_Of.calls (A0 : Option Addr) (c0 : Nat) (l0 : List Int) (r : List Int) (w : World) (hr0 : Kd.C (Kd.int .i32) w A0 l0.length l0) (_hc0 : l0.length ≤ c0) (h : linec_Of.f l0 = some r) :
    Calls Try.prog 19 #[.slice A0 l0.length c0] w fun e w' => ∃ v0_ : Value, e = .returned (v0_) ∧ Kd.R (Kd.int .u8) 38 w' w.heap.size (fun _ => True) v0_ r ∧ Below w.heap.size w w' := by
  obtain ⟨i0, hi, hz0, hz1, hz2⟩ := info_parts info38
  have HR0 := Lib.hid hr0
  have hlen : l0.length ≤ 281474976710656 := by
    unfold linec_Of.f at h
    split at h
    · assumption
    · cases h
  have hr : Hid (r = l0.map classF) := Lib.hid (by
    unfold linec_Of.f at h
    rw [if_pos hlen] at h
    exact (Option.some.inj h).symm)
  clear hr0 h
  go_enter Try.func19, Try.ntmps19
  go_wp2_with (go_at_call 16; refine (linec_Table_calls _).mono ?_; rintro e w1 ⟨v, rfl, hown, hB⟩; have HO := Lib.hid hown; have HB1 := Lib.hid hB; clear hown hB)
  refine (build_at linecTab 331 linecTab_ok (by omega) (by omega) 0 (by omega) _ _ _ HO.out).mono ?_
  rintro e w2 ⟨g, kb, rfl, hBR⟩
  have HBR := Lib.hid hBR
  clear hBR
  have hsz2 : w1.heap.size ≤ w2.heap.size := by
    obtain ⟨_, _, _, _, _, _, _, _, _, hb, _⟩ := HBR.out
    exact hb.size
  have hB2 : Below w1.heap.size w1 w2 := by
    obtain ⟨_, _, _, _, _, _, _, _, _, hb, _⟩ := HBR.out
    exact hb
  have hsz1 := HB1.out.size
  have HB2 := Lib.hid (HB1.out.trans (hB2.mono hsz1))
  clear hB2
  go_wp2_with (at_make; refine wpList_make_full _ rfl _ _ 36 rfl w.heap.size 38 i0 (.int .u8 0) 1 Try.underlying36 hi hz0 hz1 .i64 .i64 l0.length l0.length l0.length rfl rfl rfl rfl (by rw [hz2]; omega) (by unfold maxLen; omega) (by omega) ?_; intro w3 hown3 hgrow3)
  have hz : (madeCells (Value.int .u8 0).cells (l0.length * 1)).toList = nums .u8 (doneTo classF l0 0) := by
    rw [doneTo_zero]
    exact made_zero .u8 _
  rw [hz] at hown3
  have hB3 := (Below.refl w2.heap.size w2).grown hgrow3 (Nat.le_refl _) (by simp)
  clear hgrow3 hz
  go_loopw [18] (fun i wr => ∃ k : Nat, k ≤ l0.length ∧ i = .int .i64 k ∧ wr.ownsRow w.heap.size 38 1 (.slice (some ⟨w2.heap.size, 0, none⟩) l0.length l0.length) l0.length (nums .u8 (doneTo classF l0 k)) ∧ Below w2.heap.size w2 wr) (fun i _ => l0.length - (intOf i).toNat)
  case atStart => exact ⟨0, Nat.zero_le _, rfl, hown3, hB3⟩
  case round =>
    clear hown3 hB3
    obtain ⟨k, hk, rfl, hown, hB⟩ := hrel
    have HOWN := Lib.hid hown
    have HB := Lib.hid hB
    clear hown hB
    by_cases hlt : k < l0.length
    · obtain ⟨x, hx⟩ : ∃ x, l0[k]? = some x := ⟨_, List.getElem?_eq_getElem hlt⟩
      obtain ⟨ad, rfl, hcw⟩ := c_at HR0.out hx
      have hc : wr.cell? (ad.add k) = some (.int .i32 x) := by
        have hlt := World.block_lt_of_cell? w _ hcw
        rw [HB.out.cell (by omega), HB2.out.cell (by omega)]
        exact hcw
      have e0 : wr.cell? ⟨w2.heap.size, k, none⟩ = some (.int .u8 0) := by
        rw [HOWN.out.cellAt k (by omega)]
        simp [nums, doneTo_at _ _ _ hlt]
      have e1 : wr.frozen? ⟨w2.heap.size, k, none⟩ = false := HOWN.out.frozenAt k
      have HX := Lib.hid hx
      have hset : Hid (∀ y, y = classF x → (wr.setCell ⟨w2.heap.size, k, none⟩ (.int .u8 y)).ownsRow w.heap.size 38 1 (.slice (some ⟨w2.heap.size, 0, none⟩) l0.length l0.length) l0.length (nums .u8 (doneTo classF l0 (k + 1)))) := Lib.hid (by
        rintro y rfl
        have := (HOWN.out.stored k (.int .u8 (classF x))).1
        rw [← doneTo_set classF l0 k x hx]
        simpa [nums, List.map_set] using this)
      have hbel : Hid (∀ y, Below w2.heap.size w2 (wr.setCell ⟨w2.heap.size, k, none⟩ y)) := Lib.hid (fun y => HB.out.setCell (p := ⟨w2.heap.size, k, none⟩) (Nat.le_refl _) y)
      clear hx hcw
      by_cases g1 : 44032 ≤ x
      · by_cases g2 : x ≤ 55203
        · by_cases g3 : (x - 44032) % 28 = 0
          · have hb : ((x - 44032) % 28 == 0) = true := by simpa using g3
            have hf : Hid (37 = classF x) := Lib.hid (by unfold classF; rw [if_pos ⟨g1, g2⟩, if_pos g3])
            clear g3
            go_wp2_with fail
            go_roundw
            case rel => exact ⟨k + 1, by omega, by go_num, hset.out _ hf.out, hbel.out _⟩
            case measure => simp [intOf]; omega
          · have hb : ((x - 44032) % 28 == 0) = false := by simpa using g3
            have hf : Hid (38 = classF x) := Lib.hid (by unfold classF; rw [if_pos ⟨g1, g2⟩, if_neg g3])
            clear g3
            go_wp2_with fail
            go_roundw
            case rel => exact ⟨k + 1, by omega, by go_num, hset.out _ hf.out, hbel.out _⟩
            case measure => simp [intOf]; omega
        · have hf : Hid (getF linecTab 0 x = classF x) := Lib.hid (by unfold classF; rw [if_neg (by omega)])
          go_wp2_with fail
          refine (get_calls linecTab 0 x w1 wr g kb (HBR.out.below (HB.out))).mono ?_
          rintro e w' ⟨rfl, m, rfl⟩
          have e0' : (wr.drewN m).cell? ⟨w2.heap.size, k, none⟩ = some (.int .u8 0) := e0
          have e1' : (wr.drewN m).frozen? ⟨w2.heap.size, k, none⟩ = false := e1
          go_wp2_with fail
          go_roundw
          case rel => exact ⟨k + 1, by omega, by go_num, hset.out _ hf.out, (pw_below_drewN HB.out m).setCell (p := ⟨w2.heap.size, k, none⟩) (Nat.le_refl _) _⟩
          case measure => simp [intOf]; omega
      · have hf : Hid (getF linecTab 0 x = classF x) := Lib.hid (by unfold classF; rw [if_neg (by omega)])
        go_wp2_with fail
        refine (get_calls linecTab 0 x w1 wr g kb (HBR.out.below (HB.out))).mono ?_
        rintro e w' ⟨rfl, m, rfl⟩
        have e0' : (wr.drewN m).cell? ⟨w2.heap.size, k, none⟩ = some (.int .u8 0) := e0
        have e1' : (wr.drewN m).frozen? ⟨w2.heap.size, k, none⟩ = false := e1
        go_wp2_with fail
        go_roundw
        case rel => exact ⟨k + 1, by omega, by go_num, hset.out _ hf.out, (pw_below_drewN HB.out m).setCell (p := ⟨w2.heap.size, k, none⟩) (Nat.le_refl _) _⟩
        case measure => simp [intOf]; omega
    · have : k = l0.length := by omega
      subst this
      go_wp2
      go_ret
      refine ⟨_, rfl, ?_, HB2.out.trans (HB.out.mono (by omega))⟩
      have h1 := HOWN.out
      rw [doneTo_all] at h1
      rw [hr.out]
      refine kd_own ?_
      rw [List.length_map]
      exact h1

/-! ### cellw.Of -/
/-- How many cells a scalar takes. -/
def widthF (r : Int) : Int := getF widthTab 1 r
def cellw_Of.f (l : List Int) : Option (List Int) := if l.length ≤ 35184372088832 then some (l.map widthF) else none
theorem look_range {t : List (Int × Int × Int)} {o : Int} (hv : ∀ x ∈ t, 0 ≤ x.2.2 ∧ x.2.2 ≤ 255) (ho : 0 ≤ o ∧ o ≤ 255) (r : Int) : 0 ≤ look t o r ∧ look t o r ≤ 255 := by
  induction t with
  | nil => exact ho
  | cons x t ih =>
    unfold look
    split
    · exact ih (fun y hy => hv y (by simp [hy]))
    · split
      · exact hv x (by simp)
      · exact ho
theorem getF_range {t : List (Int × Int × Int)} {o : Int} (hv : ∀ x ∈ t, 0 ≤ x.2.2 ∧ x.2.2 ≤ 255) (ho : 0 ≤ o ∧ o ≤ 255) {r : Int} : 0 ≤ getF t o r ∧ getF t o r ≤ 255 := by
  unfold getF
  split
  · omega
  · exact look_range hv ho r

set_option maxRecDepth 100000 in
set_option maxHeartbeats 1600000 in
theorem cellw_Of.calls (A0 : Option Addr) (c0 : Nat) (l0 : List Int) (r : List Int) (w : World) (hr0 : Kd.C (Kd.int .i32) w A0 l0.length l0) (_hc0 : l0.length ≤ c0) (h : cellw_Of.f l0 = some r) :
    Calls Try.prog 38 #[.slice A0 l0.length c0] w fun e w' => ∃ v0_ : Value, e = .returned (v0_) ∧ Kd.R (Kd.int .i64) 3 w' w.heap.size (fun _ => True) v0_ r ∧ Below w.heap.size w w' := by
  obtain ⟨i0, hi, hz0, hz1, hz2⟩ := info_parts info3
  have HR0 := Lib.hid hr0
  have hlen : l0.length ≤ 35184372088832 := by
    unfold cellw_Of.f at h
    split at h
    · assumption
    · cases h
  have hr : Hid (r = l0.map widthF) := Lib.hid (by
    unfold cellw_Of.f at h
    rw [if_pos hlen] at h
    exact (Option.some.inj h).symm)
  clear hr0 h
  go_enter Try.func38, Try.ntmps38
  go_wp2_with (go_at_call 48; refine (cellw_Table_calls _).mono ?_; rintro e w1 ⟨v, rfl, hown, hB⟩; have HO := Lib.hid hown; have HB1 := Lib.hid hB; clear hown hB)
  refine (build_at widthTab 69 widthTab_ok (by omega) (by omega) 1 (by omega) _ _ _ HO.out).mono ?_
  rintro e w2 ⟨g, kb, rfl, hBR⟩
  have HBR := Lib.hid hBR
  clear hBR
  have hsz2 : w1.heap.size ≤ w2.heap.size := by
    obtain ⟨_, _, _, _, _, _, _, _, _, hb, _⟩ := HBR.out
    exact hb.size
  have hB2 : Below w1.heap.size w1 w2 := by
    obtain ⟨_, _, _, _, _, _, _, _, _, hb, _⟩ := HBR.out
    exact hb
  have hsz1 := HB1.out.size
  have HB2 := Lib.hid (HB1.out.trans (hB2.mono hsz1))
  clear hB2
  go_wp2_with (at_make; refine wpList_make_full _ rfl _ _ 69 rfl w.heap.size 3 i0 (.int .i64 0) 1 Try.underlying69 hi hz0 hz1 .i64 .i64 l0.length l0.length l0.length rfl rfl rfl rfl (by rw [hz2]; omega) (by unfold maxLen; omega) (by omega) ?_; intro w3 hown3 hgrow3)
  have hz : (madeCells (Value.int .i64 0).cells (l0.length * 1)).toList = nums .i64 (doneTo widthF l0 0) := by
    rw [doneTo_zero]
    exact made_zero .i64 _
  rw [hz] at hown3
  have hB3 := (Below.refl w2.heap.size w2).grown hgrow3 (Nat.le_refl _) (by simp)
  clear hgrow3 hz
  go_loopw [18] (fun i wr => ∃ k : Nat, k ≤ l0.length ∧ i = .int .i64 k ∧ wr.ownsRow w.heap.size 3 1 (.slice (some ⟨w2.heap.size, 0, none⟩) l0.length l0.length) l0.length (nums .i64 (doneTo widthF l0 k)) ∧ Below w2.heap.size w2 wr) (fun i _ => l0.length - (intOf i).toNat)
  case atStart => exact ⟨0, Nat.zero_le _, rfl, hown3, hB3⟩
  case round =>
    clear hown3 hB3
    obtain ⟨k, hk, rfl, hown, hB⟩ := hrel
    have HOWN := Lib.hid hown
    have HB := Lib.hid hB
    clear hown hB
    by_cases hlt : k < l0.length
    · obtain ⟨x, hx⟩ : ∃ x, l0[k]? = some x := ⟨_, List.getElem?_eq_getElem hlt⟩
      obtain ⟨ad, rfl, hcw⟩ := c_at HR0.out hx
      have hc : wr.cell? (ad.add k) = some (.int .i32 x) := by
        have hlt := World.block_lt_of_cell? w _ hcw
        rw [HB.out.cell (by omega), HB2.out.cell (by omega)]
        exact hcw
      have e0 : wr.cell? ⟨w2.heap.size, k, none⟩ = some (.int .i64 0) := by
        rw [HOWN.out.cellAt k (by omega)]
        simp [nums, doneTo_at _ _ _ hlt]
      have e1 : wr.frozen? ⟨w2.heap.size, k, none⟩ = false := HOWN.out.frozenAt k
      have HX := Lib.hid hx
      have hset : Hid (∀ y, y = widthF x → (wr.setCell ⟨w2.heap.size, k, none⟩ (.int .i64 y)).ownsRow w.heap.size 3 1 (.slice (some ⟨w2.heap.size, 0, none⟩) l0.length l0.length) l0.length (nums .i64 (doneTo widthF l0 (k + 1)))) := Lib.hid (by
        rintro y rfl
        have := (HOWN.out.stored k (.int .i64 (widthF x))).1
        rw [← doneTo_set widthF l0 k x hx]
        simpa [nums, List.map_set] using this)
      have hbel : Hid (∀ y, Below w2.heap.size w2 (wr.setCell ⟨w2.heap.size, k, none⟩ y)) := Lib.hid (fun y => HB.out.setCell (p := ⟨w2.heap.size, k, none⟩) (Nat.le_refl _) y)
      clear hx hcw
      obtain ⟨y, hy⟩ : ∃ y, getF widthTab 1 x = y := ⟨_, rfl⟩
      have hf : Hid (y = widthF x) := Lib.hid (by rw [← hy]; rfl)
      obtain ⟨y0, y1⟩ : 0 ≤ y ∧ y ≤ 255 := by rw [← hy]; exact getF_range widthTab_ok.2.2.2 (by omega)
      have HY := Lib.hid hy
      clear hy
      go_wp2_with fail
      refine (get_calls widthTab 1 x w1 wr g kb (HBR.out.below (HB.out))).mono ?_
      rw [HY.out]
      rintro e w' ⟨rfl, m, rfl⟩
      have e0' : (wr.drewN m).cell? ⟨w2.heap.size, k, none⟩ = some (.int .i64 0) := e0
      have e1' : (wr.drewN m).frozen? ⟨w2.heap.size, k, none⟩ = false := e1
      go_wp2_with fail
      go_roundw
      case rel => exact ⟨k + 1, by omega, by go_num, hset.out _ hf.out, (pw_below_drewN HB.out m).setCell (p := ⟨w2.heap.size, k, none⟩) (Nat.le_refl _) _⟩
      case measure => simp [intOf]; omega
    · have : k = l0.length := by omega
      subst this
      go_wp2
      go_ret
      refine ⟨_, rfl, ?_, HB2.out.trans (HB.out.mono (by omega))⟩
      have h1 := HOWN.out
      rw [doneTo_all] at h1
      rw [hr.out]
      refine kd_own ?_
      rw [List.length_map]
      exact h1
end Go.Proofs.Ytphhgmhgkendaaa
