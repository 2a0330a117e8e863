/-
  Parts of package trie: Check of ranges that rise tells nothing; page finds a page that is the same, or lays it, and changes nothing but the trie's own memory. Conditions: the ranges rise and lie where the slice says; the trie lies as TrieW says.
-/
import Derived.Test.YtphhgmhgkendaaaTr1
namespace Go.Proofs.Ytphhgmhgkendaaa
open Go.RowKit Go.Proofs.YtphhgmhgkendaaaW.PrintWords

/-- Ranges that rise, behind a scalar. -/
def risesFrom : Int → List (Int × Int × Int) → Prop
  | _, [] => True
  | l, x :: t => l < x.1 ∧ 0 ≤ x.1 ∧ x.1 ≤ x.2.1 ∧ x.2.1 ≤ 1114111 ∧ risesFrom x.2.1 t
def risesB : Int → List (Int × Int × Int) → Bool
  | _, [] => true
  | l, x :: t => decide (l < x.1) && decide (0 ≤ x.1) && decide (x.1 ≤ x.2.1) && decide (x.2.1 ≤ 1114111) && risesB x.2.1 t
theorem risesB_iff : ∀ (t : List (Int × Int × Int)) (l : Int), risesB l t = true → risesFrom l t
  | [], _, _ => trivial
  | x :: t, l, h => by
    simp only [risesB, Bool.and_eq_true, decide_eq_true_eq] at h
    exact ⟨h.1.1.1.1, h.1.1.1.2, h.1.1.2, h.1.2, risesB_iff t _ h.2⟩
theorem rises_drop {t : List (Int × Int × Int)} {k : Nat} {a b c l : Int} (h : t[k]? = some (a, b, c)) (hr : risesFrom l (t.drop k)) : l < a ∧ 0 ≤ a ∧ a ≤ b ∧ b ≤ 1114111 ∧ risesFrom b (t.drop (k + 1)) := by
  obtain ⟨hk, e⟩ := List.getElem?_eq_some_iff.1 h
  rw [List.drop_eq_getElem_cons hk, e] at hr
  exact hr

set_option maxRecDepth 100000 in
set_option maxHeartbeats 800000 in
theorem check_calls (A : Option Addr) (c : Nat) (t : List (Int × Int × Int)) (w : World) (h : RgC w A t) (hr : risesFrom (-1) t) (hl : t.length ≤ 1000) :
    Calls Try.prog 18 #[.slice A t.length c] w fun e w' => e = .returned .nilIface ∧ Below w.heap.size w w' := by
  have HC := Lib.hid h
  have HR := Lib.hid hr
  clear h hr
  go_enter Try.func18, Try.ntmps18
  go_wp2
  go_loopw [3, 8] (fun v3 v8 wr => ∃ (l : Int) (k : Nat), k ≤ t.length ∧ v3 = .int .i32 l ∧ v8 = .int .i64 k ∧ Below w.heap.size w wr ∧ Hid (risesFrom l (t.drop k))) (fun _ i _ => t.length - (intOf i).toNat)
  case atStart => exact ⟨-1, 0, Nat.zero_le _, rfl, rfl, Below.refl _ _, HR⟩
  case round =>
    clear HR
    obtain ⟨l, k, hk, rfl, rfl, hB, hR⟩ := hrel
    have HB := Lib.hid hB
    clear hB
    by_cases hlt : k < t.length
    · obtain ⟨a, b, v, hx⟩ : ∃ a b v, t[k]? = some (a, b, v) := by
        obtain ⟨x, hx⟩ : ∃ x, t[k]? = some x := ⟨_, List.getElem?_eq_getElem (by omega)⟩
        exact ⟨x.1, x.2.1, x.2.2, hx⟩
      obtain ⟨B, q, rfl, hc⟩ := HC.out (by intro e; rw [e] at hlt; simp at hlt)
      obtain ⟨w0, w1, w2⟩ := hc k a b v hx
      clear hc
      have c0 : wr.cell? ⟨B, q + k * 3, none⟩ = some (.int .i32 a) := pw_cell_below HB.out w0
      have c1 : wr.cell? ⟨B, q + k * 3 + 1, none⟩ = some (.int .i32 b) := pw_cell_below HB.out w1
      have c2 : wr.cell? ⟨B, q + k * 3 + 2, none⟩ = some (.int .u8 v) := pw_cell_below HB.out w2
      clear w0 w1 w2
      obtain ⟨r1, r2, r3, r4, r5⟩ := rises_drop hx hR.out
      have R5 := Lib.hid r5
      clear r5 hx
      go_wp2_with fail
      go_roundw
      case rel => exact ⟨b, k + 1, by omega, rfl, by go_num, HB.out.alloc HB.out.size _, R5⟩
      case measure => simp [intOf]; omega
    · have : k = t.length := by omega
      subst this
      go_wp2
      go_ret
      exact ⟨rfl, HB.out⟩

/-! ### The trie in memory -/
/-- A trie at block g, all of whose rows lie from base on: its index, its pages (the slices that stand in the row of pages: vs). -/
structure TrieW (w : World) (base g : Nat) (vi vp : Value) (idx : List Int) (vs : List Value) (pages : List (List Int)) : Prop where
  blk : w.heap[g]? = some (.cells #[vi, vp] 83 (0, 0))
  hg : base ≤ g
  index : w.ownsRow base 3 1 vi idx.length (nums .i64 idx)
  rows : w.ownsRow base 49 1 vp vs.length vs
  len : vs.length = pages.length
  page : ∀ (j : Nat) (v : Value) (p : List Int), vs[j]? = some v → pages[j]? = some p → w.ownsRow base 5 1 v 128 (nums .u8 p)

/-- What the trie's own methods leave as it was: all below base, and the row of known pages. -/
structure Tr (base : Nat) (w w' : World) : Prop where
  os : w'.os = w.os
  tape : w'.tape = w.tape
  output : w'.output = w.output
  size : w.heap.size ≤ w'.heap.size
  block : ∀ k, k < w.heap.size → (k < base ∨ ∃ cells, w.heap[k]? = some (.cells cells 84 (0, 0))) → w'.heap[k]? = w.heap[k]?

theorem Tr.refl (base : Nat) (w : World) : Tr base w w := ⟨rfl, rfl, rfl, Nat.le_refl _, fun _ _ _ => rfl⟩
theorem Tr.trans {base : Nat} {a b c : World} (h : Tr base a b) (k : Tr base b c) : Tr base a c :=
  ⟨k.os.trans h.os, k.tape.trans h.tape, k.output.trans h.output, Nat.le_trans h.size k.size, fun i hi hh => by
    have e := h.block i hi hh
    refine (k.block i (Nat.lt_of_lt_of_le hi h.size) ?_).trans e
    rcases hh with hh | ⟨cells, hc⟩
    · exact .inl hh
    · exact .inr ⟨cells, e.trans hc⟩⟩
theorem Tr.of_below {base : Nat} {w w' : World} (h : Below w.heap.size w w') : Tr base w w' := ⟨h.os, h.tape, h.output, h.size, fun k hk _ => h.block k hk⟩
theorem Tr.drewN {base : Nat} {w w' : World} (h : Tr base w w') (n : Nat) : Tr base w (w'.drewN n) := h.trans ⟨rfl, rfl, rfl, Nat.le_refl _, fun _ _ _ => rfl⟩
theorem Tr.drew {base : Nat} {w w' : World} (h : Tr base w w') : Tr base w w'.drew := h.trans ⟨rfl, rfl, rfl, Nat.le_refl _, fun _ _ _ => rfl⟩
theorem Tr.alloc {base : Nat} {w w' : World} (h : Tr base w w') (o : Obj) : Tr base w (w'.alloc o) := h.trans (.of_below (below_alloc (Below.refl _ _) o))
theorem Tr.below {base : Nat} {w w' : World} (h : Tr base w w') (hb : base ≤ w.heap.size) : Below base w w' := ⟨h.os, h.tape, h.output, h.size, fun k hk => h.block k (by omega) (.inl hk)⟩
/-- A store into a block of another type. -/
theorem Tr.set_ {base : Nat} {w w' : World} (h : Tr base w w') {g j : Nat} {cells : Array Value} {T : TypeId} (hb : w'.heap[g]? = some (.cells cells T (0, 0))) (hT : T ≠ 84) (hg : base ≤ g) (u : Value) : Tr base w (w'.setCell ⟨g, j, none⟩ u) :=
  h.trans ⟨rfl, rfl, rfl, by simp [World.setCell], fun k _ hk => Below.heap_setCell _ _ _ _ (by
    rintro rfl
    rcases hk with hk | ⟨c2, hc⟩
    · exact absurd hk (by simp; omega)
    · rw [hc] at hb
      injection hb with hb
      injection hb with _ hb
      exact hT hb.symm)⟩
/-- A law that has written one row, of another type, or none. -/
theorem Tr.grown {base : Nat} {w w' w1 : World} (h : Tr base w w') {e : TypeId} {size n : Nat} {v : Value} {xs : List Value} (ho : w'.ownsRow base e size v n xs) (he : e ≠ 84) (hg : w'.grownBy w1 v.ownBlock) : Tr base w w1 :=
  h.trans ⟨hg.os, hg.tape, hg.output, hg.size, fun k hk hh => hg.block k hk (fun e' => by
    rcases hh with hh | ⟨c2, hc⟩
    · have := own_base ho k e'.symm; omega
    · obtain ⟨c3, hc3⟩ := own_typed ho k e'.symm
      rw [hc] at hc3
      injection hc3 with hc3
      injection hc3 with _ hc3
      exact he hc3.symm)⟩

/-- The trie is where it was: no block of a type of its own has been turned. -/
theorem TrieW.move {w w1 : World} {base g : Nat} {vi vp : Value} {idx : List Int} {vs : List Value} {pages : List (List Int)} (h : TrieW w base g vi vp idx vs pages)
    (hm : ∀ (k : Nat) (cells : Array Value) (T : TypeId), w.heap[k]? = some (.cells cells T (0, 0)) → (T = 83 ∨ T = 3 ∨ T = 49 ∨ T = 5) → w1.heap[k]? = w.heap[k]?) : TrieW w1 base g vi vp idx vs pages where
  blk := (hm g _ 83 h.blk (by simp)).trans h.blk
  hg := h.hg
  index := own_move h.index (fun k hk => by obtain ⟨c, hc⟩ := own_typed h.index k hk; exact hm k c 3 hc (by simp))
  rows := own_move h.rows (fun k hk => by obtain ⟨c, hc⟩ := own_typed h.rows k hk; exact hm k c 49 hc (by simp))
  len := h.len
  page := fun j v p hv hp => own_move (h.page j v p hv hp) (fun k hk => by obtain ⟨c, hc⟩ := own_typed (h.page j v p hv hp) k hk; exact hm k c 5 hc (by simp))
theorem TrieW.below {w w1 : World} {base g : Nat} {vi vp : Value} {idx : List Int} {vs : List Value} {pages : List (List Int)} (h : TrieW w base g vi vp idx vs pages) (hb : Below w.heap.size w w1) : TrieW w1 base g vi vp idx vs pages :=
  h.move (fun k _ _ hc _ => hb.block k (Array.getElem?_eq_some_iff.1 hc).1)
theorem TrieW.drewN {w : World} {base g : Nat} {vi vp : Value} {idx : List Int} {vs : List Value} {pages : List (List Int)} (h : TrieW w base g vi vp idx vs pages) (n : Nat) : TrieW (w.drewN n) base g vi vp idx vs pages := h.move (fun _ _ _ _ _ => rfl)

theorem ty_ne {w : World} {a b : Nat} {c1 c2 : Array Value} {T1 T2 : TypeId} (h1 : w.heap[a]? = some (.cells c1 T1 (0, 0))) (h2 : w.heap[b]? = some (.cells c2 T2 (0, 0))) (h : T1 ≠ T2) : a ≠ b := by
  rintro rfl
  rw [h1] at h2
  injection h2 with h2
  injection h2 with _ h2
  exact h h2

/-- A page more: the row of pages has been appended to, and stored in the trie. -/
theorem TrieW.addPage {w w1 : World} {base g : Nat} {vi vp vp' v : Value} {idx : List Int} {vs : List Value} {pages : List (List Int)} {p : List Int} (h : TrieW w base g vi vp idx vs pages)
    (hg : w.grownBy w1 vp.ownBlock) (ho : w1.ownsRow base 49 1 vp' (vs.length + 1) (vs ++ [v])) (hp : w.ownsRow base 5 1 v 128 (nums .u8 p)) :
    TrieW (w1.setCell ⟨g, 1, none⟩ vp') base g vi vp' idx (vs ++ [v]) (pages ++ [p]) := by
  have far : ∀ (k : Nat) (cells : Array Value) (T : TypeId), w.heap[k]? = some (.cells cells T (0, 0)) → (T = 83 ∨ T = 3 ∨ T = 5) → w1.heap[k]? = w.heap[k]? := fun k cells T hc hT =>
    hg.block k (Array.getElem?_eq_some_iff.1 hc).1 (fun e => by
      obtain ⟨c2, hc2⟩ := own_typed h.rows k e.symm
      exact ty_ne (T2 := 49) hc hc2 (by rcases hT with h | h | h <;> rw [h] <;> decide) rfl)
  have hb1 : w1.heap[g]? = some (.cells #[vi, vp] 83 (0, 0)) := (far g _ 83 h.blk (by simp)).trans h.blk
  have far2 : ∀ (k : Nat) (cells : Array Value) (T : TypeId), w.heap[k]? = some (.cells cells T (0, 0)) → (T = 3 ∨ T = 5) → (w1.setCell ⟨g, 1, none⟩ vp').heap[k]? = w.heap[k]? := fun k cells T hc hT =>
    (Below.heap_setCell w1 ⟨g, 1, none⟩ vp' k (ty_ne (T2 := 83) hc h.blk (by rcases hT with h | h <;> rw [h] <;> decide))).trans (far k cells T hc (.inr hT))
  have own5 : ∀ (v : Value) (p : List Int), w.ownsRow base 5 1 v 128 (nums .u8 p) → (w1.setCell ⟨g, 1, none⟩ vp').ownsRow base 5 1 v 128 (nums .u8 p) := fun v p hv =>
    own_move hv (fun k hk => by obtain ⟨c, hc⟩ := own_typed hv k hk; exact far2 k c 5 hc (by simp))
  refine ⟨?_, h.hg, own_move h.index (fun k hk => by obtain ⟨c, hc⟩ := own_typed h.index k hk; exact far2 k c 3 hc (by simp)), ?_, by simp [h.len], ?_⟩
  · exact blk_set hb1 1 vp'
  · rw [List.length_append]
    exact own_move ho (fun k hk => by
      obtain ⟨c, hc⟩ := own_typed ho k hk
      exact Below.heap_setCell w1 ⟨g, 1, none⟩ vp' k (ty_ne hc hb1 (by decide)))
  · intro j u q hu hq
    rcases Nat.lt_or_ge j vs.length with hj | hj
    · rw [List.getElem?_append_left hj] at hu
      rw [List.getElem?_append_left (by rw [← h.len]; exact hj)] at hq
      exact own5 u q (h.page j u q hu hq)
    · rw [List.getElem?_append_right hj] at hu
      rw [List.getElem?_append_right (by rw [← h.len]; exact hj)] at hq
      have h0 := (List.getElem?_eq_some_iff.1 hu).1
      simp only [List.length_cons, List.length_nil] at h0
      have e0 : j - vs.length = 0 := by omega
      have e1 : j - pages.length = 0 := by rw [← h.len]; exact e0
      rw [e0] at hu
      rw [e1] at hq
      simp only [List.getElem?_cons_zero, Option.some.injEq] at hu hq
      subst hu hq
      exact own5 _ _ hp
/-- A place more in the index. -/
theorem TrieW.addIdx {w w1 : World} {base g : Nat} {vi vp vi' : Value} {idx : List Int} {x : Int} {vs : List Value} {pages : List (List Int)} (h : TrieW w base g vi vp idx vs pages)
    (hg : w.grownBy w1 vi.ownBlock) (ho : w1.ownsRow base 3 1 vi' (idx.length + 1) (nums .i64 idx ++ [.int .i64 x])) :
    TrieW (w1.setCell ⟨g, 0, none⟩ vi') base g vi' vp (idx ++ [x]) vs pages := by
  have far : ∀ (k : Nat) (cells : Array Value) (T : TypeId), w.heap[k]? = some (.cells cells T (0, 0)) → (T = 83 ∨ T = 49 ∨ T = 5) → w1.heap[k]? = w.heap[k]? := fun k cells T hc hT =>
    hg.block k (Array.getElem?_eq_some_iff.1 hc).1 (fun e => by
      obtain ⟨c2, hc2⟩ := own_typed h.index k e.symm
      exact ty_ne (T2 := 3) hc hc2 (by rcases hT with h | h | h <;> rw [h] <;> decide) rfl)
  have hb1 : w1.heap[g]? = some (.cells #[vi, vp] 83 (0, 0)) := (far g _ 83 h.blk (by simp)).trans h.blk
  have far2 : ∀ (k : Nat) (cells : Array Value) (T : TypeId), w.heap[k]? = some (.cells cells T (0, 0)) → (T = 49 ∨ T = 5) → (w1.setCell ⟨g, 0, none⟩ vi').heap[k]? = w.heap[k]? := fun k cells T hc hT =>
    (Below.heap_setCell w1 ⟨g, 0, none⟩ vi' k (ty_ne (T2 := 83) hc h.blk (by rcases hT with h | h <;> rw [h] <;> decide))).trans (far k cells T hc (.inr hT))
  refine ⟨blk_set hb1 0 vi', h.hg, ?_, own_move h.rows (fun k hk => by obtain ⟨c, hc⟩ := own_typed h.rows k hk; exact far2 k c 49 hc (by simp)), h.len, ?_⟩
  · rw [List.length_append, nums_append]
    exact own_move ho (fun k hk => by
      obtain ⟨c, hc⟩ := own_typed ho k hk
      exact Below.heap_setCell w1 ⟨g, 0, none⟩ vi' k (ty_ne hc hb1 (by decide)))
  · intro j u q hu hq
    exact own_move (h.page j u q hu hq) (fun k hk => by obtain ⟨c, hc⟩ := own_typed (h.page j u q hu hq) k hk; exact far2 k c 5 hc (by simp))

theorem own_some {w : World} {base : Nat} {e : TypeId} {size n : Nat} {v : Value} {xs : List Value} (h : w.ownsRow base e size v n xs) (hn : 0 < n) : ∃ g cap, v = .slice (some ⟨g, 0, none⟩) n cap ∧ n ≤ cap := by
  rcases h.2 with ⟨_, h0⟩ | ⟨g, cap, cur, rfl, _, _, hc, _⟩
  · omega
  · exact ⟨g, cap, rfl, hc⟩
theorem own_page {w : World} {base b cap : Nat} {p : List Int} (h : w.ownsRow base 5 1 (.slice (some ⟨b, 0, none⟩) 128 cap) 128 (nums .u8 p)) (j : Nat) (hj : j < 128) : w.cell? ⟨b, j, none⟩ = some (.int .u8 (p.getD j 0)) := by
  have hl : p.length = 128 := by simpa [nums] using h.1
  rw [h.cellAt j (by omega)]
  simp [nums, List.getElem?_eq_getElem (show j < p.length by omega)]
theorem pages_eq {p q : List Int} (hp : p.length = 128) (hq : q.length = 128) (h : ∀ j, j < 128 → p.getD j 0 = q.getD j 0) : p = q := by
  apply List.ext_getElem (by omega)
  intro i h1 h2
  have := h i (by omega)
  simpa [List.getD_eq_getElem?_getD, List.getElem?_eq_getElem h1, List.getElem?_eq_getElem h2] using this
theorem info49 : (Try.prog.info? 49).map (fun i => (i.zero, i.size, i.bytes)) = some (some (.slice none 0 0), 1, 24) := by kernel_rfl
theorem info3 : (Try.prog.info? 3).map (fun i => (i.zero, i.size, i.bytes)) = some (some (.int .i64 0), 1, 8) := by kernel_rfl

set_option maxRecDepth 100000 in
set_option maxHeartbeats 1600000 in
theorem page_calls (base g b : Nat) (vi vp : Value) (idx : List Int) (vs : List Value) (pages : List (List Int)) (p : List Int) (w : World) (hT : TrieW w base g vi vp idx vs pages)
    (hp : w.ownsRow base 5 1 (.slice (some ⟨b, 0, none⟩) 128 128) 128 (nums .u8 p)) (hb : base ≤ w.heap.size) (hn : vs.length ≤ 100000) :
    Calls Try.prog 46 #[.pointer (some ⟨g, 0, none⟩), .slice (some ⟨b, 0, none⟩) 128 128] w fun e w' => ∃ (i : Nat) (vp' : Value) (vs' : List Value) (pages' : List (List Int)),
      e = .returned (.int .i64 i) ∧ TrieW w' base g vi vp' idx vs' pages' ∧ (pages' = pages ∨ pages' = pages ++ [p]) ∧ pages'[i]? = some p ∧ Tr base w w' := by
  obtain ⟨i0, hi, hz0, hz1, hz2⟩ := info_parts info49
  have HT := Lib.hid hT
  have HP := Lib.hid hp
  have hpl : Hid (p.length = 128) := Lib.hid (by simpa [nums] using hp.1)
  have d1 : w.cell? ⟨g, 1, none⟩ = some vp := (blk_cell hT.blk 1).trans rfl
  clear hT hp
  go_enter Try.func46, Try.ntmps46
  · obtain ⟨A, cp, rfl⟩ : ∃ A cp, vp = .slice A vs.length cp := by
      rcases HT.out.rows.2 with ⟨h1, h2⟩ | ⟨gg, cap, cur, h1, _⟩
      · exact ⟨none, 0, by rw [h1, h2]⟩
      · exact ⟨_, _, h1⟩
    go_wp2
    go_loopw [12] (fun i wr => ∃ k : Nat, k ≤ vs.length ∧ i = .int .i64 k ∧ ∃ n, wr = w.drewN n) (fun i _ => vs.length - (intOf i).toNat)
    case atStart => exact ⟨0, Nat.zero_le _, rfl, 0, rfl⟩
    case round =>
      obtain ⟨k, hk, rfl, n, rfl⟩ := hrel
      by_cases hlt : k < vs.length
      · obtain ⟨gp, hgp⟩ : ∃ gp, A = some ⟨gp, 0, none⟩ := by
          obtain ⟨gp, cc, h1, _⟩ := own_some HT.out.rows (by omega)
          injection h1 with h1
          exact ⟨gp, h1⟩
        subst hgp
        obtain ⟨v, hv⟩ : ∃ v, vs[k]? = some v := ⟨_, List.getElem?_eq_getElem hlt⟩
        obtain ⟨q, hq⟩ : ∃ q, pages[k]? = some q := ⟨_, List.getElem?_eq_getElem (by rw [← HT.out.len]; exact hlt)⟩
        have hown := HT.out.page k v q hv hq
        obtain ⟨bq, cq, rfl, hcq⟩ := own_some hown (by omega)
        have c1 : w.cell? ⟨gp, k, none⟩ = some (.slice (some ⟨bq, 0, none⟩) 128 cq) := by rw [HT.out.rows.cellAt k (by omega), hv]
        have HV := Lib.hid hv
        have HQ := Lib.hid hq
        have HO := Lib.hid hown
        have hql : Hid (q.length = 128) := Lib.hid (by simpa [nums] using hown.1)
        clear hv hq hown
        obtain ⟨f1, hf1⟩ : ∃ f1 : Nat → Int, f1 = fun j => p.getD j 0 := ⟨_, rfl⟩
        obtain ⟨f2, hf2⟩ : ∃ f2 : Nat → Int, f2 = fun j => q.getD j 0 := ⟨_, rfl⟩
        have E1 : Hid (∀ j, j < 128 → (w.drewN n).cell? ⟨b, j, none⟩ = some (.int .u8 (f1 j))) := Lib.hid (fun j hj => by rw [hf1]; exact own_page HP.out j hj)
        have E2 : Hid (∀ j, j < 128 → (w.drewN n).cell? ⟨bq, j, none⟩ = some (.int .u8 (f2 j))) := Lib.hid (fun j hj => by rw [hf2]; exact own_page HO.out j hj)
        have HF1 := Lib.hid hf1
        have HF2 := Lib.hid hf2
        clear hf1 hf2
        by_cases he : eqF f1 f2 = true
        · go_wp2_with (go_at_call 52; refine (equal_calls b bq 128 cq f1 f2 _ E1.out E2.out).mono ?_; rintro e w' ⟨rfl, m, rfl⟩)
          go_ret
          refine ⟨k, _, vs, pages, rfl, HT.out.drewN _, .inl rfl, ?_, (Tr.refl _ _).drewN _⟩
          rw [HQ.out, pages_eq hpl.out hql.out (by have := eqF_true.1 he; rw [HF1.out, HF2.out] at this; exact this)]
        · have he' : eqF f1 f2 = false := by simpa using he
          clear he
          go_wp2_with (go_at_call 52; refine (equal_calls b bq 128 cq f1 f2 _ E1.out E2.out).mono ?_; rintro e w' ⟨rfl, m, rfl⟩)
          go_roundw
          case rel => exact ⟨k + 1, by omega, by go_num, _, rfl⟩
          case measure => simp [intOf]; omega
      · have : k = vs.length := by omega
        subst this
        have hl := HT.out.rows
        have HL := Lib.hid hl
        clear hl
        go_wp2_with (at_builtin; refine wpList_append_own _ rfl _ _ 81 rfl base 49 i0 (.slice none 0 0) 1 24 Try.underlying81 hi hz0 hz1 hz2 rfl (by decide) _ _ _ rfl (by exact HL.out.alloc _) ⟨w.heap.size, 0, none⟩ 1 1 [.slice (some ⟨b, 0, none⟩) 128 128] rfl rfl ?c1 ?c2 ?c3 ?c4 ?c5 ?_)
        case c1 =>
          intro j u hj
          match j, hj with
          | 0, hj => simp at hj; subst hj; exact (World.cell?_alloc_at _ _ _ 0 rfl).trans rfl
        case c2 => first | rfl | (intro u hu; simp at hu; subst hu; rfl) | simp [Value.oneCell']
        case c3 => unfold maxLen; omega
        case c4 => omega
        case c5 => simp; omega
        intro v' w1 hown' hgrow _
        obtain ⟨g2, cap2, hv', _⟩ := own_some hown' (by omega)
        have hW := (HT.out.drewN n).below (below_alloc (Below.refl _ _) (.cells #[.slice (some ⟨b, 0, none⟩) 128 128] 49))
        have hb1 := blk_grown hW.blk hgrow (own_ne hW.rows hW.blk (by decide))
        have e1 : w1.cell? ⟨g, 1, none⟩ = some (.slice A vs.length cp) := (blk_cell hb1 1).trans rfl
        have e2 : w1.frozen? ⟨g, 1, none⟩ = false := blk_frozen hb1 1
        have hfin := hW.addPage hgrow hown' (pw_own_below (show (w.drewN n).ownsRow base 5 1 _ 128 _ from HP.out) (below_alloc (Below.refl _ _) _))
        have htr : Tr base w w1 := (((Tr.refl base w).drewN n).alloc _).grown hW.rows (by decide) hgrow
        have htr2 := htr.set_ (j := 1) hb1 (by decide) hW.hg v'
        have HFIN := Lib.hid hfin
        have HTR := Lib.hid htr2
        clear hfin htr htr2 hW hgrow hown' d1
        rw [hv']
        rw [hv'] at HFIN HTR
        have HB1 := Lib.hid hb1
        clear hb1 hv'
        go_wp2
        go_ret
        refine ⟨vs.length, _, _, _, ?_, HFIN.out, .inr rfl, ?_, HTR.out⟩
        · congr 2
        · rw [List.getElem?_append_right (by rw [HT.out.len]; exact Nat.le_refl _), HT.out.len, Nat.sub_self]
          rfl
end Go.Proofs.Ytphhgmhgkendaaa
