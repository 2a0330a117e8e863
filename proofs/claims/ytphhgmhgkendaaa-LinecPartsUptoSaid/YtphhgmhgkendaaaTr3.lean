/-
  trie.Build, of ranges that rise: a trie each of whose pages holds what the ranges say (BR at 8704 blocks), and no error. Conditions: the ranges rise, lie where the slice says, are at most 1000, and have values of 0 to 255, as the other value has.
-/
import Derived.Test.YtphhgmhgkendaaaTr2
import Derived.IntWalk
import Derived.Deep.DeepCutAuto
import Derived.Deep.CutBlock
import Derived.Deep.RegionHeld3
import Derived.Deep.AppendLies
import Derived.Deep.RegionLaw
import Derived.Deep.DeepMust
namespace Go.Proofs.Ytphhgmhgkendaaa
open Go.RowKit Go.Proofs.YtphhgmhgkendaaaW.PrintWords

/-- The cells of the row of known pages. -/
def knCells (l : List Int) : Array Value := (nums .i64 l).toArray
/-- At first no page is known. -/
def kn0 : List Int := List.replicate 256 0
theorem alloc84 (w : World) : (Instr.alloc 84 true (.tuple #[])).run Try.prog w = .ok (.pointer (some ⟨w.heap.size, 0, none⟩)) (w.alloc (.cells (knCells kn0) 84)) := by kernel_rfl
theorem wpList_alloc84 {ops : Array Oper} {rest : List Oper} {o : Oper} {a : Act} {w : World} {Q : Exit → Act → World → Prop} (hg : o.guard = none) (hop : o.op = Op.alloc 84)
    (h : wpList Try.prog ops Q rest (a.put o.dst (.pointer (some ⟨w.heap.size, 0, none⟩))) (w.alloc (.cells (knCells kn0) 84))) : wpList Try.prog ops Q (o :: rest) a w :=
  wpList_plain hg fun K hK => by
    unfold Oper.wp
    simp [execOp, hop, alloc84, Result.andThen]
    exact hK _ _ h
/-- What 's[k:]' of ranges comes to: A2 is where it begins, in the walk's own words. -/
theorem slice_ranges {w : World} {A : Option Addr} {t : List (Int × Int × Int)} {c k : Nat} (h : RgC w A t) (hk : k ≤ t.length) (hc : t.length ≤ c) : ∃ (A2 : Option Addr) (n2 : Nat), RgC w A2 (t.drop k) ∧ (t.drop k).length = n2 ∧ (c = k ∧ A2 = A ∧ n2 = 0 ∨ c ≠ k ∧ Option.map (fun x => x.add (k * 3)) A = A2 ∧ n2 = t.length - k) := by
  by_cases hck : c = k
  · subst hck
    refine ⟨A, 0, fun hn => ?_, by simp; omega, .inl ⟨rfl, rfl, rfl⟩⟩
    exact absurd (List.drop_eq_nil_of_le hc) hn
  · refine ⟨Option.map (fun x => x.add (k * 3)) A, t.length - k, fun hn => ?_, by simp, .inr ⟨hck, rfl, rfl⟩⟩
    have hlt : k < t.length := by
      rcases Nat.lt_or_ge k t.length with h1 | h1
      · exact h1
      · exact absurd (List.drop_eq_nil_of_le h1) hn
    obtain ⟨B, q, rfl, hcell⟩ := h (by intro e; rw [e] at hlt; simp at hlt)
    refine ⟨B, q + k * 3, ?_, fun j a b v hj => ?_⟩
    · simp only [Option.map_some, Addr.add]
      split <;> simp_all
    · have := hcell (k + j) a b v (by rw [List.getElem?_drop] at hj; exact hj)
      rw [show q + k * 3 + j * 3 = q + (k + j) * 3 by omega]
      exact this
/-! ### What Build keeps true, in plain lists -/
/-- The page of block m. -/
def pg (t : List (Int × Int × Int)) (o : Int) (m : Nat) : List Int := pageTo (fun i : Nat => look t o (128 * (m : Int) + (i : Int))) 128
structure Inv (t : List (Int × Int × Int)) (o : Int) (m : Nat) (idx : List Int) (pages : List (List Int)) (kn : List Int) : Prop where
  il : idx.length = m
  pl : pages.length ≤ m
  at_ : ∀ j : Nat, j < m → ∃ i : Nat, idx[j]? = some (i : Int) ∧ pages[i]? = some (pg t o j)
  kl : kn.length = 256
  kn_ : ∀ v : Nat, v < 256 → kn[v]? = some 0 ∨ ∃ i : Nat, kn[v]? = some ((i : Int) + 1) ∧ i < 8704 ∧ pages[i]? = some (List.replicate 128 (v : Int))

theorem Inv.start (t : List (Int × Int × Int)) (o : Int) : Inv t o 0 [] [] kn0 :=
  ⟨rfl, Nat.le_refl _, fun j h => by omega, List.length_replicate, fun v h => .inl (by unfold kn0; rw [List.getElem?_replicate, if_pos h])⟩
theorem pages_grow {pages pages' : List (List Int)} {p : List Int} (hp : pages' = pages ∨ pages' = pages ++ [p]) {i : Nat} {q : List Int} (h : pages[i]? = some q) : pages'[i]? = some q := by
  rcases hp with rfl | rfl
  · exact h
  · rw [List.getElem?_append_left (List.getElem?_eq_some_iff.1 h).1]
    exact h
theorem Inv.more {t : List (Int × Int × Int)} {o : Int} {m : Nat} {idx : List Int} {pages pages' : List (List Int)} {kn kn' : List Int} {p : List Int} {i : Nat} (h : Inv t o m idx pages kn)
    (hp : pages' = pages ∨ pages' = pages ++ [p]) (hi : pages'[i]? = some (pg t o m)) (hk : kn' = kn ∨ ∃ v : Nat, kn' = kn.set v ((i : Int) + 1) ∧ pg t o m = List.replicate 128 (v : Int) ∧ i < 8704) :
    Inv t o (m + 1) (idx ++ [(i : Int)]) pages' kn' where
  il := by simp [h.il]
  pl := by
    have := h.pl
    rcases hp with rfl | rfl <;> simp <;> omega
  at_ := fun j hj => by
    rcases Nat.lt_or_eq_of_le (Nat.le_of_lt_succ hj) with hj | rfl
    · obtain ⟨i', h1, h2⟩ := h.at_ j hj
      exact ⟨i', by rw [List.getElem?_append_left (by rw [h.il]; exact hj)]; exact h1, pages_grow hp h2⟩
    · exact ⟨i, by rw [List.getElem?_append_right (by rw [h.il]; exact Nat.le_refl _), h.il]; simp, hi⟩
  kl := by
    rcases hk with rfl | ⟨v, rfl, _⟩
    · exact h.kl
    · simp [h.kl]
  kn_ := fun v hv => by
    have old : kn[v]? = some 0 ∨ ∃ i : Nat, kn[v]? = some ((i : Int) + 1) ∧ i < 8704 ∧ pages'[i]? = some (List.replicate 128 (v : Int)) := by
      rcases h.kn_ v hv with h1 | ⟨i', h1, h2, h3⟩
      · exact .inl h1
      · exact .inr ⟨i', h1, h2, pages_grow hp h3⟩
    rcases hk with rfl | ⟨u, rfl, hu, hi8⟩
    · exact old
    · by_cases e : u = v
      · subst e
        refine .inr ⟨i, ?_, hi8, by rw [hi, hu]⟩
        rw [List.getElem?_set_self (by rw [h.kl]; exact hv)]
      · rw [List.getElem?_set_ne e]
        exact old
theorem pg_congr {t s : List (Int × Int × Int)} {o : Int} {m : Nat} (h : ∀ r, 128 * (m : Int) ≤ r → look s o r = look t o r) : pageTo (fun i : Nat => look s o (128 * (m : Int) + (i : Int))) 128 = pg t o m := by
  unfold pg pageTo
  apply List.map_congr_left
  intro i _
  simp only [h (128 * (m : Int) + (i : Int)) (by omega)]
/-- A block that has one value alone. -/
theorem whole_look {s : List (Int × Int × Int)} {a o v : Int} (hs : ∀ x ∈ s, x.1 ≤ x.2.1) (h : wholeF s a o = (v, true)) (r : Int) (h0 : a ≤ r) (h1 : r < a + 128) : look s o r = v := by
  cases s with
  | nil =>
    simp only [wholeF, Prod.mk.injEq, and_true] at h
    exact h
  | cons x s =>
    have hx := hs x (by simp)
    unfold wholeF at h
    simp only at h
    unfold look
    split at h
    · simp only [Prod.mk.injEq, and_true] at h
      rw [if_neg (by omega), if_neg (by omega)]
      exact h
    · split at h
      · simp only [Prod.mk.injEq, and_true] at h
        rw [if_neg (by omega), if_pos (by omega)]
        exact h
      · simp at h
theorem pg_whole {t s : List (Int × Int × Int)} {o v : Int} {m : Nat} (hs : ∀ x ∈ s, x.1 ≤ x.2.1) (h : ∀ r, 128 * (m : Int) ≤ r → look s o r = look t o r) (hw : wholeF s (128 * (m : Int)) o = (v, true)) : pg t o m = List.replicate 128 v := by
  rw [← pg_congr h]
  unfold pageTo
  rw [List.eq_replicate_iff]
  refine ⟨by simp, fun b hb => ?_⟩
  obtain ⟨i, hi, rfl⟩ := List.mem_map.1 hb
  have hi' : i < 128 := List.mem_range.1 hi
  simp only [hi', if_true]
  exact whole_look hs hw _ (by omega) (by omega)
theorem whole_range {s : List (Int × Int × Int)} {a o v : Int} {al : Bool} (hs : ∀ x ∈ s, 0 ≤ x.2.2 ∧ x.2.2 ≤ 255) (ho : 0 ≤ o ∧ o ≤ 255) (h : wholeF s a o = (v, al)) : 0 ≤ v ∧ v ≤ 255 := by
  cases s with
  | nil =>
    simp only [wholeF, Prod.mk.injEq] at h
    omega
  | cons x s =>
    have hx := hs x (by simp)
    unfold wholeF at h
    simp only at h
    split at h
    · simp only [Prod.mk.injEq] at h
      omega
    · split at h
      · simp only [Prod.mk.injEq] at h
        omega
      · simp only [Prod.mk.injEq] at h
        omega

/-- The two contracts, the slice's length in whatever words. -/
theorem whole_at (A : Option Addr) (n c : Nat) (t : List (Int × Int × Int)) (at_ o v : Int) (al : Bool) (w : World) (h : RgC w A t) (hn : t.length = n) (h0 : 0 ≤ at_) (h1 : at_ ≤ 1114111) (hw : wholeF t at_ o = (v, al)) :
    Calls Try.prog 45 #[.slice A n c, .int .i32 at_, .int .u8 o] w fun e w' => e = .returned (.tuple #[.int .u8 v, .bool al]) ∧ w = w' := by
  subst hn
  have := whole_calls A c t at_ o w h h0 h1
  rw [hw] at this
  exact this
theorem filled_at (A : Option Addr) (n c : Nat) (t : List (Int × Int × Int)) (at_ o : Int) (w : World) (p : List Int) (h : RgC w A t) (hn : t.length = n) (h0 : 0 ≤ at_) (h1 : at_ ≤ 1114111) (hl : n ≤ 1000) (hp : pageTo (fun i : Nat => look t o (at_ + (i : Int))) 128 = p) :
    Calls Try.prog 47 #[.slice A n c, .int .i32 at_, .int .u8 o] w fun e w' => e = .returned (.slice (some ⟨w.heap.size, 0, none⟩) 128 128) ∧
      w'.ownsRow w.heap.size 5 1 (.slice (some ⟨w.heap.size, 0, none⟩) 128 128) 128 (nums .u8 p) ∧ Below w.heap.size w w' := by
  subst hn hp
  exact filled_calls A c t at_ o w h h0 h1 hl
/-- What holds at the head of each round of Build: k ranges end ahead of block m, m blocks are laid. -/
def BR (t : List (Int × Int × Int)) (o : Int) (w : World) (g kb m : Nat) (wr : World) : Prop := ∃ vi vp idx vs pages kn,
  TrieW wr w.heap.size g vi vp idx vs pages ∧ wr.heap[kb]? = some (.cells (knCells kn) 84 (0, 0)) ∧ w.heap.size ≤ kb ∧ Below w.heap.size w wr ∧ Inv t o m idx pages kn
def Past (t : List (Int × Int × Int)) (o : Int) (k m : Nat) : Prop := ∀ r, 128 * (m : Int) ≤ r → look (t.drop k) o r = look t o r

/-- A round's end: block m is laid. -/
theorem BR.more {t : List (Int × Int × Int)} {o : Int} {w wc w2 w5 : World} {g kb m : Nat} {idx : List Int} {pages pages' : List (List Int)} {vs' : List Value} {kn : List Int} {vi' vp' : Value} {i : Nat}
    (hkn : wc.heap[kb]? = some (.cells (knCells kn) 84 (0, 0))) (hkb : w.heap.size ≤ kb) (hbel : Below w.heap.size w wc) (hinv : Inv t o m idx pages kn) (hB2 : Below wc.heap.size wc w2) (hTr : Tr w.heap.size w2 w5)
    (hT : TrieW w5 w.heap.size g vi' vp' (idx ++ [(i : Int)]) vs' pages') (hp : pages' = pages ∨ pages' = pages ++ [pg t o m]) (hi : pages'[i]? = some (pg t o m)) : BR t o w g kb (m + 1) w5 := by
  have k2 := blk_below hkn hB2
  refine ⟨vi', vp', _, vs', pages', kn, hT, (hTr.block kb (blk_lt k2) (.inr ⟨_, k2⟩)).trans k2, hkb, ?_, hinv.more hp hi (.inl rfl)⟩
  have h2 : Below w.heap.size w w2 := hbel.trans (hB2.mono hbel.size)
  exact h2.trans (hTr.below h2.size)

/-- Block m has one value alone, and its page was known. -/
theorem BR.more1 {t : List (Int × Int × Int)} {o : Int} {w wc w5 : World} {g kb m : Nat} {idx : List Int} {pages : List (List Int)} {vs' : List Value} {kn : List Int} {vi' vp' : Value} {i : Nat}
    (hkn : wc.heap[kb]? = some (.cells (knCells kn) 84 (0, 0))) (hkb : w.heap.size ≤ kb) (hbel : Below w.heap.size w wc) (hinv : Inv t o m idx pages kn) (hTr : Tr w.heap.size wc w5)
    (hT : TrieW w5 w.heap.size g vi' vp' (idx ++ [(i : Int)]) vs' pages) (hi : pages[i]? = some (pg t o m)) : BR t o w g kb (m + 1) w5 :=
  ⟨vi', vp', _, vs', pages, kn, hT, (hTr.block kb (blk_lt hkn) (.inr ⟨_, hkn⟩)).trans hkn, hkb, hbel.trans (hTr.below hbel.size), hinv.more (p := []) (.inl rfl) hi (.inl rfl)⟩
theorem kn_at {w : World} {kb : Nat} {kn : List Int} (h : w.heap[kb]? = some (.cells (knCells kn) 84 (0, 0))) {v : Nat} {x : Int} (hx : kn[v]? = some x) : w.cell? ⟨kb, v, none⟩ = some (.int .i64 x) := by
  rw [blk_cell h v]
  simp [knCells, nums, hx]
/-- A store into the row of known pages. -/
theorem TrieW.setKn {w : World} {base g kb j : Nat} {vi vp u : Value} {idx : List Int} {vs : List Value} {pages : List (List Int)} {cs : Array Value} (h : TrieW w base g vi vp idx vs pages) (hk : w.heap[kb]? = some (.cells cs 84 (0, 0))) : TrieW (w.setCell ⟨kb, j, none⟩ u) base g vi vp idx vs pages :=
  h.move (fun k cells T hc hT => Below.heap_setCell w ⟨kb, j, none⟩ u k (ty_ne (T2 := 84) hc hk (by rcases hT with h | h | h | h <;> rw [h] <;> decide)))

/-- Block m has one value alone, and its page is now known. -/
theorem BR.more2 {t : List (Int × Int × Int)} {o : Int} {w w6 w5 : World} {g kb m v : Nat} {idx : List Int} {pages pages' : List (List Int)} {vs' : List Value} {kn : List Int} {vi' vp' : Value} {i : Nat}
    (hkn : w6.heap[kb]? = some (.cells (knCells (kn.set v ((i : Int) + 1))) 84 (0, 0))) (hkb : w.heap.size ≤ kb) (hbel : Below w.heap.size w w6) (hinv : Inv t o m idx pages kn) (hTr : Tr w.heap.size w6 w5)
    (hT : TrieW w5 w.heap.size g vi' vp' (idx ++ [(i : Int)]) vs' pages') (hp : pages' = pages ∨ pages' = pages ++ [pg t o m]) (hi : pages'[i]? = some (pg t o m)) (hpg : pg t o m = List.replicate 128 (v : Int)) (hi8 : i < 8704) : BR t o w g kb (m + 1) w5 :=
  ⟨vi', vp', _, vs', pages', _, hT, (hTr.block kb (blk_lt hkn) (.inr ⟨_, hkn⟩)).trans hkn, hkb, hbel.trans (hTr.below hbel.size), hinv.more hp hi (.inr ⟨v, rfl, hpg, hi8⟩)⟩
theorem kn_set {w : World} {kb : Nat} {kn : List Int} (h : w.heap[kb]? = some (.cells (knCells kn) 84 (0, 0))) (v : Nat) (x : Int) : (w.setCell ⟨kb, v, none⟩ (.int .i64 x)).heap[kb]? = some (.cells (knCells (kn.set v x)) 84 (0, 0)) := by
  rw [blk_set h v]
  simp [knCells, nums, List.map_set]
theorem page_lt {t : List (Int × Int × Int)} {o : Int} {m i : Nat} {idx kn : List Int} {pages pages' : List (List Int)} {p q : List Int} (hinv : Inv t o m idx pages kn) (hm : m < 8704) (hp : pages' = pages ∨ pages' = pages ++ [p]) (hi : pages'[i]? = some q) : i < 8704 := by
  have h1 := (List.getElem?_eq_some_iff.1 hi).1
  have h2 := hinv.pl
  rcases hp with rfl | rfl
  · omega
  · simp at h1; omega

set_option maxRecDepth 100000 in
set_option maxHeartbeats 3200000 in
theorem build_calls (A : Option Addr) (c : Nat) (t : List (Int × Int × Int)) (o : Int) (w : World) (h : RgC w A t) (hr : risesFrom (-1) t) (hl : t.length ≤ 1000) (hc : t.length ≤ c) (hs : Hid (∀ x ∈ t, x.1 ≤ x.2.1)) (hv : Hid (∀ x ∈ t, 0 ≤ x.2.2 ∧ x.2.2 ≤ 255)) (ho : 0 ≤ o ∧ o ≤ 255) :
    Calls Try.prog 34 #[.slice A t.length c, .int .u8 o] w fun e w' => ∃ g kb, e = .returned (.tuple #[.pointer (some ⟨g, 0, none⟩), .nilIface]) ∧ BR t o w g kb 8704 w' := by
  have HC := Lib.hid h
  have HR := Lib.hid hr
  have HO := Lib.hid ho
  clear h hr ho
  go_enter Try.func34, Try.ntmps34
  go_wp2_with (first
    | (go_at_call 18; refine (check_calls A c t _ HC.out HR.out hl).mono ?_; rintro e w1 ⟨rfl, hB⟩)
    | (with_reducible refine wpList_alloc84 rfl rfl ?_))
  have HB0 := Lib.hid hB
  clear hB
  go_loopw [9, 10] (fun v9 v10 wr => ∃ k m : Nat, k ≤ t.length ∧ m ≤ 8704 ∧ v9 = .int .i64 k ∧ v10 = .int .i32 (128 * m) ∧ BR t o w w1.heap.size (w1.heap.size + 1) m wr ∧ Past t o k m) (fun _ v _ => 8704 - ((intOf v).toNat / 128))
  case atStart =>
    refine ⟨0, 0, Nat.zero_le _, Nat.zero_le _, rfl, rfl, ⟨.slice none 0 0, .slice none 0 0, [], [], [], kn0, ⟨?_, HB0.out.size, World.ownsRow_nil _ _ _ _, World.ownsRow_nil _ _ _ _, rfl, fun j v p hv => by simp at hv⟩, ?_, ?_, ?_, Inv.start _ _⟩, fun r _ => rfl⟩
    · exact blk_alloc (blk_new w1 _) _
    · have := blk_new (w1.alloc (.cells #[.slice none 0 0, .slice none 0 0] 83)) (.cells (knCells kn0) 84)
      simpa using this
    · have := HB0.out.size; omega
    · exact below_alloc (below_alloc HB0.out _) _
  case round =>
    clear HB0
    obtain ⟨k, m, hk, hm, rfl, rfl, hBR, hP⟩ := hrel
    have HBR := Lib.hid hBR
    have HP := Lib.hid hP
    clear hBR hP
    by_cases hlt : m < 8704
    · obtain ⟨wo, rfl⟩ : ∃ wo : World, wo = wr := ⟨_, rfl⟩
      have hd : decide (128 * (m : Int) ≤ 1114111) = true := by simp; omega
      go_upto_block 2 with (fail)
      go_cut [9] (fun s9 wx => ∃ k' : Nat, k' ≤ t.length ∧ s9 = .int .i64 k' ∧ wx = wo ∧ Past t o k' m)
      case first =>
        go_wp2_with fail
        go_loop [9] (fun v9 => ∃ k' : Nat, k' ≤ t.length ∧ v9 = .int .i64 k' ∧ Past t o k' m) (fun v9 => t.length - (intOf v9).toNat)
        case atStart => exact ⟨k, hk, rfl, HP.out⟩
        case round =>
          clear hk HP
          obtain ⟨k, hk, rfl, hP⟩ := hrel
          have HP := Lib.hid hP
          clear hP
          by_cases hkl : k < t.length
          · obtain ⟨a, b, v, hx⟩ : ∃ a b v, t[k]? = some (a, b, v) := by
              obtain ⟨x, hx⟩ : ∃ x, t[k]? = some x := ⟨_, List.getElem?_eq_getElem (by omega)⟩
              exact ⟨x.1, x.2.1, x.2.2, hx⟩
            obtain ⟨B, q, rfl, hcell⟩ := HC.out (by intro e; rw [e] at hkl; simp at hkl)
            obtain ⟨w0', w1', w2'⟩ := hcell k a b v hx
            have hBel : Below w.heap.size w wo := by obtain ⟨_, _, _, _, _, _, _, _, _, hb, _⟩ := HBR.out; exact hb
            have c1 : wo.cell? ⟨B, q + k * 3 + 1, none⟩ = some (.int .i32 b) := pw_cell_below hBel w1'
            have HX := Lib.hid hx
            clear hcell w0' w1' w2' hx hBel
            by_cases hb : b < 128 * (m : Int)
            · go_wp2_with fail
              go_round
              case rel => exact ⟨k + 1, by omega, by go_num, fun r hr => by
                have := HP.out r hr
                rw [look_drop HX.out, if_pos (by omega)] at this
                exact this⟩
              case measure => simp [intOf]; omega
            · go_wp2_with fail
              go_meet
              exact ⟨k, hk, rfl, rfl, HP.out⟩
          · have : k = t.length := by omega
            subst this
            go_wp2_with fail
            go_meet
            exact ⟨t.length, hk, rfl, rfl, HP.out⟩
      case rest =>
        obtain ⟨k', hk', rfl, rfl, hP⟩ := hcut
        have HP := Lib.hid hP
        clear hP
        obtain ⟨vi, vp, idx, vs, pages, kn, hT, hkn, hkb, hBel, hInv⟩ := HBR.out
        obtain ⟨A2, n2, hrg, hnl0, hA2⟩ := slice_ranges (HC.out.below hBel) hk' hc
        have HRG := Lib.hid hrg
        have HT := Lib.hid hT
        have HKN := Lib.hid hkn
        have HBEL := Lib.hid hBel
        have HINV := Lib.hid hInv
        obtain ⟨v, al, hw⟩ : ∃ v al, wholeF (t.drop k') (128 * (m : Int)) o = (v, al) := ⟨_, _, rfl⟩
        have hvr := whole_range (fun x hx => hv.out x (List.mem_of_mem_drop hx)) HO.out hw
        obtain ⟨hv0, hv1⟩ := hvr
        have HW := Lib.hid hw
        have hnl := Lib.hid hnl0
        have hn2 : n2 ≤ 1000 := by rw [← hnl0]; simp; omega
        have hpg : Hid (pageTo (fun i : Nat => look (t.drop k') o (128 * (m : Int) + (i : Int))) 128 = pg t o m) := Lib.hid (pg_congr HP.out)
        have b0 : 0 ≤ 128 * (m : Int) := by omega
        have b1 : 128 * (m : Int) ≤ 1114111 := by omega
        have HBR' := HBR
        clear HBR hrg hnl0 hT hkn hBel hInv hw hd
        have hszc := HBEL.out.size
        have hvl : vs.length ≤ 8704 := by rw [HT.out.len]; have := HINV.out.pl; omega
        have hil : idx.length ≤ 8704 := by rw [HINV.out.il]; omega
        obtain ⟨i3, hi3, hz30, hz31, hz32⟩ := info_parts info3
        have c0 : wc.cell? ⟨w1.heap.size, 0, none⟩ = some vi := (blk_cell HT.out.blk 0).trans rfl
        rcases hA2 with ⟨rfl, rfl, rfl⟩ | ⟨hck, hA2, rfl⟩
        all_goals
          cases al with
          | false =>
            go_wp2_with (first
              | (go_at_call 45; refine (whole_at A2 _ _ _ _ o v false _ HRG.out hnl.out b0 b1 HW.out).mono ?_; rintro e w' ⟨rfl, rfl⟩))
            go_region_law (first
                | (go_simp; go_at_call 47; refine (filled_at A2 _ _ _ _ o _ (pg t o m) (by exact HRG.out) hnl.out b0 b1 hn2 hpg.out).mono ?_; rintro e w2 ⟨rfl, hown2, hB2⟩; have T2 := Lib.hid (((HT.out.drewN 1).below hB2)); have k2 : w2.cell? ⟨w1.heap.size, 0, none⟩ = some vi := (blk_cell T2.out.blk 0).trans rfl)
                | (go_simp; go_at_call 46; refine (page_calls w.heap.size w1.heap.size wc.heap.size vi vp idx vs pages (pg t o m) _ T2.out (by exact own_weaken hown2 hszc) (Nat.le_trans hszc hB2.size) (by omega)).mono ?_; rintro e w3 ⟨i, vp', vs', pages', rfl, hT3, hp3, hi4, hTr3⟩; have T3 := Lib.hid hT3; have k3 : w3.cell? ⟨w1.heap.size, 0, none⟩ = some vi := (blk_cell T3.out.blk 0).trans rfl; have k3a : (w3.alloc (.cells #[.int .i64 i] 3)).cell? ⟨w1.heap.size, 0, none⟩ = some vi := (blk_cell (blk_alloc T3.out.blk _) 0).trans rfl; have hsz3 : w.heap.size ≤ w3.heap.size := Nat.le_trans (Nat.le_trans hszc hB2.size) hTr3.size; have P3 := Lib.hid hp3; have I3 := Lib.hid hi4; clear hT3 hp3 hi4)
                | (refine step_append_lies _ (by rfl) _ _ _ (by rfl) w.heap.size 3 i3 (.int .i64 0) 1 8 Try.underlying69 hi3 hz30 hz31 hz32 rfl (by omega) vi idx.length (nums .i64 idx) (by rfl) (by exact T3.out.index.alloc _) ⟨w3.heap.size, 0, none⟩ 1 1 [.int .i64 i] (by rfl) (by rfl) (World.news_of_block (cs := #[.int .i64 i]) (t := 3) (fr := (0, 0)) (heap_alloc_new w3 _)) (by simp [Value.oneCell']) (by omega) (by unfold maxLen; omega) (by omega) (by simp; omega) (w3.heap.size + 1) (by simp) ?_; intro gg cap w4 hown4 hgrow4 hat4 hlt4; have T3a := T3.out.below (below_alloc (Below.refl _ _) (.cells #[.int .i64 i] 3)); have hb4 := blk_grown T3a.blk hgrow4 (own_ne T3a.index T3a.blk (by decide)); have k4 : w4.cell? ⟨w1.heap.size, 0, none⟩ = some vi := (blk_cell hb4 0).trans rfl; have e4 : w4.frozen? ⟨w1.heap.size, 0, none⟩ = false := blk_frozen hb4 0; have F4 := Lib.hid (T3a.addIdx hgrow4 hown4); have R4 := Lib.hid ((((Tr.refl w.heap.size w3).alloc _).grown T3a.index (by decide) hgrow4).set_ (j := 0) hb4 (by decide) T3a.hg (.slice (some ⟨gg, 0, none⟩) (idx.length + 1) cap)); clear T3a hb4 hown4 hgrow4))
            all_goals
              have HM := Lib.hid (BR.more HKN.out hkb HBEL.out HINV.out ⟨hB2.os, hB2.tape, hB2.output, hB2.size, hB2.block⟩ (hTr3.trans R4.out) F4.out P3.out I3.out)
              clear hB2 hTr3 k2 k3 k3a k4 e4 hown2 hsz3 T2 T3 F4 R4 P3 I3 c0
              go_wp2
              go_roundw
              case rel => exact ⟨_, m + 1, hk', by omega, rfl, congrArg (Value.int .i32) (by omega), HM.out, fun r hr => HP.out r (by omega)⟩
              case measure => simp [intOf]; omega
          | true =>
            have hpw : Hid (pg t o m = List.replicate 128 v) := Lib.hid (pg_whole (fun x hx => hs.out x (List.mem_of_mem_drop hx)) HP.out HW.out)
            obtain ⟨vn, rfl⟩ := Int.eq_ofNat_of_zero_le hv0
            rcases HINV.out.kn_ vn (by omega) with hkv | ⟨i, hkv, hi8, hpi⟩
            · have d1 : wc.cell? ⟨w1.heap.size + 1, vn, none⟩ = some (.int .i64 0) := kn_at HKN.out hkv
              have v256 : (vn : Int) < 256 := by omega
              clear hkv
              go_wp2_with (first
                | (go_at_call 45; refine (whole_at A2 _ _ _ _ o vn true _ HRG.out hnl.out b0 b1 HW.out).mono ?_; rintro e w' ⟨rfl, rfl⟩)
                | (go_at_call 47; refine (filled_at A2 _ _ _ _ o _ (pg t o m) (by exact HRG.out) hnl.out b0 b1 hn2 hpg.out).mono ?_; rintro e w2 ⟨rfl, hown2, hB2⟩; have T2 := Lib.hid (HT.out.below hB2); have O2 := Lib.hid hown2; have HB2 := Lib.hid hB2; clear hown2 hB2))
              refine (page_calls w.heap.size w1.heap.size wc.heap.size vi vp idx vs pages (pg t o m) _ T2.out (own_weaken O2.out hszc) (Nat.le_trans hszc HB2.out.size) (by omega)).mono ?_
              rintro e w3 ⟨i, vp', vs', pages', rfl, hT3, hp3, hi4, hTr3⟩
              have T3 := Lib.hid hT3
              have P3 := Lib.hid hp3
              have I3 := Lib.hid hi4
              have hi8 := page_lt HINV.out hlt hp3 hi4
              have hk2 := blk_below HKN.out HB2.out
              have K3 := Lib.hid ((hTr3.block _ (blk_lt hk2) (.inr ⟨_, hk2⟩)).trans hk2)
              have HB3 := Lib.hid ((HBEL.out.trans (HB2.out.mono hszc)).trans (hTr3.below (Nat.le_trans hszc HB2.out.size)))
              clear hT3 hp3 hi4 hTr3 hk2
              have e3 : w3.cell? ⟨w1.heap.size + 1, vn, none⟩ = some (.int .i64 0) := by rw [blk_cell K3.out vn, ← blk_cell HKN.out vn]; exact d1
              have f3 : w3.frozen? ⟨w1.heap.size + 1, vn, none⟩ = false := blk_frozen K3.out vn
              go_wp2_with fail
              generalize hW6 : w3.setCell ⟨w1.heap.size + 1, vn, none⟩ (.int .i64 (1 + (i : Int))) = W6
              have T6 : Hid (TrieW W6 w.heap.size w1.heap.size vi vp' idx vs' pages') := Lib.hid (by rw [← hW6]; exact T3.out.setKn K3.out)
              have K6 : Hid (W6.heap[w1.heap.size + 1]? = some (.cells (knCells (kn.set vn ((i : Int) + 1))) 84 (0, 0))) := Lib.hid (by rw [← hW6, Int.add_comm 1 (i : Int)]; exact kn_set K3.out vn _)
              have HB6 : Hid (Below w.heap.size w W6) := Lib.hid (by rw [← hW6]; exact HB3.out.setCell (p := ⟨w1.heap.size + 1, vn, none⟩) hkb _)
              have hsz6 := HB6.out.size
              have HW6 := Lib.hid hW6
              clear hW6 e3 f3 c0 d1
              have c0 : W6.cell? ⟨w1.heap.size, 0, none⟩ = some vi := (blk_cell T6.out.blk 0).trans rfl
              have c0a : (W6.alloc (.cells #[.int .i64 i] 3)).cell? ⟨w1.heap.size, 0, none⟩ = some vi := (blk_cell (blk_alloc T6.out.blk _) 0).trans rfl
              have d1 : W6.cell? ⟨w1.heap.size + 1, vn, none⟩ = some (.int .i64 ((i : Int) + 1)) := kn_at K6.out (List.getElem?_set_self (by rw [HINV.out.kl]; omega))
              have hwi : IntKind.i64.wrap (i : Int) = (i : Int) := IntWalk.i64_in _ (by omega)
              go_region_law (first
                | (refine step_append_lies _ (by rfl) _ _ _ (by rfl) w.heap.size 3 i3 (.int .i64 0) 1 8 Try.underlying69 hi3 hz30 hz31 hz32 rfl (by omega) vi idx.length (nums .i64 idx) (by rfl) ((T6.out.index.alloc _).drew) ⟨W6.heap.size, 0, none⟩ 1 1 [.int .i64 i] (by rfl) (by rfl) (World.news_of_block (cs := #[.int .i64 i]) (t := 3) (fr := (0, 0)) (heap_alloc_new W6 _)) (by simp [Value.oneCell']) (by omega) (by unfold maxLen; omega) (by omega) (by simp; omega) (W6.heap.size + 1) (by simp) ?_; intro gg cap w4 hown4 hgrow0 hat4 hlt4; have hgrow4 : (W6.alloc (.cells #[.int .i64 i] 3)).grownBy w4 vi.ownBlock := ⟨hgrow0.os, hgrow0.tape, hgrow0.output, hgrow0.size, hgrow0.block⟩; clear hgrow0; have T3a := T6.out.below (below_alloc (Below.refl _ _) (.cells #[.int .i64 i] 3)); have hb4 := blk_grown T3a.blk hgrow4 (own_ne T3a.index T3a.blk (by decide)); have k4 : w4.cell? ⟨w1.heap.size, 0, none⟩ = some vi := (blk_cell hb4 0).trans rfl; have e4 : w4.frozen? ⟨w1.heap.size, 0, none⟩ = false := blk_frozen hb4 0; have F4 := Lib.hid (T3a.addIdx hgrow4 hown4); have R4 := Lib.hid ((((Tr.refl w.heap.size W6).alloc _).grown T3a.index (by decide) hgrow4).set_ (j := 0) hb4 (by decide) T3a.hg (.slice (some ⟨gg, 0, none⟩) (idx.length + 1) cap)); clear T3a hb4 hown4 hgrow4))
              all_goals
                have HM := Lib.hid (BR.more2 K6.out hkb HB6.out HINV.out R4.out F4.out P3.out I3.out hpw.out hi8)
                clear k4 e4 F4 R4 c0 c0a d1 hwi
                go_wp2
                go_roundw
                case rel => exact ⟨_, m + 1, hk', by omega, rfl, congrArg (Value.int .i32) (by omega), HM.out, fun r hr => HP.out r (by omega)⟩
                case measure => simp [intOf]; omega
            · have d1 : wc.cell? ⟨w1.heap.size + 1, vn, none⟩ = some (.int .i64 ((i : Int) + 1)) := kn_at HKN.out hkv
              have I1 : Hid (pages[i]? = some (pg t o m)) := Lib.hid (by rw [hpw.out]; exact hpi)
              have hwi : IntKind.i64.wrap (i : Int) = (i : Int) := IntWalk.i64_in _ (by omega)
              have c0a : (wc.alloc (.cells #[.int .i64 i] 3)).cell? ⟨w1.heap.size, 0, none⟩ = some vi := (blk_cell (blk_alloc HT.out.blk _) 0).trans rfl
              have v256 : (vn : Int) < 256 := by omega
              clear hkv hpi
              go_wp2_with (first
                | (go_at_call 45; refine (whole_at A2 _ _ _ _ o vn true _ HRG.out hnl.out b0 b1 HW.out).mono ?_; rintro e w' ⟨rfl, rfl⟩))
              go_region_law (first
                | (refine step_append_lies _ (by rfl) _ _ _ (by rfl) w.heap.size 3 i3 (.int .i64 0) 1 8 Try.underlying69 hi3 hz30 hz31 hz32 rfl (by omega) vi idx.length (nums .i64 idx) (by rfl) ((HT.out.index.alloc _).drew) ⟨wc.heap.size, 0, none⟩ 1 1 [.int .i64 i] (by rfl) (by rfl) (World.news_of_block (cs := #[.int .i64 i]) (t := 3) (fr := (0, 0)) (heap_alloc_new wc _)) (by simp [Value.oneCell']) (by omega) (by unfold maxLen; omega) (by omega) (by simp; omega) (wc.heap.size + 1) (by simp) ?_; intro gg cap w4 hown4 hgrow0 hat4 hlt4; have hgrow4 : (wc.alloc (.cells #[.int .i64 i] 3)).grownBy w4 vi.ownBlock := ⟨hgrow0.os, hgrow0.tape, hgrow0.output, hgrow0.size, hgrow0.block⟩; clear hgrow0; have T3a := HT.out.below (below_alloc (Below.refl _ _) (.cells #[.int .i64 i] 3)); have hb4 := blk_grown T3a.blk hgrow4 (own_ne T3a.index T3a.blk (by decide)); have k4 : w4.cell? ⟨w1.heap.size, 0, none⟩ = some vi := (blk_cell hb4 0).trans rfl; have e4 : w4.frozen? ⟨w1.heap.size, 0, none⟩ = false := blk_frozen hb4 0; have F4 := Lib.hid (T3a.addIdx hgrow4 hown4); have R4 := Lib.hid ((((Tr.refl w.heap.size wc).alloc _).grown T3a.index (by decide) hgrow4).set_ (j := 0) hb4 (by decide) T3a.hg (.slice (some ⟨gg, 0, none⟩) (idx.length + 1) cap)); clear T3a hb4 hown4 hgrow4))
              all_goals
                have HM := Lib.hid (BR.more1 HKN.out hkb HBEL.out HINV.out R4.out F4.out I1.out)
                clear k4 e4 F4 R4 I1 c0 c0a d1 hwi
                go_wp2
                go_roundw
                case rel => exact ⟨_, m + 1, hk', by omega, rfl, congrArg (Value.int .i32) (by omega), HM.out, fun r hr => HP.out r (by omega)⟩
                case measure => simp [intOf]; omega
    · have : m = 8704 := by omega
      subst this
      go_wp2
      go_ret2
      exact ⟨_, _, rfl, HBR.out⟩
end Go.Proofs.Ytphhgmhgkendaaa
