/-
  cluster.Breaks: the call hands back a new slice of bools, true where a cluster begins or ends, as the plain words brksF say, and changes nothing that was there. Its condition: the text has at most 35184372088832 scalars.
-/
import Derived.Test.YtphhgmhgkendaaaTk
import Derived.OneCell
namespace Go.Proofs.Ytphhgmhgkendaaa
open Go.RowKit Go.Proofs.YtphhgmhgkendaaaW.PrintWords
theorem joins_at (w0 w : World) (g : Nat) (l f : Int) (p j : Bool) (c wd : Int) (hI : StW w g l f p j) (hg : w0.heap.size ≤ g) (hB : Below w0.heap.size w0 w) :
    Calls Try.prog 39 #[.pointer (some ⟨g, 0, none⟩), .int .u8 c, .int .i64 wd] w fun e w' => e = .returned (.bool (joinsB l f j c wd)) ∧ StW w' g l f p j ∧ Below w0.heap.size w0 w' ∧ KeepBut w w' g none :=
  (S.cluster_state_joins.calls 5 g l f p j c wd _ _ _ _ _ w0 w ⟨hI, hg⟩ hB (joins_eq l f p j c wd)).mono fun _ _ ⟨h1, h2, h3, h4⟩ => ⟨h1, h2.1, h3, h4⟩

/-! ### Breaks -/
/-- What is known of the cluster that goes on, ahead of scalar k: the last class, the flags, whether it began with a picture, whether a joiner ends it. -/
def stA (l : List Int) : Nat → Int × Int × Bool × Bool
  | 0 => (0, 0, false, false)
  | k + 1 =>
    let s := stA l k
    let c := classF (l.getD k 0)
    let w := widthF (l.getD k 0)
    let b := (k == 0) || !joinsB s.1 s.2.1 s.2.2.2 c w
    (c, takeN s.2.1 c b, takeP s.2.2.1 c w b, takeP s.2.2.1 c w b && c == 4)
/-- Is there a break ahead of scalar k? -/
def brA (l : List Int) (k : Nat) : Bool := (k == 0) || !joinsB (stA l k).1 (stA l k).2.1 (stA l k).2.2.2 (classF (l.getD k 0)) (widthF (l.getD k 0))
def brksF (l : List Int) : List Bool := (List.range l.length).map (brA l) ++ [true]
def cluster_Breaks.f (l : List Int) : Option (List Bool) := if l.length ≤ 35184372088832 then some (brksF l) else none

def outB (l : List Int) (k : Nat) : List Bool := (List.range (l.length + 1)).map fun i => decide (i < k) && brA l i
theorem outB_length (l : List Int) (k : Nat) : (outB l k).length = l.length + 1 := by simp [outB]
theorem outB_at (l : List Int) (k i : Nat) (h : i < l.length + 1) : (bools (outB l k))[i]? = some (.bool (decide (i < k) && brA l i)) := by
  simp [bools, outB, List.getElem?_range h]
theorem outB_set (l : List Int) (k : Nat) : (bools (outB l k)).set k (.bool (brA l k)) = bools (outB l (k + 1)) := by
  apply List.ext_getElem?
  intro i
  by_cases hi : i < l.length + 1
  · rw [List.getElem?_set]
    by_cases e : k = i
    · subst e
      rw [if_pos rfl, if_pos (by simpa [bools, outB] using hi), outB_at _ _ _ hi]
      simp
    · rw [if_neg e, outB_at _ _ _ hi, outB_at _ _ _ hi]
      congr 3
      simp; omega
  · rw [List.getElem?_eq_none (by simp [bools, outB]; omega), List.getElem?_eq_none (by simp [bools, outB]; omega)]
theorem outB_last (l : List Int) : (bools (outB l l.length)).set l.length (.bool true) = bools (brksF l) := by
  apply List.ext_getElem?
  intro i
  rw [List.getElem?_set]
  by_cases e : l.length = i
  · subst e
    rw [if_pos rfl, if_pos (by simp [bools, outB])]
    simp [bools, brksF]
  · rw [if_neg e]
    by_cases hi : i < l.length
    · rw [outB_at _ _ _ (by omega)]
      simp only [bools, brksF, List.map_append]
      rw [List.getElem?_append_left (by simpa using hi)]
      simp [hi]
    · rw [List.getElem?_eq_none (by simp [bools, outB]; omega), List.getElem?_eq_none (by simp [bools, brksF]; omega)]
theorem made_false (n : Nat) : (madeCells (Value.bool false).cells (n * 1)).toList = bools (List.replicate n false) := by
  rw [Nat.mul_one]
  apply List.ext_getElem?
  intro i
  have hm : ∀ x : Nat, (#[Value.bool false] : Array Value)[x % 1]! = .bool false := fun x => by
    rw [Nat.mod_one]
    rfl
  simp only [madeCells, bools, Value.cells, Array.toList_map, List.getElem?_map, List.map_replicate, List.size_toArray, List.length_cons, List.length_nil, Nat.zero_add, hm]
  by_cases hi : i < n
  · rw [List.getElem?_replicate, if_pos hi]
    simp [hi]
  · rw [List.getElem?_replicate, if_neg hi]
    simp
    omega
theorem outB_zero (l : List Int) : List.replicate (l.length + 1) false = outB l 0 := by
  apply List.ext_getElem?
  intro i
  by_cases hi : i < l.length + 1
  · simp [outB, hi]
  · simp [outB, hi]
theorem stA_flags (l : List Int) (k : Nat) : 0 ≤ (stA l k).2.1 ∧ (stA l k).2.1 ≤ k := by
  induction k with
  | zero => simp [stA]
  | succ k ih =>
    simp only [stA, takeN]
    constructor <;> split <;> split <;> omega
/-- What the print's words say of a row of whole numbers, in the kit's. -/
theorem own_kd {k : IntKind} {e : Nat} {w : World} {base : Nat} {ok : Nat → Prop} {v : Value} {xs : List Int} (h : Kd.R (Kd.int k) e w base ok v xs) : w.ownsRow base e 1 v xs.length (nums k xs) := by
  obtain ⟨_, inner, ho, hr⟩ := h
  have : inner = nums k xs := by
    apply List.ext_getElem?
    intro i
    have hl : inner.length = xs.length := by simpa [Kd.int, Kd.scalar] using hr.1
    by_cases hi : i < xs.length
    · have h2 := hr.2 i xs[i] (List.getElem?_eq_getElem hi)
      have h3 : (inner.drop (i * 1)).take 1 = [Value.int k xs[i]] := h2
      rw [Nat.mul_one, List.drop_eq_getElem_cons (by omega)] at h3
      simp at h3
      rw [List.getElem?_eq_getElem (by omega)]
      have h4 := congrArg (fun q => q[0]?) h3
      simp at h4
      rw [List.getElem?_eq_getElem (by omega)] at h4
      simp [nums, hi, Option.some.inj h4]
    · rw [List.getElem?_eq_none (by omega), List.getElem?_eq_none (by simp [nums]; omega)]
  rw [← this]
  exact ho
theorem kd_bools {e : Nat} {w : World} {base : Nat} {v : Value} {xs : List Bool} (h : w.ownsRow base e 1 v xs.length (bools xs)) : Kd.R Kd.bool e w base (fun _ => True) v xs := by
  refine ⟨fun _ _ => trivial, bools xs, h, by simp [bools, Kd.bool, Kd.scalar], fun j p hj => ?_⟩
  show ((bools xs).drop (j * 1)).take 1 = [Value.bool p]
  have hl := (List.getElem?_eq_some_iff.1 hj)
  rw [Nat.mul_one, List.drop_eq_getElem_cons (by simpa [bools] using hl.1)]
  simp [bools, hl.2]
theorem own_below {w w' : World} {base e size n : Nat} {v : Value} {xs : List Value} (h : w.ownsRow base e size v n xs) (hb : Below w.heap.size w w') : w'.ownsRow base e size v n xs := by
  obtain ⟨h1, h2 | ⟨g, cap, cur, h3, h4, h5, h6⟩⟩ := h
  · exact ⟨h1, .inl h2⟩
  · exact ⟨h1, .inr ⟨g, cap, cur, h3, h4, (hb.block g (blk_lt h5)).trans h5, h6⟩⟩
theorem own_slice2 {w : World} {base e size n : Nat} {v : Value} {xs : List Value} (h : w.ownsRow base e size v n xs) : ∃ A cap, v = .slice A n cap := by
  obtain ⟨_, ⟨rfl, rfl⟩ | ⟨g, cap, cur, rfl, _⟩⟩ := h
  · exact ⟨_, _, rfl⟩
  · exact ⟨_, _, rfl⟩
theorem own_some2 {w : World} {base e size n cap : Nat} {A : Option Addr} {xs : List Value} (h : w.ownsRow base e size (.slice A n cap) n xs) (hn : 0 < n) : ∃ g, A = some ⟨g, 0, none⟩ ∧ base ≤ g ∧ g < w.heap.size ∧ ∃ cur, w.heap[g]? = some (.cells cur e (0, 0)) := by
  obtain ⟨_, ⟨h1, rfl⟩ | ⟨g, cap, cur, h1, h2, h3, _⟩⟩ := h
  · omega
  · injection h1 with h1
    exact ⟨g, h1, h2, blk_lt h3, cur, h3⟩
theorem info4 : (Try.prog.info? 4).map (fun i => (i.zero, i.size, i.bytes)) = some (some (.bool false), 1, 1) := by kernel_rfl

/-- What holds ahead of scalar k. -/
structure RB (l : List Int) (w : World) (B1 B2 g : Nat) (Ac : Option Addr) (cc : Nat) (Aw : Option Addr) (cw : Nat) (k k2 : Nat) (W : World) : Prop where
  out : W.ownsRow w.heap.size 4 1 (.slice (some ⟨w.heap.size, 0, none⟩) (l.length + 1) (l.length + 1)) (l.length + 1) (bools (outB l k2))
  cs : W.ownsRow B1 38 1 (.slice Ac l.length cc) l.length (nums .u8 (l.map classF))
  ws : W.ownsRow B2 3 1 (.slice Aw l.length cw) l.length (nums .i64 (l.map widthF))
  st : StW W g (stA l k).1 (stA l k).2.1 (stA l k).2.2.1 (stA l k).2.2.2
  bl : Below w.heap.size w W
theorem RB.put {l : List Int} {w : World} {B1 B2 g gc gw cc cw k : Nat} {W : World} (h : RB l w B1 B2 g (some ⟨gc, 0, none⟩) cc (some ⟨gw, 0, none⟩) cw k k W) (hc : gc ≠ w.heap.size) (hw : gw ≠ w.heap.size) (hg : g ≠ w.heap.size) (b : Bool) (hb : b = brA l k) : RB l w B1 B2 g (some ⟨gc, 0, none⟩) cc (some ⟨gw, 0, none⟩) cw k (k + 1) (W.setCell ⟨w.heap.size, k, none⟩ (.bool b)) := by
  subst hb
  refine ⟨?_, ownsRow_setCell_other h.cs (by simpa [Value.ownBlock] using hc) _, ownsRow_setCell_other h.ws (by simpa [Value.ownBlock] using hw) _, blk_far h.st hg _, h.bl.setCell (Nat.le_refl _) _⟩
  have := (h.out.stored k (.bool (brA l k))).1
  rwa [outB_set] at this
theorem RB.drew {l : List Int} {w : World} {B1 B2 g cc cw k k2 : Nat} {Ac Aw : Option Addr} {W : World} (h : RB l w B1 B2 g Ac cc Aw cw k k2 W) : RB l w B1 B2 g Ac cc Aw cw k k2 W.drew := ⟨h.out, h.cs, h.ws, h.st, pw_below_drewN h.bl 1⟩
theorem RB.take {l : List Int} {w : World} {B1 B2 g gc gw cc cw k : Nat} {W W2 : World} (h : RB l w B1 B2 g (some ⟨gc, 0, none⟩) cc (some ⟨gw, 0, none⟩) cw k (k + 1) W) (hc : gc ≠ g) (hw : gw ≠ g) (hg : g ≠ w.heap.size) {c : Int} {d : Int} {b : Bool} (ec : classF (l.getD k 0) = c) (ed : widthF (l.getD k 0) = d) (eb : b = brA l k) (hi : InvT w.heap.size W W2 g c (takeN (stA l k).2.1 c b) (takeP (stA l k).2.2.1 c d b) (takeP (stA l k).2.2.1 c d b && c == 4)) : RB l w B1 B2 g (some ⟨gc, 0, none⟩) cc (some ⟨gw, 0, none⟩) cw (k + 1) (k + 1) W2 := by
  subst ec ed eb
  refine ⟨hi.kp.own h.out (by simp [Value.ownBlock]; omega) (.inr (by simp [Value.ownBlock])), hi.kp.own h.cs (by simp [Value.ownBlock]; omega) (.inr (by simp [Value.ownBlock])), hi.kp.own h.ws (by simp [Value.ownBlock]; omega) (.inr (by simp [Value.ownBlock])), hi.st, ?_⟩
  exact h.bl.trans hi.bl
set_option maxRecDepth 100000 in
set_option maxHeartbeats 3200000 in
theorem cluster_Breaks.calls (A0 : Option Addr) (c0 : Nat) (l0 : List Int) (r : List Bool) (w : World) (hr0 : Kd.C (Kd.int .i32) w A0 l0.length l0) (hc0 : l0.length ≤ c0) (h : cluster_Breaks.f l0 = some r) :
    Calls Try.prog 22 #[.slice A0 l0.length c0] w fun e w' => ∃ v0_ : Value, e = .returned (v0_) ∧ Kd.R Kd.bool 4 w' w.heap.size (fun _ => True) v0_ r ∧ Below w.heap.size w w' := by
  obtain ⟨i0, hi, hz0, hz1, hz2⟩ := info_parts info4
  have HR0 := Lib.hid hr0
  have hlen : l0.length ≤ 35184372088832 := by
    unfold cluster_Breaks.f at h
    split at h
    · assumption
    · cases h
  have hr : Hid (r = brksF l0) := Lib.hid (by
    unfold cluster_Breaks.f at h
    rw [if_pos hlen] at h
    exact (Option.some.inj h).symm)
  clear hr0 h
  go_enter Try.func22, Try.ntmps22
  go_wp2_with (at_make; refine wpList_make_full _ rfl _ _ 43 rfl w.heap.size 4 i0 (.bool false) 1 Try.underlying43 hi hz0 hz1 .i64 .i64 (l0.length + 1) (l0.length + 1) (l0.length + 1) rfl rfl (by simp) (by simp) (by rw [hz2]; omega) (by unfold maxLen; omega) (by omega) ?_; intro w1 hown1 hgrow1)
  rw [made_false, outB_zero] at hown1
  have HB1 := Lib.hid ((Below.refl w.heap.size w).grown hgrow1 (Nat.le_refl _) (by simp))
  have hsz1 := HB1.out.size
  have HO1 := Lib.hid hown1
  clear hgrow1 hown1
  have HR1 := Lib.hid (Kd.C_below HR0.out HB1.out)
  go_wp2_with (go_at_call 19; refine (linec_Of.calls A0 c0 l0 _ _ HR1.out hc0 (by unfold linec_Of.f; rw [if_pos (by omega)])).mono ?_; rintro e w2 ⟨cs, rfl, hcs, hB2⟩; have HCS := Lib.hid hcs; have HB2 := Lib.hid hB2; clear hcs hB2)
  have hsz2 := HB2.out.size
  have HB12 := Lib.hid (HB1.out.trans (HB2.out.mono hsz1))
  have HR2 := Lib.hid (Kd.C_below HR0.out HB12.out)
  have HO2 := Lib.hid (own_below HO1.out HB2.out)
  refine (cellw_Of.calls A0 c0 l0 _ _ HR2.out hc0 (by unfold cellw_Of.f; rw [if_pos hlen])).mono ?_
  rintro e w3 ⟨ws, rfl, hws, hB3⟩
  have HWS := Lib.hid hws
  have HB3 := Lib.hid hB3
  clear hws hB3
  have hsz3 := HB3.out.size
  have HB13 := Lib.hid (HB12.out.trans (HB3.out.mono (by omega)))
  have HO3 := Lib.hid (own_below HO2.out HB3.out)
  have hco := own_kd HCS.out
  have hwo := own_kd HWS.out
  obtain ⟨Ac, cc, rfl⟩ := own_slice2 hco
  obtain ⟨Aw, cw, rfl⟩ := own_slice2 hwo
  rw [List.length_map] at hco hwo
  have HCO := Lib.hid (own_below hco HB3.out)
  have HWO := Lib.hid hwo
  clear hco hwo
  simp only [List.length_map]
  go_wp2_with fail
  have hBel : Below w.heap.size w (w3.alloc (.cells #[.int .u8 0, .int .i64 0, .bool false, .bool false] 72)) := below_alloc HB13.out _
  have hst0 : StW (w3.alloc (.cells #[.int .u8 0, .int .i64 0, .bool false, .bool false] 72)) w3.heap.size 0 0 false false := by
    exact Array.getElem?_push_size
  have hal := World.grownBy_alloc w3 (.cells #[.int .u8 0, .int .i64 0, .bool false, .bool false] 72) none
  have hb3 := below_alloc (Below.refl w3.heap.size w3) (.cells #[.int .u8 0, .int .i64 0, .bool false, .bool false] 72)
  have ho3 := own_below HO3.out hb3
  have hc3 := own_below HCO.out hb3
  have hw3 := own_below HWO.out hb3
  have hwlt : w.heap.size < w1.heap.size := by
    obtain ⟨g, hg, _, hg2, _⟩ := own_some2 HO1.out (by omega)
    injection hg with hg
    injection hg with hg
    omega
  go_loopw [19] (fun i wr => ∃ k : Nat, k ≤ l0.length ∧ i = .int .i64 k ∧ RB l0 w w1.heap.size w2.heap.size w3.heap.size Ac cc Aw cw k k wr) (fun i _ => l0.length - (intOf i).toNat)
  case atStart => exact ⟨0, Nat.zero_le _, rfl, ho3, hc3, hw3, hst0, hBel⟩
  case round =>
    clear hBel hst0 hal hb3 ho3 hc3 hw3
    obtain ⟨k, hk, rfl, hrb⟩ := hrel
    have HRB := Lib.hid hrb
    clear hrb
    by_cases hlt : k < l0.length
    · obtain ⟨gc, rfl, hgc1, hgc2, _⟩ := own_some2 HCO.out (by omega)
      obtain ⟨gw, rfl, hgw1, hgw2, _⟩ := own_some2 HWO.out (by omega)
      have hik : (k : Int) < (l0.length : Int) + 1 := by omega
      obtain ⟨cK, hcK⟩ : ∃ c, classF (l0.getD k 0) = c := ⟨_, rfl⟩
      obtain ⟨wK, hwK⟩ : ∃ c, widthF (l0.getD k 0) = c := ⟨_, rfl⟩
      have HCK := Lib.hid hcK
      have HWK := Lib.hid hwK
      clear hcK hwK
      have e1 : wr.cell? ⟨gc, k, none⟩ = some (.int .u8 cK) := by
        rw [HRB.out.cs.cellAt k (by omega)]
        simp [nums, hlt, ← HCK.out]
      have e2 : wr.cell? ⟨gw, k, none⟩ = some (.int .i64 wK) := by
        rw [HRB.out.ws.cellAt k (by omega)]
        simp [nums, hlt, ← HWK.out]
      have e3 : wr.cell? ⟨w.heap.size, k, none⟩ = some (.bool false) := by
        rw [HRB.out.out.cellAt k (by omega), outB_at _ _ _ (by omega)]
        simp
      have e4 : wr.frozen? ⟨w.heap.size, k, none⟩ = false := HRB.out.out.frozenAt k
      by_cases h0 : k = 0
      · have hb : ((k : Int) == 0) = true := by simpa using h0
        have hbr : Hid (true = brA l0 k) := Lib.hid (by subst h0; simp [brA])
        clear h0
        have HRB5 := Lib.hid (HRB.out.put (by omega) (by omega) (by omega) true hbr.out)
        have d2 : (wr.setCell ⟨w.heap.size, k, none⟩ (.bool true)).cell? ⟨gw, k, none⟩ = some (.int .i64 wK) := by
          rw [HRB5.out.ws.cellAt k (by omega)]
          simp [nums, hlt, ← HWK.out]
        have d3 : (wr.setCell ⟨w.heap.size, k, none⟩ (.bool true)).cell? ⟨w.heap.size, k, none⟩ = some (.bool true) := by
          rw [HRB5.out.out.cellAt k (by omega), outB_at _ _ _ (by omega), ← hbr.out]
          simp
        go_wp2_with fail
        go_region_law (first
          | (go_simp; go_at_call 40; refine (take_any w.heap.size _ w3.heap.size _ _ _ _ cK wK true (stA_flags l0 k).1 (by have := (stA_flags l0 k).2; omega) HRB5.out.drew.st (by omega)).mono ?_; rintro e w6 ⟨rfl, hi6⟩))
        all_goals
          have HRB6 := Lib.hid (HRB5.out.drew.take (by omega) (by omega) (by omega) HCK.out HWK.out hbr.out hi6)
          clear hi6
          go_wp2_with fail
          go_roundw
          case rel => exact ⟨k + 1, by omega, by go_num, HRB6.out⟩
          case measure => simp [intOf]; omega
      · have hb : ((k : Int) == 0) = false := by simpa using h0
        have HK0 := Lib.hid h0
        clear h0
        go_wp2_with fail
        refine (joins_at w wr w3.heap.size _ _ _ _ cK wK HRB.out.st (by omega) HRB.out.bl).mono ?_
        rintro e w4 ⟨rfl, hst4, hB4, hk4⟩
        have HRB4 : Hid (RB l0 w w1.heap.size w2.heap.size w3.heap.size (some ⟨gc, 0, none⟩) cc (some ⟨gw, 0, none⟩) cw k k w4) := Lib.hid ⟨hk4.own HRB.out.out (by simp [Value.ownBlock]; omega) (.inr (by simp [Value.ownBlock])), hk4.own HRB.out.cs (by simp [Value.ownBlock]; omega) (.inr (by simp [Value.ownBlock])), hk4.own HRB.out.ws (by simp [Value.ownBlock]; omega) (.inr (by simp [Value.ownBlock])), hst4, hB4⟩
        have e1' : w4.cell? ⟨gc, k, none⟩ = some (.int .u8 cK) := keep_cell hk4 e1 (by show gc ≠ _; omega)
        have e2' : w4.cell? ⟨gw, k, none⟩ = some (.int .i64 wK) := keep_cell hk4 e2 (by show gw ≠ _; omega)
        have e3' : w4.cell? ⟨w.heap.size, k, none⟩ = some (.bool false) := keep_cell hk4 e3 (by show w.heap.size ≠ _; omega)
        have e4' : w4.frozen? ⟨w.heap.size, k, none⟩ = false := HRB4.out.out.frozenAt k
        clear hst4 hB4 hk4 e1 e2 e3 e4
        have hbr0 : Hid ((!joinsB (stA l0 k).1 (stA l0 k).2.1 (stA l0 k).2.2.2 cK wK) = brA l0 k) := Lib.hid (by
          have := HK0.out
          simp [brA, this, ← HCK.out, ← HWK.out])
        obtain ⟨jb, hjb⟩ : ∃ b, joinsB (stA l0 k).1 (stA l0 k).2.1 (stA l0 k).2.2.2 cK wK = b := ⟨_, rfl⟩
        rw [hjb] at hbr0
        rw [hjb]
        clear hjb
        cases jb
        · have hbr : Hid (true = brA l0 k) := Lib.hid hbr0.out
          clear hbr0
          have HRB5 := Lib.hid (HRB4.out.put (by omega) (by omega) (by omega) true hbr.out)
          have d2 : (w4.setCell ⟨w.heap.size, k, none⟩ (.bool true)).cell? ⟨gw, k, none⟩ = some (.int .i64 wK) := by
            rw [HRB5.out.ws.cellAt k (by omega)]
            simp [nums, hlt, ← HWK.out]
          have d3 : (w4.setCell ⟨w.heap.size, k, none⟩ (.bool true)).cell? ⟨w.heap.size, k, none⟩ = some (.bool true) := by
            rw [HRB5.out.out.cellAt k (by omega), outB_at _ _ _ (by omega), ← hbr.out]
            simp
          go_wp2_with fail
          go_region_law (first
            | (go_simp; go_at_call 40; refine (take_any w.heap.size _ w3.heap.size _ _ _ _ cK wK true (stA_flags l0 k).1 (by have := (stA_flags l0 k).2; omega) HRB5.out.drew.st (by omega)).mono ?_; rintro e w6 ⟨rfl, hi6⟩))
          all_goals
            have HRB6 := Lib.hid (HRB5.out.drew.take (by omega) (by omega) (by omega) HCK.out HWK.out hbr.out hi6)
            clear hi6
            go_wp2_with fail
            go_roundw
            case rel => exact ⟨k + 1, by omega, by go_num, HRB6.out⟩
            case measure => simp [intOf]; omega
        · have hbr : Hid (false = brA l0 k) := Lib.hid hbr0.out
          clear hbr0
          have HRB5 := Lib.hid (HRB4.out.put (by omega) (by omega) (by omega) false hbr.out)
          have d2 : (w4.setCell ⟨w.heap.size, k, none⟩ (.bool false)).cell? ⟨gw, k, none⟩ = some (.int .i64 wK) := by
            rw [HRB5.out.ws.cellAt k (by omega)]
            simp [nums, hlt, ← HWK.out]
          have d3 : (w4.setCell ⟨w.heap.size, k, none⟩ (.bool false)).cell? ⟨w.heap.size, k, none⟩ = some (.bool false) := by
            rw [HRB5.out.out.cellAt k (by omega), outB_at _ _ _ (by omega), ← hbr.out]
            simp
          go_wp2_with fail
          go_region_law (first
            | (go_simp; go_at_call 40; refine (take_any w.heap.size _ w3.heap.size _ _ _ _ cK wK false (stA_flags l0 k).1 (by have := (stA_flags l0 k).2; omega) HRB5.out.drew.st (by omega)).mono ?_; rintro e w6 ⟨rfl, hi6⟩))
          all_goals
            have HRB6 := Lib.hid (HRB5.out.drew.take (by omega) (by omega) (by omega) HCK.out HWK.out hbr.out hi6)
            clear hi6
            go_wp2_with fail
            go_roundw
            case rel => exact ⟨k + 1, by omega, by go_num, HRB6.out⟩
            case measure => simp [intOf]; omega
    · have : k = l0.length := by omega
      subst this
      have e3 : wr.cell? ⟨w.heap.size, l0.length, none⟩ = some (.bool false) := by
        rw [HRB.out.out.cellAt _ (by omega), outB_at _ _ _ (by omega)]
        simp
      have e4 : wr.frozen? ⟨w.heap.size, l0.length, none⟩ = false := HRB.out.out.frozenAt _
      go_wp2_with fail
      go_ret
      refine ⟨_, rfl, ?_, HRB.out.bl.setCell (Nat.le_refl _) _⟩
      have h1 := (HRB.out.out.stored l0.length (.bool true)).1
      rw [outB_last] at h1
      rw [hr.out]
      refine kd_bools ?_
      simpa [brksF] using h1
end Go.Proofs.Ytphhgmhgkendaaa
