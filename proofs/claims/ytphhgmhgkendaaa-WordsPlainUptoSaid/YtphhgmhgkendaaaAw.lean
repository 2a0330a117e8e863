/-
  law32.parts (a text's words, with bars between them) and law32.awake (the document's examples): what each hands back. The condition of parts: the text is short, and words.Of answers.
-/
import Derived.Test.YtphhgmhgkendaaaFx8
import Derived.Laws.Cover4
import Derived.Laws.IdiomStrings
namespace Go.Proofs.Ytphhgmhgkendaaa
open Go.RowKit Go.Proofs.YtphhgmhgkendaaaW.PrintWords

/-- The words' texts, each behind a bar. -/
def partsF (rs : List Int) : List F.S48 → ByteArray → ByteArray
  | [], out => out
  | x :: xs, out => partsF rs xs ((out ++ ⟨#[124]⟩) ++ runesBytes ((rs.take x.f1.toNat).drop x.f0.toNat))

theorem add_at (b o j : Nat) : (Addr.add ⟨b, o, none⟩ j) = ⟨b, o + j, none⟩ := by
  unfold Addr.add
  split
  · rename_i h0
    rw [h0, Nat.add_zero]
  · rfl
/-- A part of a row of runes, as a string. -/
theorem part_conv (w : World) (b p q cap : Nat) (rs : List Int) (hr : Kd.C (Kd.int .i32) w (some ⟨b, 0, none⟩) rs.length rs) (hpq : p < q) (hq : q ≤ rs.length) :
    (convert 35 9 (.slice (some ⟨b, p, none⟩) (q - p) cap)).run Try.prog w = .ok (.string (runesBytes ((rs.take q).drop p))) w := by
  have hlen : ((rs.take q).drop p).length = q - p := by simp; omega
  have h := run_convert_runes (P := Try.prog) w 35 9 21 ⟨b, p, none⟩ (q - p) cap ((rs.take q).drop p) (by omega) Try.underlying35 Try.underlying21 Try.underlying9 (fun j hj => by
    rw [hlen] at hj
    obtain ⟨ad, e, c⟩ := c_at hr (j := p + j) (x := rs[p + j]) (List.getElem?_eq_getElem (by omega))
    injection e with e
    subst e
    rw [add_at] at c ⊢
    rw [Nat.zero_add] at c
    rw [c]
    have : ((rs.take q).drop p).getD j 0 = rs[p + j] := by
      rw [List.getD_eq_getElem?_getD, List.getElem?_drop, List.getElem?_take, if_pos (by omega), List.getElem?_eq_getElem (by omega)]
      rfl
    rw [this])
  rw [h, ← hlen, List.take_length]
theorem part_size (p q : Nat) (rs : List Int) (hl : rs.length ≤ 1000) : (runesBytes ((rs.take q).drop p)).size ≤ 4000 := by
  have h := runesBytes_size_le ((rs.take q).drop p)
  have h2 : ((rs.take q).drop p).length ≤ rs.length := by simp; omega
  omega
theorem runes_conv (s : ByteArray) (rs : List Int) (w : World) (hs : Conv.runesFrom s s.size 0 #[] = (rs.map (Value.int .i32)).toArray) (hl : rs.length ≤ 1000) :
    ∃ cap w1, (convert 9 35 (.string s)).run Try.prog w = .ok (.slice (some ⟨w.heap.size, 0, none⟩) rs.length cap) w1 ∧ rs.length ≤ cap ∧ Kd.C (Kd.int .i32) w1 (some ⟨w.heap.size, 0, none⟩) rs.length rs ∧ Below w.heap.size w w1 := by
  have h := run_runes_of_string (P := Try.prog) w 9 35 21 s Try.underlying9 Try.underlying35 Try.underlying21 (by rw [hs]; simp; omega)
  rw [hs] at h
  simp only [List.size_toArray, List.length_map] at h
  refine ⟨_, _, h, grownCap_ge _ _ _ _, ?_, ?_⟩
  · refine Kd.C_of_reads (d := (0 : Int)) (h1 := fun _ => rfl) ⟨rfl, by omega, fun _ => ⟨_, rfl, fun j hj => ?_⟩⟩
    rw [add_at, Nat.zero_add]
    have hs2 : w.heap.size = w.drew.heap.size := rfl
    rw [hs2, World.cell?_alloc_mark]
    have hj' : j < rs.length := hj
    rw [Array.getElem?_append_left (by simpa using hj')]
    simp [hj', List.getD_eq_getElem?_getD]
  · exact below_alloc (pw_below_drewN (Below.refl w.heap.size w) 1) _

set_option maxRecDepth 100000 in
set_option maxHeartbeats 1600000 in
theorem parts_calls (s : ByteArray) (rs : List Int) (K : Nat) (xs : List F.S48) (w : World) (hs : Conv.runesFrom s s.size 0 #[] = (rs.map (Value.int .i32)).toArray) (hl : rs.length ≤ 1000)
    (hx : F.words_Of.f K rs = some xs) (hxl : xs.length ≤ 1000) (hok : ∀ x ∈ xs, 0 ≤ x.f0 ∧ x.f0 < x.f1 ∧ x.f1 ≤ rs.length) :
    Calls Try.prog 41 #[.string s] w fun e w' => e = .returned (.string (partsF rs xs .empty)) ∧ Below w.heap.size w w' := by
  obtain ⟨Z, hZ⟩ : ∃ Z, partsF rs xs .empty = Z := ⟨_, rfl⟩
  rw [hZ]
  have HZ := Lib.hid hZ
  clear hZ
  obtain ⟨cap, w1, hconv, hcap, hr, hB⟩ := runes_conv s rs w hs hl
  have HR := Lib.hid hr
  have HB := Lib.hid hB
  have HOK := Lib.hid hok
  clear hr hB hok hs
  go_enter Try.func41, Try.ntmps41
  go_wp2_with fail
  refine (F.words_Of.calls K _ _ rs xs _ HR.out hcap hx).mono ?_
  rintro e w2 ⟨v, rfl, hrow, hB2⟩
  obtain ⟨A, c, rfl⟩ := Kd.R_slice hrow
  have HO := Lib.hid hrow
  have HBB := Lib.hid (HB.out.trans (hB2.mono HB.out.size))
  have HR2 := Lib.hid (Kd.C_below HR.out hB2)
  clear hrow hB2 hx hconv
  go_wp2_with fail
  go_loopw [4, 12] (fun o i wr => ∃ (k : Nat) (acc : ByteArray), k ≤ xs.length ∧ i = .int .i64 k ∧ o = .string acc ∧ Hid (partsF rs (xs.drop k) acc = Z ∧ acc.size ≤ 4001 * k) ∧ Below w2.heap.size w2 wr) (fun _ i _ => xs.length - (intOf i).toNat)
  case atStart => exact ⟨0, .empty, Nat.zero_le _, rfl, rfl, Lib.hid ⟨HZ.out, by simp⟩, Below.refl _ _⟩
  case round =>
    clear HZ
    obtain ⟨k, acc, hk, rfl, rfl, hz, hB⟩ := hrel
    by_cases hlt : k < xs.length
    · obtain ⟨x, hx⟩ : ∃ x, xs[k]? = some x := ⟨_, List.getElem?_eq_getElem hlt⟩
      obtain ⟨h0, h1, h2⟩ := HOK.out x (List.mem_of_getElem? hx)
      obtain ⟨p, hp⟩ : ∃ p : Nat, x.f0 = (p : Int) := ⟨x.f0.toNat, by omega⟩
      obtain ⟨q, hq⟩ : ∃ q : Nat, x.f1 = (q : Int) := ⟨x.f1.toNat, by omega⟩
      rw [hp, hq] at h1
      rw [hq] at h2
      have hpq : p < q := by omega
      have hql : q ≤ rs.length := by omega
      obtain ⟨ad, rfl, c0, c1⟩ := F.at_T48 (Kd.R_reads' HO.out).2.2 (k : Int) (by omega) (by omega)
      have hrd : F.rd_T48 xs (k : Int) = x := by
        unfold F.rd_T48
        rw [Int.toNat_natCast, List.getD_eq_getElem?_getD, hx]
        rfl
      rw [hrd, hp, Int.toNat_natCast] at c0
      rw [hrd, hq, Int.toNat_natCast] at c1
      have d0 := pw_cell_below hB c0
      have d1 := pw_cell_below hB c1
      have HX := Lib.hid hx
      have HP := Lib.hid hp
      have HQ := Lib.hid hq
      clear hx hrd hp hq h0 h1 h2 c0 c1
      have hal := below_alloc hB (.cells #[.int .i64 (p : Int), .int .i64 (q : Int)] 48)
      have hcv := part_conv (wr.alloc (.cells #[.int .i64 (p : Int), .int .i64 (q : Int)] 48)) w.heap.size p q (cap - p) rs (Kd.C_below HR2.out hal) hpq hql
      have hps := part_size p q rs hl
      obtain ⟨piece, hpc⟩ : ∃ b, runesBytes ((rs.take q).drop p) = b := ⟨_, rfl⟩
      rw [hpc] at hcv hps
      have hsz := hz.out.2
      have hs1 : acc.size + 1 ≤ 9223372036854775807 := by omega
      have hs2 : acc.size + 1 + piece.size ≤ 9223372036854775807 := by omega
      have hn : Hid (partsF rs (xs.drop (k + 1)) ((acc ++ ⟨#[124]⟩) ++ piece) = Z) := Lib.hid (by
        rw [← hz.out.1, List.drop_eq_getElem_cons hlt]
        have e : xs[k] = x := by
          have := HX.out
          rw [List.getElem?_eq_getElem hlt] at this
          exact Option.some.inj this
        rw [e, partsF, HP.out, HQ.out, Int.toNat_natCast, Int.toNat_natCast, hpc])
      have HAL := Lib.hid hal
      clear hal hpc
      go_wp2_with fail
      go_roundw
      case rel => exact ⟨k + 1, _, by omega, by go_num, rfl, Lib.hid ⟨hn.out, by rw [ByteArray.size_append, ByteArray.size_append]; show acc.size + 1 + piece.size ≤ _; omega⟩, HAL.out⟩
      case measure => simp [intOf]; omega
    · have : k = xs.length := by omega
      subst this
      have hzz : acc = Z := by rw [← hz.out.1, List.drop_length]; rfl
      subst hzz
      go_wp2_with fail
      go_ret
      exact ⟨rfl, HBB.out.trans (hB.mono HBB.out.size)⟩

theorem runes_ascii (bs : List UInt8) (h : ∀ b ∈ bs, b.toNat < 128) (n : Nat) : ∀ (i : Nat) (acc : Array Value), i + n = bs.length → Conv.runesFrom ⟨bs.toArray⟩ n i acc = acc ++ ((bs.drop i).map fun b => Value.int .i32 (b.toNat : Int)).toArray := by
  induction n with
  | zero =>
    intro i acc hi
    rw [List.drop_of_length_le (by omega)]
    simp [Conv.runesFrom]
  | succ n ih =>
    intro i acc hi
    have hlt : i < bs.length := by omega
    have hg : (ByteArray.get! ⟨bs.toArray⟩ i) = bs[i] := by
      simp [ByteArray.get!, hlt]
    have hd : Utf8.decode ⟨bs.toArray⟩ i = (bs[i].toNat, 1) := by
      unfold Utf8.decode
      simp only [Nat.add_zero, hg]
      rw [if_pos (h _ (List.getElem_mem hlt))]
    unfold Conv.runesFrom
    rw [if_pos (by simpa [ByteArray.size] using hlt), hd]
    simp only []
    rw [ih (i + 1) _ (by omega), List.drop_eq_getElem_cons hlt]
    apply Array.ext'
    simp only [Array.toList_append, Array.toList_push, List.map_cons, List.append_assoc, List.cons_append, List.nil_append]
    rfl
theorem runes_of (bs : List UInt8) (rs : List Int) (h : (bs.all fun b => decide (b.toNat < 128)) = true) (hr : rs = bs.map fun b => (b.toNat : Int)) : Conv.runesFrom ⟨bs.toArray⟩ (ByteArray.size ⟨bs.toArray⟩) 0 #[] = (rs.map (Value.int .i32)).toArray := by
  subst hr
  rw [show ByteArray.size ⟨bs.toArray⟩ = bs.length from by simp [ByteArray.size], runes_ascii bs (by simpa using h) bs.length 0 #[] (by omega)]
  simp
theorem r2 : Conv.runesFrom ⟨#[97, 46, 46, 98]⟩ (ByteArray.size ⟨#[97, 46, 46, 98]⟩) 0 #[] = (([97, 46, 46, 98] : List Int).map (Value.int .i32)).toArray := runes_of [97, 46, 46, 98] _ (by decide) (by decide)
theorem r1 : Conv.runesFrom ⟨#[105, 116, 39, 115, 32, 51, 46, 53, 44, 32, 110, 111]⟩ (ByteArray.size ⟨#[105, 116, 39, 115, 32, 51, 46, 53, 44, 32, 110, 111]⟩) 0 #[] = (([105, 116, 39, 115, 32, 51, 46, 53, 44, 32, 110, 111] : List Int).map (Value.int .i32)).toArray := runes_of [105, 116, 39, 115, 32, 51, 46, 53, 44, 32, 110, 111] _ (by decide) (by decide)
/-- What parts makes of the spans of an example. -/
def okB (rs : List Int) (want : List UInt8) (xs : List F.S48) : Bool := xs.all (fun x => decide (0 ≤ x.f0) && decide (x.f0 < x.f1) && decide (x.f1 ≤ rs.length)) && decide (xs.length ≤ 1000) && ((partsF rs xs .empty).data.toList == want)
def anyB (o : Option (List F.S48)) (p : List F.S48 → Bool) : Bool :=
  match o with
  | some xs => p xs
  | none => false
theorem anyB_some (o : Option (List F.S48)) (p : List F.S48 → Bool) (h : anyB o p = true) : ∃ xs, o = some xs ∧ p xs = true := by
  cases o with
  | none => cases h
  | some xs => exact ⟨xs, rfl, h⟩
theorem okB_all (rs : List Int) (want : List UInt8) (xs : List F.S48) (h : okB rs want xs = true) : (∀ x ∈ xs, 0 ≤ x.f0 ∧ x.f0 < x.f1 ∧ x.f1 ≤ rs.length) ∧ xs.length ≤ 1000 ∧ (partsF rs xs .empty).data.toList = want := by
  unfold okB at h
  simp only [Bool.and_eq_true, decide_eq_true_eq, beq_iff_eq, List.all_eq_true] at h
  exact ⟨fun x hx => ⟨(h.1.1 x hx).1.1, (h.1.1 x hx).1.2, (h.1.1 x hx).2⟩, h.1.2, h.2⟩
theorem ex1 : anyB (F.words_Of.f 40 [105, 116, 39, 115, 32, 51, 46, 53, 44, 32, 110, 111]) (okB [105, 116, 39, 115, 32, 51, 46, 53, 44, 32, 110, 111] [124, 105, 116, 39, 115, 124, 32, 124, 51, 46, 53, 124, 44, 124, 32, 124, 110, 111]) = true := by decide +kernel
theorem ex2 : anyB (F.words_Of.f 40 [97, 46, 46, 98]) (okB [97, 46, 46, 98] [124, 97, 124, 46, 124, 46, 124, 98]) = true := by decide +kernel
theorem bytes_eq (b : ByteArray) (l : List UInt8) (h : b.data.toList = l) : b = ⟨l.toArray⟩ := by
  subst h
  rfl
theorem parts_ex (s : ByteArray) (rs : List Int) (want : List UInt8) (w : World) (K : Nat) (h : anyB (F.words_Of.f K rs) (okB rs want) = true) (hs : Conv.runesFrom s s.size 0 #[] = (rs.map (Value.int .i32)).toArray) (hl : rs.length ≤ 1000) :
    Calls Try.prog 41 #[.string s] w fun e w' => e = .returned (.string ⟨want.toArray⟩) ∧ Below w.heap.size w w' := by
  obtain ⟨xs, hx, h4⟩ := anyB_some _ _ h
  obtain ⟨h1, h2, h3⟩ := okB_all rs want xs h4
  rw [← bytes_eq _ _ h3]
  exact parts_calls s rs K xs w hs hl hx h2 h1
theorem parts1 (w : World) : Calls Try.prog 41 #[.string ⟨#[105, 116, 39, 115, 32, 51, 46, 53, 44, 32, 110, 111]⟩] w fun e w' => e = .returned (.string ⟨#[124, 105, 116, 39, 115, 124, 32, 124, 51, 46, 53, 124, 44, 124, 32, 124, 110, 111]⟩) ∧ Below w.heap.size w w' :=
  parts_ex _ _ _ w 40 ex1 r1 (by decide)
theorem parts2 (w : World) : Calls Try.prog 41 #[.string ⟨#[97, 46, 46, 98]⟩] w fun e w' => e = .returned (.string ⟨#[124, 97, 124, 46, 124, 46, 124, 98]⟩) ∧ Below w.heap.size w w' :=
  parts_ex _ _ _ w 40 ex2 r2 (by decide)
def boustrophedonlaw32_awake.f : Option Bool := some true
set_option maxRecDepth 100000 in
theorem boustrophedonlaw32_awake.calls (r : Bool) (w : World) (h : boustrophedonlaw32_awake.f = some r) : Calls Try.prog 26 #[] w fun e w' => e = .returned (.bool r) ∧ Below w.heap.size w w' := by
  obtain rfl := Option.some.inj h
  clear h
  go_enter Try.func26, Try.ntmps26
  go_wp2_with fail
  refine (parts1 _).mono ?_
  rintro e w1 ⟨rfl, hB1⟩
  have HB1 := Lib.hid hB1
  clear hB1
  go_wp2_with fail
  refine (parts2 _).mono ?_
  rintro e w2 ⟨rfl, hB2⟩
  have HB2 := Lib.hid hB2
  clear hB2
  go_wp2_with fail
  go_ret
  exact ⟨rfl, HB1.out.trans (HB2.out.mono HB1.out.size)⟩
end Go.Proofs.Ytphhgmhgkendaaa
