/-
  Words in plain lists: what words.Kinds, words.Breaks and words.Of answer. Their condition: the text has at most 8388608 scalars.
-/
import Derived.Test.YtphhgmhgkendaaaFx8
import Derived.Test.YtphhgmhgkendaaaJn
namespace Go.Proofs.Ytphhgmhgkendaaa.Pure
open Go.RowKit Go.Proofs.Ytphhgmhgkendaaa.F Go.Proofs.YtphhgmhgkendaaaW.PrintWords Go.Proofs.YtphhgmhgkendaaaW.PrintLast

theorem wrap64_i {x : Int} (h0 : -9223372036854775808 ≤ x) (h1 : x ≤ 9223372036854775807) : wrap64 x = x := IntWalk.wrap64_in _ ⟨h0, h1⟩
theorem bind_of {α β : Type} {x : Option α} {a : α} (h : x = some a) (f : α → Option β) : x.bind f = f a := by
  subst h
  rfl
theorem brks_length (l : List Int) : (brksF l).length = l.length + 1 := by simp [brksF]
theorem brks_last (l : List Int) : rdOf false (brksF l) (l.length : Int) = true := by
  simp [rdOf, brksF, List.getD_eq_getElem?_getD]
theorem brks_at (l : List Int) (i : Nat) (h : i < l.length) : rdOf false (brksF l) (i : Int) = brA l i := by
  simp [rdOf, brksF, List.getD_eq_getElem?_getD, List.getElem?_append_left, h]
theorem brks_zero (l : List Int) : rdOf false (brksF l) 0 = true := by
  by_cases h : l.length = 0
  · have := brks_last l
    rw [h] at this
    exact this
  · have := brks_at l 0 (by omega)
    rw [show ((0 : Nat) : Int) = 0 from rfl] at this
    rw [this]
    rfl
theorem breaks_eq (l : List Int) (hl : l.length ≤ 8388608) : cluster_Breaks.f l = some (brksF l) := by
  unfold cluster_Breaks.f
  rw [if_pos (by omega)]

/-! ### The clusters -/
/-- The spans that the last d boundaries end, where a cluster goes on from a place. -/
def fspF (bs : List Bool) (a : Nat) : Nat → List S48
  | 0 => []
  | d + 1 => if rdOf false bs ((bs.length - (d + 1) : Nat) : Int) = true then (if a < bs.length - (d + 1) then ⟨(a : Int), ((bs.length - (d + 1) : Nat) : Int)⟩ :: fspF bs (bs.length - (d + 1)) d else fspF bs a d) else fspF bs a d
theorem fof_loop (bs : List Bool) (hl : bs.length ≤ 8796093022208) (d : Nat) : ∀ (k a : Nat) (acc : List S48), d ≤ bs.length → acc.length + d ≤ 8796093022208 →
    cluster_Of.l0 (k + d + 1) acc (a : Int) bs (bs.length : Int) ((bs.length - d : Nat) : Int) = some (acc ++ fspF bs a d) := by
  induction d with
  | zero =>
    intro k a acc _ _
    simp only [cluster_Of.l0]
    rw [if_neg (by omega), fspF, List.append_nil]
  | succ d ih =>
    intro k a acc hd ha
    rw [show k + (d + 1) + 1 = (k + d + 1) + 1 by omega]
    have ih1 := ih k a acc (by omega) (by omega)
    have ih2 := ih k (bs.length - (d + 1)) (acc ++ [⟨(a : Int), ((bs.length - (d + 1) : Nat) : Int)⟩]) (by omega) (by simp; omega)
    generalize k + d + 1 = K at ih1 ih2 ⊢
    simp only [cluster_Of.l0, fspF]
    rw [if_pos (by omega), if_pos (by omega), if_pos (by omega), wrap64_i (by omega) (by omega), show (((bs.length - (d + 1) : Nat) : Int) + 1) = ((bs.length - d : Nat) : Int) by omega]
    by_cases g1 : rdOf false bs ((bs.length - (d + 1) : Nat) : Int) = true
    · rw [if_pos g1, if_pos g1]
      by_cases g3 : a < bs.length - (d + 1)
      · rw [if_pos (by omega), if_pos (by omega), if_pos g3, if_pos (by omega), ih2]
        simp
      · rw [if_neg g3]
        by_cases g2 : 0 < bs.length - (d + 1)
        · rw [if_pos (by omega), if_neg (by omega), ih1]
        · rw [if_neg (by omega), ih1]
    · rw [if_neg g1, if_neg g1, ih1]
theorem fsp_first (bs : List Bool) (n : Nat) (hb : bs.length = n + 1) : fspF bs 0 (n + 1) = fspF bs 0 n := by
  rw [fspF]
  rw [if_neg (by omega : ¬ 0 < bs.length - (n + 1))]
  split <;> rfl
/-- A text's clusters. -/
def clF (l : List Int) : List S48 := fspF (brksF l) 0 l.length
theorem of_eq (l : List Int) (hl : l.length ≤ 8388608) (k : Nat) (hk : l.length + 2 ≤ k) : cluster_Of.f k l = some (clF l) := by
  unfold cluster_Of.f
  refine (bind_of (breaks_eq l hl) _).trans ?_
  have := fof_loop (brksF l) (by rw [brks_length]; omega) (l.length + 1) (k - l.length - 2) 0 [] (by rw [brks_length]; exact Nat.le_refl _) (by simp; omega)
  rw [brks_length, Nat.sub_self, show k - l.length - 2 + (l.length + 1) + 1 = k by omega, fsp_first _ _ (brks_length l)] at this
  rw [brks_length]
  exact this
/-- Spans that follow one another from a place on, up to n at most. -/
def Ch (n : Nat) : Nat → List S48 → Prop
  | _, [] => True
  | a, x :: xs => ∃ b : Nat, x = ⟨(a : Int), (b : Int)⟩ ∧ a < b ∧ b ≤ n ∧ Ch n b xs
theorem fsp_ch (bs : List Bool) (n : Nat) (hb : bs.length = n + 1) (d : Nat) : ∀ a, Ch n a (fspF bs a d) := by
  induction d with
  | zero =>
    intro a
    trivial
  | succ d ih =>
    intro a
    simp only [fspF]
    split
    · split
      · exact ⟨_, rfl, by assumption, by omega, ih _⟩
      · exact ih a
    · exact ih a
theorem ch_mem {n : Nat} : ∀ {xs : List S48} {a : Nat}, Ch n a xs → ∀ x ∈ xs, (a : Int) ≤ x.f0 ∧ x.f0 < x.f1 ∧ x.f1 ≤ (n : Int)
  | [], _, _, x, hx => by cases hx
  | y :: ys, a, h, x, hx => by
    obtain ⟨b, rfl, h1, h2, h3⟩ := h
    rcases List.mem_cons.1 hx with rfl | hx
    · exact ⟨Int.le_refl _, by simp only; omega, by simp only; omega⟩
    · obtain ⟨p, q, r⟩ := ch_mem h3 x hx
      exact ⟨by omega, q, r⟩
theorem fsp_length (bs : List Bool) (d : Nat) : ∀ a, (fspF bs a d).length ≤ d := by
  induction d with
  | zero =>
    intro a
    simp [fspF]
  | succ d ih =>
    intro a
    simp only [fspF]
    split
    · split
      · have := ih (bs.length - (d + 1))
        simp only [List.length_cons]
        omega
      · have := ih a
        omega
    · have := ih a
      omega
theorem fsp_break (bs : List Bool) (d : Nat) : ∀ a, ∀ x ∈ fspF bs a d, x.f0 = (a : Int) ∨ rdOf false bs x.f0 = true := by
  induction d with
  | zero =>
    intro a x hx
    simp [fspF] at hx
  | succ d ih =>
    intro a x hx
    simp only [fspF] at hx
    split at hx
    · split at hx
      · rcases List.mem_cons.1 hx with rfl | hx
        · exact .inl rfl
        · rcases ih _ x hx with h | h
          · right
            rw [h]
            assumption
          · exact .inr h
      · exact ih a x hx
    · exact ih a x hx
theorem cl_break (l : List Int) : ∀ x ∈ clF l, rdOf false (brksF l) x.f0 = true := by
  intro x hx
  rcases fsp_break _ _ 0 x hx with h | h
  · rw [h]
    exact brks_zero l
  · exact h
theorem cl_ch (l : List Int) : Ch l.length 0 (clF l) := fsp_ch _ _ (brks_length l) _ _
theorem cl_length (l : List Int) : (clF l).length ≤ l.length := fsp_length _ _ _
theorem fsp_some (bs : List Bool) (hlast : rdOf false bs ((bs.length - 1 : Nat) : Int) = true) (d : Nat) : ∀ a, a < bs.length - 1 → 1 ≤ d → d ≤ bs.length → fspF bs a d ≠ [] := by
  induction d with
  | zero =>
    intro a _ h
    omega
  | succ d ih =>
    intro a ha _ hd
    simp only [fspF]
    by_cases h0 : d = 0
    · subst h0
      rw [if_pos hlast, if_pos ha]
      simp
    · split
      · split
        · simp
        · exact ih a ha (by omega) (by omega)
      · exact ih a ha (by omega) (by omega)
theorem cl_some (l : List Int) (h : 0 < l.length) : clF l ≠ [] := by
  refine fsp_some (brksF l) ?_ _ 0 (by rw [brks_length]; omega) (by omega) (by rw [brks_length]; omega)
  rw [brks_length, Nat.add_sub_cancel]
  exact brks_last l

/-! ### What each cluster is -/
theorem kind_isSome (r c : Int) : (words_kind.f 1 r c).isSome = true := by
  simp only [words_kind.f, words_kind.j0, apply_ite Option.isSome, Option.isSome_some, ite_self]
theorem kind_some (r c : Int) : ∃ v, words_kind.f 1 r c = some v := Option.isSome_iff_exists.1 (kind_isSome r c)
/-- What a cluster is, by its first scalar and that one's class. -/
def kindF (r c : Int) : Int := (words_kind.f 1 r c).getD 0
theorem kind_eq (k : Nat) (r c : Int) : words_kind.f (k + 1) r c = some (kindF r c) := by
  have h : words_kind.f (k + 1) r c = words_kind.f 1 r c := by
    simp only [words_kind.f, words_kind.j0]
  obtain ⟨v, hv⟩ := kind_some r c
  rw [h, kindF, hv]
  rfl
theorem rd_T48_at (xs : List S48) (i : Nat) (h : i < xs.length) : rd_T48 xs (i : Int) = xs[i] := by
  simp [rd_T48, List.getD_eq_getElem?_getD, h]
theorem rd_at (l : List Int) (i : Nat) (h : i < l.length) : rd l (i : Int) = l[i] := by
  simp [rd, List.getD_eq_getElem?_getD, h]
theorem rd_class (l : List Int) (i : Int) (h0 : 0 ≤ i) (h : i < l.length) : rd (l.map classF) i = classF (rd l i) := by
  obtain ⟨j, rfl⟩ : ∃ j : Nat, i = j := ⟨i.toNat, by omega⟩
  rw [rd_at _ _ (by simp; omega), rd_at _ _ (by omega)]
  simp
/-- A cluster's kind. -/
def kdF (l : List Int) (x : S48) : Int := kindF (rd l x.f0) (classF (rd l x.f0))
def ksF (l : List Int) : List Int := (clF l).map (kdF l)
theorem kinds_loop (l : List Int) (hl : l.length ≤ 8388608) (xs : List S48) (hx : xs.length ≤ l.length) (hok : ∀ x ∈ xs, 0 ≤ x.f0 ∧ x.f0 < l.length) (d : Nat) : ∀ (i : Nat) (acc : List Int), i + d = xs.length → acc.length ≤ i → ∀ k, d + 2 ≤ k →
    words_Kinds.l0 k l (l.map classF) acc xs (xs.length : Int) (i : Int) = some (acc ++ (xs.drop i).map (kdF l)) := by
  induction d with
  | zero =>
    intro i acc hi _ k hk
    obtain ⟨k, rfl⟩ : ∃ m, k = m + 1 := ⟨k - 1, by omega⟩
    simp only [words_Kinds.l0]
    rw [if_neg (by omega), List.drop_of_length_le (by omega)]
    simp
  | succ d ih =>
    intro i acc hi ha k hk
    obtain ⟨k, rfl⟩ : ∃ m, k = m + 1 + 1 := ⟨k - 2, by omega⟩
    have hlt : i < xs.length := by omega
    obtain ⟨h0, h1⟩ := hok xs[i] (List.getElem_mem hlt)
    have ihk := ih (i + 1) (acc ++ [kdF l xs[i]]) (by omega) (by simp; omega) (k + 1) (by omega)
    have hkd := kind_eq k (rd l xs[i].f0) (rd (l.map classF) xs[i].f0)
    generalize k + 1 = K at ihk hkd ⊢
    simp only [words_Kinds.l0]
    rw [rd_T48_at xs i hlt, if_pos (by omega), if_pos (by omega), if_pos (by omega), if_pos h0, if_pos h1, if_pos (by rw [List.length_map]; exact h1), hkd, Option.bind_some, if_pos (by omega), wrap64_i (by omega) (by omega), rd_class l _ h0 h1]
    rw [show ((i + 1 : Nat) : Int) = (i : Int) + 1 by omega] at ihk
    have e : kindF (rd l xs[i].f0) (classF (rd l xs[i].f0)) = kdF l xs[i] := rfl
    rw [e, ihk, List.drop_eq_getElem_cons hlt, List.map_cons, List.append_assoc]
    rfl
theorem linec_eq (l : List Int) (hl : l.length ≤ 8388608) : linec_Of.f l = some (l.map classF) := by
  unfold linec_Of.f
  rw [if_pos (by omega)]
theorem cl_ok (l : List Int) : ∀ x ∈ clF l, 0 ≤ x.f0 ∧ x.f0 < l.length := fun x hx => by
  have := ch_mem (cl_ch l) x hx
  omega
theorem kinds_eq (l : List Int) (hl : l.length ≤ 8388608) (k : Nat) (hk : l.length + 4 ≤ k) : words_Kinds.f k l = some (ksF l) := by
  unfold words_Kinds.f
  refine (bind_of (linec_eq l hl) _).trans ?_
  refine (bind_of (of_eq l hl k (by omega)) _).trans ?_
  have h := kinds_loop l hl (clF l) (cl_length l) (cl_ok l) (clF l).length 0 [] (by omega) (by simp) k (by have := cl_length l; omega)
  rw [List.nil_append, List.drop_zero] at h
  exact h
theorem ks_length (l : List Int) : (ksF l).length = (clF l).length := by simp [ksF]

/-! ### Where words begin and end -/
theorem parts_j2 (ks : List Int) (m : Nat) (hm : m + 1 < ks.length) (hl : ks.length ≤ 8388608) (k : Nat) (x y : Int) (b : Bool) :
    words_parts.j2 (k + 1) ks ((m : Int) + 1) x y b = some (!(b || (decide (0 < m) && x == 3 && ks.getD (m - 1) 0 == 1 && y == 1))) := by
  have w3 : wrap64 ((m : Int) + 1 - 2) = (m : Int) - 1 := by rw [wrap64_i (by omega) (by omega)]; omega
  simp only [words_parts.j2, w3]
  cases b
  · rw [if_neg (by simp)]
    by_cases x3 : x = 3
    · rw [if_pos x3]
      by_cases y1 : y = 1
      · rw [if_pos y1]
        by_cases hm0 : 1 ≤ m
        · have r4 : rd ks ((m : Int) - 1) = ks.getD (m - 1) 0 := by
            unfold rd
            rw [show ((m : Int) - 1).toNat = m - 1 by omega]
          rw [if_pos (by omega), if_pos (by omega), if_pos (by omega), r4]
          have e2 : decide (0 < m) = true := decide_eq_true hm0
          by_cases u1 : ks.getD (m - 1) 0 = 1
          · rw [if_pos u1, u1, x3, y1, e2]
            rfl
          · rw [if_neg u1, e2, beq_eq_false_iff_ne.mpr u1]
            simp
        · rw [if_neg (by omega)]
          have e2 : decide (0 < m) = false := decide_eq_false (by omega)
          rw [e2]
          rfl
      · rw [if_neg y1, beq_eq_false_iff_ne.mpr y1]
        simp
    · rw [if_neg x3, beq_eq_false_iff_ne.mpr x3]
      simp
  · rw [if_pos rfl]
    rfl
theorem parts_j1 (ks : List Int) (m : Nat) (hm : m + 1 < ks.length) (hl : ks.length ≤ 8388608) (k : Nat) (x y : Int) (b : Bool) :
    words_parts.j1 (k + 1 + 1) ks ((m : Int) + 1) x y b = some (!(b || ((decide (m + 2 < ks.length) && y == 3 && x == 1 && ks.getD (m + 2) 0 == 1) || (decide (0 < m) && x == 3 && ks.getD (m - 1) 0 == 1 && y == 1)))) := by
  have w2 : wrap64 ((m : Int) + 1 + 1) = ((m + 2 : Nat) : Int) := by rw [wrap64_i (by omega) (by omega)]; omega
  have hj := parts_j2 ks m hm hl k x y
  generalize k + 1 = K at hj ⊢
  simp only [words_parts.j1, w2, hj]
  have r3 : rd ks ((m + 2 : Nat) : Int) = ks.getD (m + 2) 0 := by
    unfold rd
    rw [Int.toNat_natCast]
  cases b
  · rw [if_neg (by simp), Bool.false_or]
    by_cases x1 : x = 1
    · rw [if_pos x1, x1]
      by_cases y3 : y = 3
      · rw [if_pos y3, y3]
        by_cases hm2 : m + 2 < ks.length
        · rw [if_pos (by omega), if_pos (by omega), r3, decide_eq_true hm2]
          rfl
        · rw [if_neg (by omega), decide_eq_false hm2]
          rfl
      · rw [if_neg y3, beq_eq_false_iff_ne.mpr y3]
        simp
    · rw [if_neg x1, beq_eq_false_iff_ne.mpr x1]
      simp
  · rw [if_pos rfl]
    rfl
theorem parts_j0 (ks : List Int) (m : Nat) (hm : m + 1 < ks.length) (hl : ks.length ≤ 8388608) (k : Nat) (x y : Int) (b : Bool) :
    words_parts.j0 (k + 1 + 1 + 1) ks ((m : Int) + 1) x y b = some (!(b || (x == 2 && y == 2) || ((decide (m + 2 < ks.length) && y == 3 && x == 1 && ks.getD (m + 2) 0 == 1) || (decide (0 < m) && x == 3 && ks.getD (m - 1) 0 == 1 && y == 1)))) := by
  have hj := parts_j1 ks m hm hl k x y
  generalize k + 1 + 1 = K at hj ⊢
  simp only [words_parts.j0, hj]
  cases b
  · rw [if_neg (by simp), Bool.false_or]
    by_cases x2 : x = 2
    · rw [if_pos x2, x2]
      rfl
    · rw [if_neg x2, beq_eq_false_iff_ne.mpr x2]
      rfl
  · rw [if_pos rfl]
    rfl
theorem parts_eq (ks : List Int) (m : Nat) (hm : m + 1 < ks.length) (hl : ks.length ≤ 8388608) (k : Nat) : words_parts.f (k + 3) ks ((m : Int) + 1) = some (!jnB ks (m + 1)) := by
  have w1 : wrap64 ((m : Int) + 1 - 1) = (m : Int) := by rw [wrap64_i (by omega) (by omega)]; omega
  have r1 : rd ks (m : Int) = ks.getD m 0 := by
    unfold rd
    rw [Int.toNat_natCast]
  have r2 : rd ks ((m : Int) + 1) = ks.getD (m + 1) 0 := by
    unfold rd
    rw [show ((m : Int) + 1).toNat = m + 1 by omega]
  have hj0 := parts_j0 ks m hm hl k (ks.getD m 0) (ks.getD (m + 1) 0)
  have hj : jnB ks (m + 1) = ((ks.getD m 0 == 1 && ks.getD (m + 1) 0 == 1) || (ks.getD m 0 == 2 && ks.getD (m + 1) 0 == 2) || ((decide (m + 2 < ks.length) && ks.getD (m + 1) 0 == 3 && ks.getD m 0 == 1 && ks.getD (m + 2) 0 == 1) || (decide (0 < m) && ks.getD m 0 == 3 && ks.getD (m - 1) 0 == 1 && ks.getD (m + 1) 0 == 1))) := by
    have h1 : decide (m + 1 < ks.length) = true := decide_eq_true hm
    simp only [jnB, betB, Nat.add_sub_cancel, h1, Nat.succ_pos, decide_true, Bool.true_and, Bool.and_true]
  rw [hj]
  clear hj
  unfold words_parts.f
  rw [w1, r1, r2, show k + 3 = k + 1 + 1 + 1 from rfl]
  generalize k + 1 + 1 + 1 = K at hj0 ⊢
  have c1 : (0 : Int) ≤ (m : Int) := by omega
  have c2 : (m : Int) < (ks.length : Int) := by omega
  have c3 : (0 : Int) ≤ (m : Int) + 1 := by omega
  have c4 : (m : Int) + 1 < (ks.length : Int) := by omega
  rw [if_pos c1, if_pos c2, if_pos c3, if_pos c4, hj0, hj0]
  by_cases x1 : ks.getD m 0 = 1
  · rw [if_pos x1, x1]
    rfl
  · rw [if_neg x1, beq_eq_false_iff_ne.mpr x1]
    rfl
/-- What is written at the places where spans begin. -/
def setL (g : Nat → Bool) : Nat → List S48 → List Bool → List Bool
  | _, [], o => o
  | i, x :: xs, o => setL g (i + 1) xs (o.set x.f0.toNat (g i))
theorem setL_length (g : Nat → Bool) : ∀ (xs : List S48) (i : Nat) (o : List Bool), (setL g i xs o).length = o.length
  | [], _, _ => rfl
  | x :: xs, i, o => by
    rw [setL, setL_length g xs, List.length_set]
theorem setL_set (g : Nat → Bool) (p : Nat) (b : Bool) : ∀ (xs : List S48) (i : Nat) (o : List Bool), (∀ x ∈ xs, x.f0.toNat ≠ p) → setL g i xs (o.set p b) = (setL g i xs o).set p b
  | [], _, _, _ => rfl
  | x :: xs, i, o, h => by
    rw [setL, setL, List.set_comm _ _ (Ne.symm (h x (by simp)))]
    exact setL_set g p b xs (i + 1) _ (fun y hy => h y (by simp [hy]))
/-- Does a word begin or end ahead of cluster i? -/
def brW (l : List Int) (i : Nat) : Bool := (i == 0) || !jnB (ksF l) i
/-- A text's breaks between words. -/
def wB (l : List Int) : List Bool := (setL (brW l) 0 (clF l) (List.replicate (l.length + 1) false)).set l.length true
theorem wB_length (l : List Int) : (wB l).length = l.length + 1 := by
  rw [wB, List.length_set, setL_length, List.length_replicate]
theorem wbreaks_loop (l : List Int) (hl : l.length ≤ 8388608) (d : Nat) : ∀ (i : Nat) (o : List Bool), i + d = (clF l).length → o.length = l.length + 1 → ∀ k, d + 6 ≤ k →
    words_Breaks.l0 k l o (ksF l) (clF l) ((clF l).length : Int) (i : Int) = some ((setL (brW l) i ((clF l).drop i) o).set l.length true) := by
  induction d with
  | zero =>
    intro i o hi ho k hk
    obtain ⟨k, rfl⟩ : ∃ m, k = m + 1 := ⟨k - 1, by omega⟩
    simp only [words_Breaks.l0]
    rw [if_neg (by omega), if_pos (by omega), if_pos (by omega), List.drop_of_length_le (by omega), Int.toNat_natCast]
    rfl
  | succ d ih =>
    intro i o hi ho k hk
    obtain ⟨k, rfl⟩ : ∃ m, k = m + 3 + 1 := ⟨k - 4, by omega⟩
    have hlt : i < (clF l).length := by omega
    have hcl := cl_length l
    obtain ⟨h0, h1⟩ := cl_ok l (clF l)[i] (List.getElem_mem hlt)
    have ihk := fun b => ih (i + 1) (o.set ((clF l)[i]).f0.toNat b) (by omega) (by rw [List.length_set]; exact ho) (k + 3) (by omega)
    have hp : i ≠ 0 → words_parts.f (k + 3) (ksF l) (i : Int) = some (brW l i) := by
      intro hne
      obtain ⟨m, rfl⟩ : ∃ m, i = m + 1 := ⟨i - 1, by omega⟩
      have := parts_eq (ksF l) m (by rw [ks_length]; omega) (by rw [ks_length]; omega) k
      rw [show ((m + 1 : Nat) : Int) = (m : Int) + 1 by omega, this]
      simp [brW]
    generalize k + 3 = K at ihk hp ⊢
    simp only [words_Breaks.l0]
    rw [rd_T48_at _ i hlt, if_pos (by omega), if_pos (by omega), if_pos (by omega), wrap64_i (by omega) (by omega)]
    rw [show ((i + 1 : Nat) : Int) = (i : Int) + 1 by omega] at ihk
    have hd : setL (brW l) i ((clF l).drop i) o = setL (brW l) (i + 1) ((clF l).drop (i + 1)) (o.set ((clF l)[i]).f0.toNat (brW l i)) := by
      rw [List.drop_eq_getElem_cons hlt]
      rfl
    rw [hd]
    by_cases hz : i = 0
    · subst hz
      rw [if_pos (by rfl), if_pos h0, if_pos (by omega)]
      exact ihk true
    · rw [if_neg (by omega), hp hz, Option.bind_some, if_pos h0, if_pos (by omega)]
      exact ihk (brW l i)
theorem wbreaks_eq (l : List Int) (hl : l.length ≤ 8388608) (k : Nat) (hk : l.length + 8 ≤ k) : words_Breaks.f k l = some (wB l) := by
  unfold words_Breaks.f
  have e : wrap64 ((l.length : Int) + 1) = ((l.length + 1 : Nat) : Int) := by rw [wrap64_i (by omega) (by omega)]; omega
  rw [e, Int.toNat_natCast, if_pos (by omega), if_pos (by omega)]
  refine (bind_of (kinds_eq l hl k (by omega)) _).trans ?_
  refine (bind_of (of_eq l hl k (by omega)) _).trans ?_
  have h := wbreaks_loop l hl (clF l).length 0 (List.replicate (l.length + 1) false) (by omega) (by simp) k (by have := cl_length l; omega)
  rw [List.drop_zero] at h
  exact h
/-- The words that the last d boundaries end, where a word goes on from a place. -/
def wsF (bs : List Bool) (a : Nat) : Nat → List S48
  | 0 => []
  | d + 1 => if rdOf false bs ((bs.length - (d + 1) : Nat) : Int) = true then (if a < bs.length - (d + 1) then ⟨(a : Int), ((bs.length - (d + 1) : Nat) : Int)⟩ :: wsF bs (bs.length - (d + 1)) d else wsF bs a d) else wsF bs a d
theorem wof_loop (bs : List Bool) (hl : bs.length ≤ 8796093022208) (d : Nat) : ∀ (k a : Nat) (acc : List S48), d ≤ bs.length → acc.length + d ≤ 8796093022208 →
    words_Of.l0 (k + d + 1) acc (a : Int) bs (bs.length : Int) ((bs.length - d : Nat) : Int) = some (acc ++ wsF bs a d) := by
  induction d with
  | zero =>
    intro k a acc _ _
    simp only [words_Of.l0]
    rw [if_neg (by omega), wsF, List.append_nil]
  | succ d ih =>
    intro k a acc hd ha
    rw [show k + (d + 1) + 1 = (k + d + 1) + 1 by omega]
    have ih1 := ih k a acc (by omega) (by omega)
    have ih2 := ih k (bs.length - (d + 1)) (acc ++ [⟨(a : Int), ((bs.length - (d + 1) : Nat) : Int)⟩]) (by omega) (by simp; omega)
    generalize k + d + 1 = K at ih1 ih2 ⊢
    simp only [words_Of.l0, wsF]
    rw [if_pos (by omega), if_pos (by omega), if_pos (by omega), wrap64_i (by omega) (by omega), show (((bs.length - (d + 1) : Nat) : Int) + 1) = ((bs.length - d : Nat) : Int) by omega]
    by_cases g1 : rdOf false bs ((bs.length - (d + 1) : Nat) : Int) = true
    · rw [if_pos g1, if_pos g1]
      by_cases g3 : a < bs.length - (d + 1)
      · rw [if_pos (by omega), if_pos g3, if_pos (by omega), ih2]
        simp
      · rw [if_neg g3, if_neg (by omega), ih1]
    · rw [if_neg g1, if_neg g1, ih1]
theorem wof_eq (l : List Int) (hl : l.length ≤ 8388608) (k : Nat) (hk : l.length + 8 ≤ k) : words_Of.f k l = some (wsF (wB l) 0 (l.length + 1)) := by
  unfold words_Of.f
  refine (bind_of (wbreaks_eq l hl k hk) _).trans ?_
  have := wof_loop (wB l) (by rw [wB_length]; omega) (l.length + 1) (k - l.length - 2) 0 [] (by rw [wB_length]; exact Nat.le_refl _) (by simp; omega)
  rw [wB_length, Nat.sub_self, show k - l.length - 2 + (l.length + 1) + 1 = k by omega] at this
  rw [wB_length]
  exact this
theorem wB_last (l : List Int) : rdOf false (wB l) (l.length : Int) = true := by
  unfold wB rdOf
  rw [Int.toNat_natCast, List.getD_eq_getElem?_getD, List.getElem?_set]
  simp [setL_length]
theorem setL_true (g : Nat → Bool) (p : Nat) : ∀ (xs : List S48) (i : Nat) (o : List Bool), (setL g i xs o).getD p false = true → o.getD p false = true ∨ ∃ x ∈ xs, x.f0.toNat = p
  | [], _, _, h => .inl h
  | x :: xs, i, o, h => by
    rcases setL_true g p xs (i + 1) _ h with h | ⟨y, hy, e⟩
    · rw [List.getD_eq_getElem?_getD, List.getElem?_set] at h
      split at h
      · exact .inr ⟨x, by simp, by assumption⟩
      · exact .inl (by rwa [List.getD_eq_getElem?_getD])
    · exact .inr ⟨y, by simp [hy], e⟩
/-- A break between words is one between clusters. -/
theorem wB_break (l : List Int) (p : Nat) (h : rdOf false (wB l) (p : Int) = true) : rdOf false (brksF l) (p : Int) = true := by
  unfold wB rdOf at h
  rw [Int.toNat_natCast, List.getD_eq_getElem?_getD, List.getElem?_set] at h
  split at h
  · rename_i e
    rw [← e]
    exact brks_last l
  · rw [← List.getD_eq_getElem?_getD] at h
    rcases setL_true _ p _ _ _ h with h | ⟨x, hx, e⟩
    · rw [List.getD_eq_getElem?_getD, List.getElem?_replicate] at h
      split at h <;> simp at h
    · have h1 := cl_break l x hx
      have h2 := cl_ok l x hx
      rw [show x.f0 = (p : Int) by omega] at h1
      exact h1
end Go.Proofs.Ytphhgmhgkendaaa.Pure
