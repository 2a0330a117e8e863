/-
  The statement WordsPlain in plain lists: letters with spaces between them are as many words as there are, and as many spaces. Its condition: at most 1048576 words.
-/
import Derived.Test.YtphhgmhgkendaaaFx7
import Derived.Test.YtphhgmhgkendaaaPureWords
namespace Go.Proofs.Ytphhgmhgkendaaa.Pure
open Go.RowKit Go.Proofs.Ytphhgmhgkendaaa.F Go.Proofs.YtphhgmhgkendaaaW.PrintWords Go.Proofs.YtphhgmhgkendaaaW.PrintLast

/-! ### Counting -/
/-- How many of the last d boundaries are breaks; how many of the first k. -/
def cntL (bs : List Bool) : Nat → Nat
  | 0 => 0
  | d + 1 => (if rdOf false bs ((bs.length - (d + 1) : Nat) : Int) = true then 1 else 0) + cntL bs d
def cntU (bs : List Bool) : Nat → Nat
  | 0 => 0
  | k + 1 => cntU bs k + if rdOf false bs (k : Int) = true then 1 else 0
theorem ws_len (bs : List Bool) (d : Nat) : ∀ a, d < bs.length → a < bs.length - d → (wsF bs a d).length = cntL bs d := by
  induction d with
  | zero =>
    intro a _ _
    rfl
  | succ d ih =>
    intro a h1 h2
    simp only [wsF, cntL]
    by_cases g : rdOf false bs ((bs.length - (d + 1) : Nat) : Int) = true
    · rw [if_pos g, if_pos g, if_pos h2, List.length_cons, ih _ (by omega) (by omega)]
      omega
    · rw [if_neg g, if_neg g, ih a (by omega) (by omega)]
      omega
theorem cnt_both (bs : List Bool) (d : Nat) : d ≤ bs.length → cntL bs d + cntU bs (bs.length - d) = cntU bs bs.length := by
  induction d with
  | zero =>
    intro _
    simp [cntL]
  | succ d ih =>
    intro h
    have ih := ih (by omega)
    rw [show bs.length - d = (bs.length - (d + 1)) + 1 by omega, cntU] at ih
    rw [cntL]
    omega
theorem ws_first (bs : List Bool) (n : Nat) (hb : bs.length = n + 1) : wsF bs 0 (n + 1) = wsF bs 0 n := by
  rw [wsF]
  rw [if_neg (by omega : ¬ 0 < bs.length - (n + 1))]
  split <;> rfl
theorem ws_count (bs : List Bool) (n : Nat) (hb : bs.length = n + 1) (h0 : rdOf false bs 0 = true) (hn : rdOf false bs (n : Int) = true) : (wsF bs 0 (n + 1)).length = cntU bs n := by
  rw [ws_first bs n hb, ws_len bs n 0 (by omega) (by omega)]
  have h := cnt_both bs n (by omega)
  rw [hb, show n + 1 - n = 0 + 1 by omega, cntU, cntU, cntU, if_pos hn, if_pos (by exact h0)] at h
  omega

/-! ### A text each of whose scalars is a cluster -/
theorem fsp_all (bs : List Bool) (n : Nat) (hb : bs.length = n + 1) (hall : ∀ p, p ≤ n → rdOf false bs (p : Int) = true) (d : Nat) : d ≤ n → fspF bs (n - d) d = (List.range' (n - d) d).map fun j : Nat => (⟨(j : Int), (j : Int) + 1⟩ : S48) := by
  induction d with
  | zero =>
    intro _
    rfl
  | succ d ih =>
    intro h
    simp only [fspF]
    rw [hb, show n + 1 - (d + 1) = n - d by omega, if_pos (hall _ (by omega)), if_pos (by omega), ih (by omega), List.range'_succ, List.map_cons, show n - (d + 1) + 1 = n - d by omega, show ((n - (d + 1) : Nat) : Int) + 1 = ((n - d : Nat) : Int) by omega]
theorem cl_all (l : List Int) (hall : ∀ k, k < l.length → brA l k = true) : clF l = (List.range' 0 l.length).map fun j : Nat => (⟨(j : Int), (j : Int) + 1⟩ : S48) := by
  have h := fsp_all (brksF l) l.length (brks_length l) (fun p hp => by
    by_cases e : p = l.length
    · rw [e]
      exact brks_last l
    · rw [brks_at l p (by omega)]
      exact hall p (by omega)) l.length (Nat.le_refl _)
  rw [Nat.sub_self] at h
  exact h
theorem setL_at (g : Nat → Bool) (p : Nat) (d : Nat) : ∀ (i : Nat) (o : List Bool), i + d ≤ o.length → (setL g i ((List.range' i d).map fun j : Nat => (⟨(j : Int), (j : Int) + 1⟩ : S48)) o).getD p false = if i ≤ p ∧ p < i + d then g p else o.getD p false := by
  induction d with
  | zero =>
    intro i o _
    rw [if_neg (by omega)]
    rfl
  | succ d ih =>
    intro i o h
    rw [List.range'_succ, List.map_cons, setL, ih (i + 1) _ (by rw [List.length_set]; omega)]
    simp only [Int.toNat_natCast]
    by_cases g1 : i + 1 ≤ p ∧ p < i + 1 + d
    · rw [if_pos g1, if_pos (by omega)]
    · rw [if_neg g1, List.getD_eq_getElem?_getD, List.getElem?_set]
      by_cases e : i = p
      · subst e
        rw [if_pos rfl, if_pos (by omega), if_pos (by omega)]
        rfl
      · rw [if_neg e, if_neg (by omega), List.getD_eq_getElem?_getD]
/-- What the scalar at a place is. -/
def katF (l : List Int) (k : Nat) : Int := kindF (l.getD k 0) (classF (l.getD k 0))
theorem ks_all (l : List Int) (hall : ∀ k, k < l.length → brA l k = true) (p : Nat) (hp : p < l.length) : (ksF l).getD p 0 = katF l p := by
  unfold ksF
  rw [cl_all l hall, List.getD_eq_getElem?_getD, List.map_map, List.getElem?_map, List.getElem?_range' hp]
  simp only [Option.map_some, Option.getD_some, Function.comp_apply, kdF, katF, rd, Int.toNat_natCast, Nat.zero_add, Nat.one_mul]
theorem jn_12 (ks : List Int) (p : Nat) (hx : ks.getD p 0 = 1 ∨ ks.getD p 0 = 2) (hy : ks.getD (p + 1) 0 = 1 ∨ ks.getD (p + 1) 0 = 2) : (!jnB ks (p + 1)) = decide (ks.getD p 0 ≠ ks.getD (p + 1) 0) := by
  have b1 : betB ks (p + 1) = false := by
    unfold betB
    rcases hy with h | h <;> rw [h] <;> simp
  have b0 : betB ks p = false := by
    unfold betB
    rcases hx with h | h <;> rw [h] <;> simp
  unfold jnB
  rw [Nat.add_sub_cancel, b1, b0]
  rcases hx with h | h <;> rcases hy with h' | h' <;> rw [h, h'] <;> rfl
/-- How often the first k scalars begin something other than what stood ahead. -/
def trC (l : List Int) : Nat → Nat
  | 0 => 0
  | k + 1 => trC l k + if k = 0 ∨ katF l (k - 1) ≠ katF l k then 1 else 0
theorem wB_all (l : List Int) (hall : ∀ k, k < l.length → brA l k = true) (hk : ∀ k, k < l.length → katF l k = 1 ∨ katF l k = 2) (p : Nat) (hp : p < l.length) : rdOf false (wB l) (p : Int) = decide (p = 0 ∨ katF l (p - 1) ≠ katF l p) := by
  unfold wB rdOf
  rw [Int.toNat_natCast, List.getD_eq_getElem?_getD, List.getElem?_set, if_neg (by omega), ← List.getD_eq_getElem?_getD, cl_all l hall, setL_at _ _ _ _ _ (by simp), if_pos (by omega)]
  unfold brW
  match p, hp with
  | 0, _ => rfl
  | p + 1, hp =>
    have h := jn_12 (ksF l) p (by rw [ks_all l hall p (by omega)]; exact hk p (by omega)) (by rw [ks_all l hall (p + 1) hp]; exact hk (p + 1) hp)
    rw [h, ks_all l hall p (by omega), ks_all l hall (p + 1) hp, Nat.add_sub_cancel]
    simp
theorem cntU_tr (l : List Int) (hall : ∀ k, k < l.length → brA l k = true) (hk : ∀ k, k < l.length → katF l k = 1 ∨ katF l k = 2) (n : Nat) : n ≤ l.length → cntU (wB l) n = trC l n := by
  induction n with
  | zero =>
    intro _
    rfl
  | succ n ih =>
    intro h
    rw [cntU, trC, ih (by omega), wB_all l hall hk n (by omega)]
    simp
theorem words_count (l : List Int) (hall : ∀ k, k < l.length → brA l k = true) (hk : ∀ k, k < l.length → katF l k = 1 ∨ katF l k = 2) : (wsF (wB l) 0 (l.length + 1)).length = trC l l.length := by
  rw [ws_count (wB l) l.length (wB_length l) ?_ (wB_last l), cntU_tr l hall hk _ (Nat.le_refl _)]
  by_cases h : l.length = 0
  · have := wB_last l
    rw [h] at this
    exact this
  · have := wB_all l hall hk 0 (by omega)
    simpa using this

/-! ### Words of letters, with a space between them -/
theorem getD_left (l m : List Int) (k : Nat) (h : k < l.length) : (l ++ m).getD k 0 = l.getD k 0 := by
  simp [List.getD_eq_getElem?_getD, List.getElem?_append_left h]
theorem st_left (l m : List Int) (k : Nat) : k ≤ l.length → stA (l ++ m) k = stA l k := by
  induction k with
  | zero =>
    intro _
    rfl
  | succ k ih =>
    intro h
    simp only [stA]
    rw [ih (by omega), getD_left _ _ _ (by omega)]
theorem br_left (l m : List Int) (k : Nat) (h : k < l.length) : brA (l ++ m) k = brA l k := by
  unfold brA
  rw [st_left _ _ _ (by omega), getD_left _ _ _ h]
theorem kat_left (l m : List Int) (k : Nat) (h : k < l.length) : katF (l ++ m) k = katF l k := by
  unfold katF
  rw [getD_left _ _ _ h]
theorem trC_left (l m : List Int) (k : Nat) : k ≤ l.length → trC (l ++ m) k = trC l k := by
  induction k with
  | zero =>
    intro _
    rfl
  | succ k ih =>
    intro h
    simp only [trC]
    rw [ih (by omega), kat_left _ _ _ (by omega : k < l.length), kat_left _ _ _ (by omega : k - 1 < l.length)]
theorem getD_mid (l : List Int) (x : Int) : (l ++ [x]).getD l.length 0 = x := by
  simp [List.getD_eq_getElem?_getD]
theorem joins_no (a f : Int) (j : Bool) (c w : Int) (ha : a = 1 ∨ a = 9) (hc : c = 1 ∨ c = 9) : joinsB a f j c w = false := by
  rcases ha with rfl | rfl <;> rcases hc with rfl | rfl <;> cases j <;> simp [joinsB, ctlB, mrkB, picB, lastB]
/-- What a text of letters and spaces has so far: each scalar is a cluster, n changes, and q at its end. -/
structure PI (l : List Int) (n : Nat) (q : Int) : Prop where
  br : ∀ k, k < l.length → brA l k = true
  kd : ∀ k, k < l.length → katF l k = 1 ∨ katF l k = 2
  tr : trC l l.length = n
  la : l = [] ∨ ((stA l l.length).1 = 1 ∨ (stA l l.length).1 = 9)
  lk : l ≠ [] → katF l (l.length - 1) = q
theorem PI.push {l : List Int} {n : Nat} {q : Int} (h : PI l n q) {x : Int} (hc : classF x = 1 ∨ classF x = 9) {kx : Int} (hk : kindF x (classF x) = kx) (hk2 : kx = 1 ∨ kx = 2) : PI (l ++ [x]) (n + if l = [] ∨ q ≠ kx then 1 else 0) kx := by
  have hlen : (l ++ [x]).length = l.length + 1 := by simp
  have hkat : katF (l ++ [x]) l.length = kx := by
    unfold katF
    rw [getD_mid, hk]
  constructor
  · intro k hkl
    by_cases e : k < l.length
    · rw [br_left _ _ _ e]
      exact h.br k e
    · obtain rfl : k = l.length := by omega
      unfold brA
      rw [getD_mid, st_left _ _ _ (Nat.le_refl _)]
      rcases h.la with rfl | h2
      · rfl
      · rw [joins_no _ _ _ _ _ h2 hc]
        simp
  · intro k hkl
    by_cases e : k < l.length
    · rw [kat_left _ _ _ e]
      exact h.kd k e
    · obtain rfl : k = l.length := by omega
      rw [hkat]
      exact hk2
  · rw [hlen, trC, trC_left _ _ _ (Nat.le_refl _), h.tr, hkat]
    by_cases e : l = []
    · subst e
      rfl
    · have e0 : l.length ≠ 0 := fun e2 => e (List.length_eq_zero_iff.1 e2)
      rw [kat_left _ _ _ (by omega), h.lk e]
      simp only [e0, e, false_or]
  · right
    rw [hlen]
    simp only [stA]
    rw [getD_mid]
    exact hc
  · intro _
    rw [hlen, Nat.add_sub_cancel]
    exact hkat
theorem letters_ok : ∀ i : Fin 26, classF (97 + (i.val : Int)) = 1 ∧ kindF (97 + (i.val : Int)) (classF (97 + (i.val : Int))) = 1 := by decide +kernel
theorem letter_ok (q : Int) (h0 : 0 ≤ q) (h1 : q < 26) : classF (97 + q) = 1 ∧ kindF (97 + q) (classF (97 + q)) = 1 := by
  have := letters_ok ⟨q.toNat, by omega⟩
  simpa [Int.toNat_of_nonneg h0] using this
theorem space_ok : classF 32 = 9 ∧ kindF 32 (classF 32) = 2 := by decide +kernel
theorem word_loop (ns : List Int) (n : Int) (h0 : 0 ≤ n) (h1 : n ≤ 255) (c : Nat) (i : Int) (d : Nat) : ∀ (j : Int) (rs : List Int), 0 ≤ j → j + d = n % 5 + 1 → PI rs c 1 → rs ≠ [] → rs.length + d ≤ 8388608 →
    ∃ rs', PI rs' c 1 ∧ rs' ≠ [] ∧ rs'.length = rs.length + d ∧ ∀ k, boustrophedonlaw32_WordsPlain.l1 (k + d + 1) ns rs n j ns (ns.length : Int) i = boustrophedonlaw32_WordsPlain.l0 k ns rs' ns (ns.length : Int) (wrap64 (i + 1)) := by
  have wm : wrap64 (Int.tmod n 5) = n % 5 := by
    rw [Int.tmod_eq_emod_of_nonneg h0, wrap64_i (by omega) (by omega)]
  induction d with
  | zero =>
    intro j rs hj hd hi hne _
    refine ⟨rs, hi, hne, rfl, fun k => ?_⟩
    simp only [boustrophedonlaw32_WordsPlain.l1]
    rw [wm, if_neg (by omega)]
  | succ d ih =>
    intro j rs hj hd hi hne hl
    obtain ⟨hc, hk⟩ := letter_ok (n % 26) (by omega) (by omega)
    have hpush := hi.push (.inl hc) hk (.inl rfl)
    rw [if_neg (by simp [hne])] at hpush
    obtain ⟨rs', a, b, c', e⟩ := ih (j + 1) (rs ++ [97 + n % 26]) (by omega) (by omega) hpush (by simp) (by simp; omega)
    refine ⟨rs', a, b, by rw [c']; simp; omega, fun k => ?_⟩
    rw [show k + (d + 1) + 1 = (k + d + 1) + 1 by omega, ← e k]
    generalize k + d + 1 = K
    have w1 : wrap32 (wrap64 (97 + Int.tmod (wrap64 n) 26)) = 97 + n % 26 := by
      rw [wrap64_i (x := n) (by omega) (by omega), Int.tmod_eq_emod_of_nonneg h0, wrap64_i (by omega) (by omega)]
      unfold wrap32
      omega
    simp only [boustrophedonlaw32_WordsPlain.l1]
    rw [wm, if_pos (by omega), if_pos (by omega), w1, wrap64_i (x := j + 1) (by omega) (by omega)]
theorem first_loop (ns : List Int) (n : Int) (h0 : 0 ≤ n) (h1 : n ≤ 255) (c : Nat) (q : Int) (i : Int) (rs : List Int) (hi : PI rs c q) (hq : rs = [] ∨ q ≠ 1) (hl : rs.length ≤ 8388600) :
    ∃ rs', PI rs' (c + 1) 1 ∧ rs' ≠ [] ∧ rs'.length ≤ rs.length + 5 ∧ ∀ k, 8 ≤ k → ∃ k', k ≤ k' + 8 ∧ boustrophedonlaw32_WordsPlain.l1 k ns rs n 0 ns (ns.length : Int) i = boustrophedonlaw32_WordsPlain.l0 k' ns rs' ns (ns.length : Int) (wrap64 (i + 1)) := by
  have wm : wrap64 (Int.tmod n 5) = n % 5 := by
    rw [Int.tmod_eq_emod_of_nonneg h0, wrap64_i (by omega) (by omega)]
  obtain ⟨hc, hk⟩ := letter_ok (n % 26) (by omega) (by omega)
  have hpush := hi.push (.inl hc) hk (.inl rfl)
  rw [if_pos hq] at hpush
  obtain ⟨rs', a, b, c', e⟩ := word_loop ns n h0 h1 (c + 1) i (n % 5).toNat 1 (rs ++ [97 + n % 26]) (by omega) (by omega) hpush (by simp) (by simp; omega)
  refine ⟨rs', a, b, by rw [c']; simp; omega, fun k hk8 => ⟨k - 2 - (n % 5).toNat, by omega, ?_⟩⟩
  obtain ⟨K, rfl⟩ : ∃ K, k = K + (n % 5).toNat + 1 + 1 := ⟨k - 2 - (n % 5).toNat, by omega⟩
  rw [show K + (n % 5).toNat + 1 + 1 - 2 - (n % 5).toNat = K by omega, ← e K]
  generalize K + (n % 5).toNat + 1 = M
  have w1 : wrap32 (wrap64 (97 + Int.tmod (wrap64 n) 26)) = 97 + n % 26 := by
    rw [wrap64_i (x := n) (by omega) (by omega), Int.tmod_eq_emod_of_nonneg h0, wrap64_i (by omega) (by omega)]
    unfold wrap32
    omega
  simp only [boustrophedonlaw32_WordsPlain.l1]
  rw [wm, if_pos (by omega), if_pos (by omega), w1, wrap64_i (x := 0 + 1) (by omega) (by omega), Int.zero_add]
/-- What the text has behind i words. -/
def Beh (rs : List Int) (i : Nat) : Prop := (i = 0 ∧ rs = []) ∨ (0 < i ∧ rs ≠ [] ∧ PI rs (2 * i - 1) 1)
theorem PI.nil : PI [] 0 0 := ⟨by simp, by simp, rfl, .inl rfl, fun h => absurd rfl h⟩
theorem plain_loop (ns : List Int) (hn : ns.length ≤ 1048576) (hw : ∀ x ∈ ns, (Lit.int .u8 x).wf = true) (d : Nat) : ∀ (i : Nat) (rs : List Int), i + d = ns.length → Beh rs i → rs.length ≤ 6 * i →
    ∃ R, ∀ k, R ≤ k → boustrophedonlaw32_WordsPlain.l0 k ns rs ns (ns.length : Int) (i : Int) = some true := by
  induction d with
  | zero =>
    intro i rs hi hv hl
    refine ⟨rs.length + 20, fun k hk => ?_⟩
    obtain ⟨k, rfl⟩ : ∃ m, k = m + 1 := ⟨k - 1, by omega⟩
    have ho := wof_eq rs (by omega) k (by omega)
    simp only [boustrophedonlaw32_WordsPlain.l0]
    rw [if_neg (by omega), ho, Option.bind_some]
    have hm : mx 0 (wrap64 (wrap64 (2 * (ns.length : Int)) - 1)) = ((2 * ns.length - 1 : Nat) : Int) := by
      rw [wrap64_i (x := 2 * (ns.length : Int)) (by omega) (by omega), wrap64_i (by omega) (by omega)]
      unfold mx
      split <;> omega
    rw [hm]
    have hc : (wsF (wB rs) 0 (rs.length + 1)).length = 2 * ns.length - 1 := by
      rcases hv with ⟨rfl, rfl⟩ | ⟨h0, _, hp⟩
      · rw [words_count [] (by simp) (by simp)]
        simp [trC]
        omega
      · rw [words_count rs hp.br hp.kd, hp.tr]
        omega
    rw [hc]
    simp
  | succ d ih =>
    intro i rs hi hv hl
    obtain ⟨n, hx⟩ : ∃ n, ns[i]? = some n := ⟨_, List.getElem?_eq_getElem (by omega)⟩
    have hr : rd ns (i : Int) = n := by
      simp [rd, hx]
    have hm := hw n (List.mem_of_getElem? hx)
    obtain ⟨h0, h1⟩ : 0 ≤ n ∧ n ≤ 255 := by
      simp [Lit.wf, IntKind.min, IntKind.max, IntKind.signed, IntKind.bits] at hm
      omega
    rcases hv with ⟨rfl, rfl⟩ | ⟨hi0, hne, hp⟩
    · obtain ⟨rs', a, b, c, e⟩ := first_loop ns n h0 h1 0 0 (((0 : Nat) : Int)) [] PI.nil (.inl rfl) (by simp)
      obtain ⟨R, hR⟩ := ih 1 rs' (by omega) (.inr ⟨by omega, b, a⟩) (by simp at c; omega)
      refine ⟨R + 20, fun k hk => ?_⟩
      obtain ⟨k, rfl⟩ : ∃ m, k = m + 1 + 1 := ⟨k - 2, by omega⟩
      obtain ⟨k', hk', e'⟩ := e k (by omega)
      have hz := hR k' (by omega)
      simp only [boustrophedonlaw32_WordsPlain.l0, boustrophedonlaw32_WordsPlain.j1]
      rw [if_pos (by omega), if_pos (by omega), if_pos (by omega), if_neg (by omega), hr, e', wrap64_i (by omega) (by omega)]
      exact hz
    · have hs := hp.push (.inr space_ok.1) space_ok.2 (.inr rfl)
      rw [if_pos (.inr (by decide))] at hs
      obtain ⟨rs', a, b, c, e⟩ := first_loop ns n h0 h1 _ 2 (i : Int) (rs ++ [32]) hs (.inr (by decide)) (by simp; omega)
      have hlen : rs'.length ≤ 6 * (i + 1) := by
        simp at c
        omega
      have htr : 2 * i - 1 + 1 + 1 = 2 * (i + 1) - 1 := by omega
      rw [htr] at a
      obtain ⟨R, hR⟩ := ih (i + 1) rs' (by omega) (.inr ⟨by omega, b, a⟩) hlen
      refine ⟨R + 20, fun k hk => ?_⟩
      obtain ⟨k, rfl⟩ : ∃ m, k = m + 1 + 1 := ⟨k - 2, by omega⟩
      obtain ⟨k', hk', e'⟩ := e k (by omega)
      have hz := hR k' (by omega)
      rw [show ((i + 1 : Nat) : Int) = (i : Int) + 1 by omega] at hz
      simp only [boustrophedonlaw32_WordsPlain.l0, boustrophedonlaw32_WordsPlain.j1]
      rw [if_pos (by omega), if_pos (by omega), if_pos (by omega), if_pos (by omega), if_pos (by omega), hr, e', wrap64_i (by omega) (by omega)]
      exact hz
theorem WordsPlain (ns : List Int) (hn : ns.length ≤ 1048576) (hw : ∀ x ∈ ns, (Lit.int .u8 x).wf = true) : ∃ k, boustrophedonlaw32_WordsPlain.f k ns = some true := by
  obtain ⟨R, hR⟩ := plain_loop ns hn hw ns.length 0 [] (by omega) (.inl ⟨rfl, rfl⟩) (by simp)
  refine ⟨R, ?_⟩
  unfold boustrophedonlaw32_WordsPlain.f
  refine (bind_of (show boustrophedonlaw32_awake.f = some true from rfl) _).trans ?_
  rw [if_pos rfl]
  exact hR _ (by omega)
end Go.Proofs.Ytphhgmhgkendaaa.Pure
