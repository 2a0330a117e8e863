/-
  The statement ClusterLetters in plain lists: letters with marks are as many clusters as letters. Its condition: at most 1048576 letters.
-/
import Derived.Test.YtphhgmhgkendaaaDx2
import Derived.Test.YtphhgmhgkendaaaPureClusterSpans
namespace Go.Proofs.Ytphhgmhgkendaaa.Pure
open Go.RowKit Go.Proofs.Ytphhgmhgkendaaa.D Go.Proofs.YtphhgmhgkendaaaW.PrintWords Go.Proofs.YtphhgmhgkendaaaW.PrintLast

/-- How many of the last d boundaries are breaks. -/
def cntL (bs : List Bool) : Nat → Nat
  | 0 => 0
  | d + 1 => (if rdOf false bs ((bs.length - (d + 1) : Nat) : Int) = true then 1 else 0) + cntL bs d
/-- How many of the first k scalars begin a cluster. -/
def cntF (l : List Int) : Nat → Nat
  | 0 => 0
  | k + 1 => cntF l k + if brA l k = true then 1 else 0
theorem sp_len (bs : List Bool) (d : Nat) : ∀ a, d < bs.length → a < bs.length - d → (spF bs a d).length = cntL bs d := by
  induction d with
  | zero =>
    intro a _ _
    rfl
  | succ d ih =>
    intro a h1 h2
    simp only [spF, cntL]
    by_cases g : rdOf false bs ((bs.length - (d + 1) : Nat) : Int) = true
    · rw [if_pos g, if_pos g, if_pos (by omega), if_pos h2, List.length_cons, ih _ (by omega) (by omega)]
      omega
    · rw [if_neg g, if_neg g, ih a (by omega) (by omega)]
      omega
theorem brks_at (l : List Int) (i : Nat) (h : i < l.length) : rdOf false (brksF l) (i : Int) = brA l i := by
  simp [rdOf, brksF, List.getD_eq_getElem?_getD, List.getElem?_append_left, h]
theorem cnt_both (l : List Int) (d : Nat) : d ≤ l.length → cntL (brksF l) (d + 1) + cntF l (l.length - d) = cntF l l.length + 1 := by
  induction d with
  | zero =>
    intro _
    simp only [cntL, Nat.sub_zero, brks_length]
    rw [show l.length + 1 - (0 + 1) = l.length by omega, brks_last]
    simp
    omega
  | succ d ih =>
    intro h
    have ih := ih (by omega)
    rw [cntL, brks_length, show l.length + 1 - (d + 1 + 1) = l.length - (d + 1) by omega, brks_at _ _ (by omega)]
    rw [show l.length - d = (l.length - (d + 1)) + 1 by omega, cntF] at ih
    omega
theorem clusters_count (l : List Int) : (spF (brksF l) 0 l.length).length = cntF l l.length := by
  by_cases h0 : l.length = 0
  · rw [h0]
    rfl
  · rw [sp_len _ _ _ (by rw [brks_length]; omega) (by rw [brks_length]; omega)]
    have h := cnt_both l (l.length - 1) (by omega)
    rw [show l.length - 1 + 1 = l.length by omega, show l.length - (l.length - 1) = 0 + 1 by omega] at h
    have e : cntF l (0 + 1) = 1 := by
      simp [cntF, brA]
    omega
theorem getD_left (l m : List Int) (k : Nat) (h : k < l.length) : (l ++ m).getD k 0 = l.getD k 0 := by
  simp [List.getD_eq_getElem?_getD, List.getElem?_append_left h]
theorem st_left (l m : List Int) (k : Nat) : k ≤ l.length → stA (l ++ m) k = stA l k := by
  induction k with
  | zero =>
    intro _
    rfl
  | succ k ih =>
    intro h
    simp only [stA]
    rw [ih (by omega), getD_left _ _ _ (by omega)]
theorem br_left (l m : List Int) (k : Nat) (h : k < l.length) : brA (l ++ m) k = brA l k := by
  unfold brA
  rw [st_left _ _ _ (by omega), getD_left _ _ _ h]
theorem cntF_left (l m : List Int) (k : Nat) : k ≤ l.length → cntF (l ++ m) k = cntF l k := by
  induction k with
  | zero =>
    intro _
    rfl
  | succ k ih =>
    intro h
    simp only [cntF]
    rw [ih (by omega), br_left _ _ _ (by omega)]
theorem getD_mid (l : List Int) (x : Int) : (l ++ [x]).getD l.length 0 = x := by
  simp [List.getD_eq_getElem?_getD]
theorem last_snoc (l : List Int) (x : Int) : (stA (l ++ [x]) (l ++ [x]).length).1 = classF x := by
  rw [List.length_append]
  simp only [List.length_cons, List.length_nil, Nat.zero_add, stA]
  rw [getD_mid]
theorem cntF_snoc (l : List Int) (x : Int) : cntF (l ++ [x]) (l ++ [x]).length = cntF l l.length + if ((l.length == 0) || !joinsB (stA l l.length).1 (stA l l.length).2.1 (stA l l.length).2.2.2 (classF x) (widthF x)) = true then 1 else 0 := by
  rw [List.length_append]
  simp only [List.length_cons, List.length_nil, Nat.zero_add, cntF]
  rw [cntF_left _ _ _ (Nat.le_refl _)]
  unfold brA
  rw [getD_mid, st_left _ _ _ (Nat.le_refl _)]
/-- What a text of letters with marks has so far: so many clusters, and a letter or a mark at its end. -/
def LetInv (l : List Int) (n : Nat) : Prop := cntF l l.length = n ∧ (l = [] ∨ (stA l l.length).1 = 1 ∨ (stA l l.length).1 = 3)
theorem joins_letter (a f : Int) (j : Bool) (w : Int) (h : a = 1 ∨ a = 3) : joinsB a f j 1 w = false := by
  rcases h with rfl | rfl <;> cases j <;> simp [joinsB, ctlB, mrkB, picB, lastB]
theorem joins_mark (a f : Int) (j : Bool) (w : Int) (h : a = 1 ∨ a = 3) : joinsB a f j 3 w = true := by
  rcases h with rfl | rfl <;> cases j <;> simp [joinsB, ctlB, mrkB]
theorem LetInv.letter {l : List Int} {n : Nat} (h : LetInv l n) {x : Int} (hx : classF x = 1) : LetInv (l ++ [x]) (n + 1) := by
  refine ⟨?_, .inr (.inl (by rw [last_snoc, hx]))⟩
  rw [cntF_snoc, h.1, hx, if_pos]
  rcases h.2 with rfl | h2
  · rfl
  · rw [joins_letter _ _ _ _ h2]
    simp
theorem LetInv.mark {l : List Int} {n : Nat} (h : LetInv l n) (h0 : l ≠ []) {x : Int} (hx : classF x = 3) : LetInv (l ++ [x]) n := by
  refine ⟨?_, .inr (.inr (by rw [last_snoc, hx]))⟩
  have h2 := h.2.resolve_left h0
  have h3 : l.length ≠ 0 := fun e => h0 (List.length_eq_zero_iff.1 e)
  rw [cntF_snoc, h.1, hx, joins_mark _ _ _ _ h2, if_neg (by simp [h3])]
  rfl
theorem class_letters : ∀ i : Fin 26, classF (97 + (i.val : Int)) = 1 := by decide +kernel
theorem class_marks : ∀ i : Fin 4, classF (768 + (i.val : Int)) = 3 := by decide +kernel
theorem class_letter (q : Int) (h0 : 0 ≤ q) (h1 : q < 26) : classF (97 + q) = 1 := by
  have := class_letters ⟨q.toNat, by omega⟩
  simpa [Int.toNat_of_nonneg h0] using this
theorem class_mark (q : Int) (h0 : 0 ≤ q) (h1 : q < 4) : classF (768 + q) = 3 := by
  have := class_marks ⟨q.toNat, by omega⟩
  simpa [Int.toNat_of_nonneg h0] using this
theorem marks_loop (ns : List Int) (n : Int) (h0 : 0 ≤ n) (h1 : n ≤ 255) (c : Nat) (i : Int) (d : Nat) : ∀ (j : Int) (rs : List Int), 0 ≤ j → j + d = n / 64 → LetInv rs c → rs ≠ [] → rs.length + d ≤ 8388608 →
    ∃ rs', LetInv rs' c ∧ rs'.length = rs.length + d ∧ ∀ k, boustrophedonlaw31_ClusterLetters.l1 (k + d + 1) ns rs n j ns (ns.length : Int) i = boustrophedonlaw31_ClusterLetters.l0 k ns rs' ns (ns.length : Int) (wrap64 (i + 1)) := by
  induction d with
  | zero =>
    intro j rs hj hd hi _ _
    refine ⟨rs, hi, rfl, fun k => ?_⟩
    simp only [boustrophedonlaw31_ClusterLetters.l1]
    rw [if_neg]
    rw [Int.tdiv_eq_ediv_of_nonneg h0]
    omega
  | succ d ih =>
    intro j rs hj hd hi h0' hl
    have hj4 : j < 4 := by omega
    obtain ⟨rs', a, b, e⟩ := ih (j + 1) (rs ++ [768 + j]) (by omega) (by omega) (hi.mark h0' (class_mark j hj hj4)) (by simp) (by simp; omega)
    refine ⟨rs', a, by rw [b]; simp; omega, fun k => ?_⟩
    rw [show k + (d + 1) + 1 = (k + d + 1) + 1 by omega]
    rw [← e k]
    generalize k + d + 1 = K
    simp only [boustrophedonlaw31_ClusterLetters.l1]
    have w1 : wrap32 (768 + wrap32 j) = 768 + j := by
      unfold wrap32
      omega
    rw [if_pos (by rw [Int.tdiv_eq_ediv_of_nonneg h0]; omega), if_pos (by omega), w1, wrap64_i (by omega) (by omega)]
theorem letters_loop (ns : List Int) (hn : ns.length ≤ 1048576) (hw : ∀ x ∈ ns, (Lit.int .u8 x).wf = true) (d : Nat) : ∀ (i : Nat) (rs : List Int), i + d = ns.length → LetInv rs i → rs.length ≤ 4 * i →
    ∃ R, ∀ k, R ≤ k → boustrophedonlaw31_ClusterLetters.l0 k ns rs ns (ns.length : Int) (i : Int) = some true := by
  induction d with
  | zero =>
    intro i rs hi hv hl
    refine ⟨rs.length + 3, fun k hk => ?_⟩
    obtain ⟨k, rfl⟩ : ∃ m, k = m + 1 := ⟨k - 1, by omega⟩
    have ho := of_eq rs (by omega) (k - rs.length - 2)
    rw [sp_first _ _ (brks_length rs), show k - rs.length - 2 + (rs.length + 1) + 1 = k by omega] at ho
    simp only [boustrophedonlaw31_ClusterLetters.l0]
    rw [if_neg (by omega), ho, Option.bind_some, clusters_count, hv.1]
    simp
    omega
  | succ d ih =>
    intro i rs hi hv hl
    obtain ⟨n, hx⟩ : ∃ n, ns[i]? = some n := ⟨_, List.getElem?_eq_getElem (by omega)⟩
    have hr : rd ns (i : Int) = n := by
      simp [rd, hx]
    have hm := hw n (List.mem_of_getElem? hx)
    obtain ⟨h0, h1⟩ : 0 ≤ n ∧ n ≤ 255 := by
      simp [Lit.wf, IntKind.min, IntKind.max, IntKind.signed, IntKind.bits] at hm
      omega
    have hlet := hv.letter (class_letter (n % 26) (by omega) (by omega))
    obtain ⟨rs', a, b, e⟩ := marks_loop ns n h0 h1 (i + 1) (i : Int) (n / 64).toNat 0 (rs ++ [97 + n % 26]) (by omega) (by omega) hlet (by simp) (by simp; omega)
    have hb : rs'.length ≤ 4 * (i + 1) := by
      rw [b]
      simp
      omega
    obtain ⟨R, hR⟩ := ih (i + 1) rs' (by omega) a hb
    refine ⟨R + 256 + 2, fun k hk => ?_⟩
    have hq : (n / 64).toNat ≤ 3 := by omega
    obtain ⟨K, hK⟩ : ∃ K, k = (K + (n / 64).toNat + 1) + 1 := ⟨k - (n / 64).toNat - 2, by omega⟩
    rw [hK]
    have w1 : wrap32 (wrap64 (97 + Int.tmod (wrap64 n) 26)) = 97 + n % 26 := by
      rw [wrap64_i (x := n) (by omega) (by omega), Int.tmod_eq_emod_of_nonneg h0, wrap64_i (by omega) (by omega)]
      unfold wrap32
      omega
    have ek := e K
    generalize K + (n / 64).toNat + 1 = M at ek
    simp only [boustrophedonlaw31_ClusterLetters.l0]
    rw [if_pos (by omega), if_pos (by omega), if_pos (by omega), if_pos (by omega), hr, w1, ek, wrap64_i (by omega) (by omega)]
    have := hR K (by omega)
    simpa using this
theorem ClusterLetters (ns : List Int) (hn : ns.length ≤ 1048576) (hw : ∀ x ∈ ns, (Lit.int .u8 x).wf = true) : ∃ k, boustrophedonlaw31_ClusterLetters.f k ns = some true := by
  obtain ⟨R, hR⟩ := letters_loop ns hn hw ns.length 0 [] (by omega) ⟨rfl, .inl rfl⟩ (by simp)
  refine ⟨6 + R, ?_⟩
  unfold boustrophedonlaw31_ClusterLetters.f
  refine (bind_of (awake31_more R) _).trans ?_
  rw [if_pos rfl]
  exact hR _ (by omega)
end Go.Proofs.Ytphhgmhgkendaaa.Pure
