/-
  The functions that hand back one literal of arrays (linec.rows, cellw.rows, boustrophedonref04.Lines): each lays one new block, with the table's cells, and changes nothing else. No condition.
-/
import Derived.Test.YtphhgmhgkendaaaProg
import Derived.WalkKit
import Derived.KernelRfl
namespace Go.Proofs.Ytphhgmhgkendaaa
open Go.RowKit

/-- The rows of the table of classes. -/
def linecTab : List (Int × Int × Int) :=
  [(0, 8, 3), (9, 9, 14), (10, 10, 7), (11, 12, 5), (13, 13, 6), (14, 31, 3), (32, 32, 9), (33, 33, 23), (34, 34, 22), (35, 35, 1), (36, 36, 29), 
   (37, 37, 28), (38, 38, 1), (39, 39, 22), (40, 40, 21), (41, 41, 20), (42, 42, 1), (43, 43, 29), (44, 44, 25), (45, 45, 17), (46, 46, 25), 
   (47, 47, 26), (48, 57, 27), (58, 59, 25), (60, 62, 1), (63, 63, 23), (64, 90, 1), (91, 91, 21), (92, 92, 29), (93, 93, 20), (94, 122, 1), 
   (123, 123, 21), (124, 124, 14), (125, 125, 19), (126, 126, 1), (127, 132, 3), (133, 133, 8), (134, 159, 3), (160, 160, 12), (161, 161, 21), 
   (162, 162, 28), (163, 165, 29), (166, 166, 1), (167, 168, 39), (169, 169, 1), (170, 170, 39), (171, 171, 22), (172, 172, 1), (173, 173, 14), 
   (174, 175, 1), (176, 176, 28), (177, 177, 29), (178, 179, 39), (180, 180, 15), (181, 181, 1), (182, 186, 39), (187, 187, 22), (188, 190, 39), 
   (191, 191, 21), (192, 214, 1), (215, 215, 39), (216, 246, 1), (247, 247, 39), (248, 710, 1), (712, 712, 15), (716, 716, 15), (735, 735, 15), 
   (768, 846, 3), (847, 847, 12), (848, 859, 3), (860, 866, 12), (867, 879, 3), (880, 1154, 1), (1155, 1161, 3), (1162, 1416, 1), (1417, 1417, 25), 
   (1418, 1418, 14), (1425, 1469, 3), (1470, 1470, 14), (1471, 1471, 3), (1473, 1474, 3), (1476, 1477, 3), (1478, 1478, 23), (1479, 1479, 3), 
   (1488, 1522, 2), (1536, 1544, 1), (1545, 1547, 28), (1548, 1549, 25), (1550, 1551, 1), (1552, 1562, 3), (1563, 1563, 23), (1564, 1564, 3), 
   (1565, 1567, 23), (1568, 1610, 1), (1611, 1631, 3), (1632, 1641, 27), (1642, 1642, 28), (1643, 1644, 27), (1645, 1647, 1), (1648, 1648, 3), 
   (1649, 1747, 1), (1748, 1748, 23), (1749, 1749, 1), (1750, 1756, 3), (1757, 1757, 27), (1758, 1758, 1), (1759, 1764, 3), (1765, 1766, 1), 
   (1767, 1768, 3), (1769, 1769, 1), (1770, 1773, 3), (1774, 1775, 1), (1776, 1785, 27), (1786, 1808, 1), (1809, 1809, 3), (1810, 1839, 1), 
   (1840, 1866, 3), (1867, 1957, 1), (1958, 1968, 3), (2304, 2307, 3), (2308, 2361, 1), (2362, 2364, 3), (2365, 2365, 1), (2366, 2383, 3), 
   (2392, 2401, 1), (2404, 2405, 14), (2406, 2415, 27), (3585, 3632, 40), (3633, 3633, 40), (3634, 3635, 40), (3636, 3642, 40), (3647, 3647, 29), 
   (3648, 3662, 40), (3664, 3673, 27), (3674, 3675, 14), (4352, 4447, 34), (4448, 4519, 35), (4520, 4607, 36), (5760, 5760, 14), (8192, 8198, 14), 
   (8199, 8199, 12), (8200, 8202, 14), (8203, 8203, 10), (8204, 8204, 3), (8205, 8205, 4), (8206, 8207, 3), (8208, 8208, 14), (8209, 8209, 12), 
   (8210, 8211, 14), (8212, 8212, 16), (8213, 8214, 39), (8216, 8217, 22), (8218, 8218, 21), (8219, 8221, 22), (8222, 8222, 21), (8223, 8223, 22), 
   (8224, 8225, 39), (8228, 8230, 24), (8231, 8231, 14), (8232, 8233, 5), (8234, 8238, 3), (8239, 8239, 12), (8240, 8247, 28), (8248, 8248, 1), 
   (8249, 8250, 22), (8251, 8251, 39), (8252, 8253, 18), (8260, 8260, 25), (8261, 8261, 21), (8262, 8262, 19), (8263, 8265, 18), (8278, 8278, 14), 
   (8280, 8283, 14), (8285, 8287, 14), (8288, 8288, 11), (8294, 8303, 3), (8317, 8317, 21), (8318, 8318, 19), (8333, 8333, 21), (8334, 8334, 19), 
   (8352, 8358, 29), (8359, 8359, 28), (8360, 8373, 29), (8374, 8374, 28), (8375, 8399, 29), (8400, 8432, 3), (8451, 8451, 28), (8457, 8457, 28), 
   (8470, 8470, 29), (8592, 8601, 39), (8722, 8723, 29), (8968, 8968, 21), (8969, 8969, 19), (8970, 8970, 21), (8971, 8971, 19), (8986, 8987, 30), 
   (9001, 9001, 21), (9002, 9002, 19), (9200, 9203, 30), (9312, 9470, 39), (9472, 9547, 39), (9728, 9731, 30), (9748, 9749, 30), (9757, 9757, 31), 
   (9785, 9787, 30), (9977, 9977, 31), (9994, 9997, 31), (10082, 10083, 23), (10084, 10084, 30), (10214, 10214, 21), (10215, 10215, 19), 
   (10216, 10216, 21), (10217, 10217, 19), (10218, 10218, 21), (10219, 10219, 19), (10627, 10627, 21), (10628, 10628, 19), (11904, 12287, 30), 
   (12288, 12288, 14), (12289, 12290, 19), (12291, 12292, 30), (12293, 12293, 18), (12294, 12295, 30), (12296, 12296, 21), (12297, 12297, 19), 
   (12298, 12298, 21), (12299, 12299, 19), (12300, 12300, 21), (12301, 12301, 19), (12302, 12302, 21), (12303, 12303, 19), (12304, 12304, 21), 
   (12305, 12305, 19), (12306, 12307, 30), (12308, 12308, 21), (12309, 12309, 19), (12310, 12310, 21), (12311, 12311, 19), (12316, 12316, 18), 
   (12317, 12317, 21), (12318, 12319, 19), (12320, 12329, 30), (12330, 12335, 3), (12336, 12346, 30), (12347, 12348, 18), (12353, 12353, 42), 
   (12354, 12354, 30), (12355, 12355, 42), (12356, 12356, 30), (12357, 12357, 42), (12358, 12358, 30), (12359, 12359, 42), (12360, 12360, 30), 
   (12361, 12361, 42), (12362, 12386, 30), (12387, 12387, 42), (12388, 12418, 30), (12419, 12419, 42), (12420, 12420, 30), (12421, 12421, 42), 
   (12422, 12422, 30), (12423, 12423, 42), (12424, 12440, 30), (12441, 12442, 3), (12443, 12446, 18), (12447, 12447, 30), (12448, 12448, 18), 
   (12449, 12449, 42), (12450, 12482, 30), (12483, 12483, 42), (12484, 12538, 30), (12539, 12539, 18), (12540, 12540, 42), (12541, 12542, 18), 
   (12543, 12543, 30), (12549, 19903, 30), (19968, 40980, 30), (40981, 40981, 18), (40982, 42191, 30), (55296, 57343, 41), (63744, 64255, 30), 
   (64285, 64285, 2), (64286, 64286, 3), (64287, 64296, 2), (64297, 64297, 1), (64298, 64335, 2), (64336, 65019, 1), (65020, 65020, 28), 
   (65024, 65039, 3), (65040, 65040, 25), (65043, 65044, 25), (65056, 65071, 3), (65136, 65276, 1), (65279, 65279, 11), (65281, 65281, 23), 
   (65282, 65283, 30), (65284, 65284, 29), (65285, 65285, 28), (65288, 65288, 21), (65289, 65289, 19), (65292, 65292, 19), (65294, 65294, 19), 
   (65296, 65305, 30), (65306, 65307, 18), (65311, 65311, 23), (65313, 65338, 30), (65339, 65339, 21), (65341, 65341, 19), (65345, 65370, 30), 
   (65371, 65371, 21), (65373, 65373, 19), (65377, 65377, 19), (65378, 65378, 21), (65379, 65380, 19), (65532, 65532, 13), (65533, 65533, 39), 
   (127462, 127487, 33), (127744, 127876, 30), (127877, 127877, 31), (127878, 127994, 30), (127995, 127999, 32), (128000, 128065, 30), 
   (128066, 128067, 31), (128068, 128069, 30), (128070, 128080, 31), (128081, 128101, 30), (128102, 128120, 31), (128121, 129791, 30), 
   (131072, 262141, 30), (917505, 917631, 3), (917760, 917999, 3)]
/-- The rows of the table of widths. -/
def widthTab : List (Int × Int × Int) :=
  [(0, 31, 0), (127, 159, 0), (173, 173, 0), (768, 879, 0), (1155, 1161, 0), (1425, 1469, 0), (1471, 1471, 0), (1473, 1474, 0), (1476, 1477, 0), 
   (1479, 1479, 0), (1536, 1541, 0), (1552, 1562, 0), (1564, 1564, 0), (1611, 1631, 0), (1648, 1648, 0), (1750, 1757, 0), (1759, 1764, 0), 
   (1767, 1768, 0), (1770, 1773, 0), (1809, 1809, 0), (1840, 1866, 0), (1958, 1968, 0), (2027, 2035, 0), (2250, 2306, 0), (2362, 2362, 0), 
   (2364, 2364, 0), (2369, 2376, 0), (2381, 2381, 0), (3633, 3633, 0), (3636, 3642, 0), (3655, 3662, 0), (4352, 4447, 2), (4448, 4607, 0), 
   (8203, 8207, 0), (8232, 8238, 0), (8288, 8303, 0), (8400, 8432, 0), (8986, 8987, 2), (9001, 9002, 2), (9200, 9200, 2), (9203, 9203, 2), 
   (9748, 9749, 2), (11904, 12287, 2), (12288, 12329, 2), (12330, 12333, 0), (12334, 12350, 2), (12353, 12440, 2), (12441, 12442, 0), 
   (12443, 13311, 2), (13312, 19903, 2), (19968, 42191, 2), (43360, 43391, 2), (44032, 55203, 2), (63744, 64255, 2), (64286, 64286, 0), 
   (65024, 65039, 0), (65040, 65049, 2), (65056, 65071, 0), (65072, 65135, 2), (65279, 65279, 0), (65281, 65376, 2), (65504, 65510, 2), 
   (127462, 127487, 1), (127744, 128591, 2), (128640, 128767, 2), (129280, 129791, 2), (131072, 262141, 2), (917505, 917631, 0), (917760, 917999, 0)]

/-! ### Straight code, run as a function -/
/-- Operations without guards, each of which hands a value on. -/
def runOps (P : Program) : List Oper → Act → World → Option (Act × World)
  | [], a, w => some (a, w)
  | o :: rest, a, w =>
    match o.guard with
    | none =>
      match (execOp a.eval o).run P w with
      | .ok (.value v) w' => runOps P rest (a.put o.dst v) w'
      | _ => none
    | some _ => none

theorem wpList_runOps {P : Program} {ops : Array Oper} {Q : Exit → Act → World → Prop} {a' : Act} {w' : World} (hQ : Q .normal a' w') :
    ∀ (l : List Oper) (a : Act) (w : World), runOps P l a w = some (a', w') → wpList P ops Q l a w
  | [], a, w, h => by
    simp only [runOps, Option.some.injEq, Prod.mk.injEq] at h
    obtain ⟨rfl, rfl⟩ := h
    exact wpList_nil hQ
  | o :: rest, a, w, h => by
    unfold runOps at h
    split at h
    · rename_i hg
      split at h
      · rename_i v w1 hr
        refine wpList_plain hg fun K hK => ?_
        unfold Oper.wp
        rw [hr]
        exact hK _ _ (wpList_runOps hQ rest _ _ h)
      · cases h
    · cases h

/-- Regions in their own order, one behind the other, and a return. -/
def straight (P : Program) : Code → Act → World → Option (Bool × Act × World)
  | .region _ ops false, a, w => (runOps P ops.toList a w).map fun x => (false, x.1, x.2)
  | .seq x y, a, w =>
    match straight P x a w with
    | some (false, a', w') => straight P y a' w'
    | r => r
  | .ret, a, w => some (true, a, w)
  | _, _, _ => none

theorem wp_straight {P : Program} : ∀ (c : Code) (Q : Exit → Act → World → Prop) (a : Act) (w : World) (b : Bool) (a' : Act) (w' : World),
    straight P c a w = some (b, a', w') → Q (if b then .ret else .normal) a' w' → c.wp P Q a w
  | .region _ ops false, Q, a, w, b, a', w', h, hQ => by
    simp only [straight, Option.map_eq_some_iff, Prod.mk.injEq] at h
    obtain ⟨⟨a1, w1⟩, h1, rfl, rfl, rfl⟩ := h
    exact wp_region_list (wpList_runOps (by simpa using hQ) _ _ _ h1)
  | .seq x y, Q, a, w, b, a', w', h, hQ => by
    unfold straight at h
    split at h
    · rename_i a1 w1 h1
      exact wp_seq (wp_straight x _ a w false a1 w1 h1 (by simpa [Exit.then] using wp_straight y Q a1 w1 b a' w' h hQ))
    · rename_i h1
      rcases b with _ | _
      · exact absurd h (h1 _ _)
      · exact wp_seq (wp_straight x _ a w true a' w' h (by simpa [Exit.then] using hQ))
  | .ret, Q, a, w, b, a', w', h, hQ => by
    simp only [straight, Option.some.injEq, Prod.mk.injEq] at h
    obtain ⟨rfl, rfl, rfl⟩ := h
    exact wp_ret (by simpa using hQ)
  | .region _ _ true, _, _, _, _, _, _, h, _ => by simp [straight] at h
  | .block .., _, _, _, _, _, _, h, _ => by simp [straight] at h
  | .loop .., _, _, _, _, _, _, h, _ => by simp [straight] at h
  | .cond .., _, _, _, _, _, _, h, _ => by simp [straight] at h

/-! ### A literal of rows of three numbers -/
/-- The cells of a table's rows. -/
def tabCells (k : IntKind) (t : List (Int × Int × Int)) : List Value := t.flatMap fun x => [.int k x.1, .int k x.2.1, .int k x.2.2]
/-- The rows as values. -/
def aggs (k : IntKind) (t : List (Int × Int × Int)) : List Value := t.map fun x => .agg #[.int k x.1, .int k x.2.1, .int k x.2.2]
/-- The rows as the parts of a literal, from place i on. -/
def partsFrom : Nat → List Value → List (Nat × Value)
  | _, [] => []
  | i, v :: vs => (i, v) :: partsFrom (i + 1) vs
/-- The operations that build the rows, from slot s on. -/
def litOps (T : TypeId) (k : IntKind) (pos : String) : Nat → List (Int × Int × Int) → List Oper
  | _, [] => []
  | s, x :: t => { dst := some s, op := .build T #[(0, .const (.int k x.1)), (1, .const (.int k x.2.1)), (2, .const (.int k x.2.2))], type := T, pos := pos, after := #[], guard := none } :: litOps T k pos (s + 1) t
def partOps (n : Nat) : Array (Nat × Operand) := ((List.range n).map fun i => (i, Operand.tmp (i + 1))).toArray

theorem tabCells_length (k : IntKind) (t : List (Int × Int × Int)) : (tabCells k t).length = 3 * t.length := by
  induction t with
  | nil => rfl
  | cons x t ih => simp only [tabCells, List.flatMap_cons, List.length_append, List.length_cons, List.length_nil] at ih ⊢; omega

theorem set3 (done rest : List Value) (i : Nat) (hd : done.length = i * 3) (a b c r0 r1 r2 : Value) :
    (((done ++ (r0 :: r1 :: r2 :: rest)).toArray.setIfInBounds (i * 3 + 0) a).setIfInBounds (i * 3 + 1) b).setIfInBounds (i * 3 + 2) c = ((done ++ [a, b, c]) ++ rest).toArray := by
  simp only [List.setIfInBounds_toArray, List.append_assoc, ← hd, Nat.add_zero]
  congr 1
  rw [List.set_append_right _ _ (Nat.le_refl _), Nat.sub_self, List.set_cons_zero]
  rw [List.set_append_right _ _ (by omega), show done.length + 1 - done.length = 1 by omega, List.set_cons_succ, List.set_cons_zero]
  rw [List.set_append_right _ _ (by omega), show done.length + 2 - done.length = 2 by omega, List.set_cons_succ, List.set_cons_succ, List.set_cons_zero]
  rfl

theorem fill_tab (k : IntKind) : ∀ (t : List (Int × Int × Int)) (i : Nat) (done rest : List Value), done.length = i * 3 → rest.length = 3 * t.length →
    Instr.fill (fun i => some (i * 3, 3)) (done ++ rest).toArray (partsFrom i (aggs k t)) = some (done ++ tabCells k t).toArray
  | [], i, done, rest, hd, hr => by
    have : rest = [] := List.eq_nil_of_length_eq_zero (by simpa using hr)
    subst this
    simp [aggs, partsFrom, Instr.fill, tabCells]
  | x :: t, i, done, rest, hd, hr => by
    obtain ⟨r0, r1, r2, rest, rfl⟩ : ∃ r0 r1 r2 r, rest = r0 :: r1 :: r2 :: r := by
      match rest, hr with
      | [], h => simp at h
      | [_], h => simp at h; omega
      | [_, _], h => simp at h; omega
      | r0 :: r1 :: r2 :: r, _ => exact ⟨r0, r1, r2, r, rfl⟩
    have ih := fill_tab k t (i + 1) (done ++ [.int k x.1, .int k x.2.1, .int k x.2.2]) rest (by simp [hd]; omega) (by simp at hr; omega)
    rw [← set3 done rest i hd _ _ _ r0 r1 r2] at ih
    simp only [aggs, List.map_cons, partsFrom]
    unfold Instr.fill
    have hsz : (Value.agg #[.int k x.1, .int k x.2.1, .int k x.2.2]).cells.size = 3 := rfl
    have hlen : (done ++ r0 :: r1 :: r2 :: rest).toArray.size = i * 3 + 3 + rest.length := by simp [hd]; omega
    simp only [hsz, hlen]
    rw [if_neg (by simp)]
    exact ih.trans (by simp [tabCells])

theorem parts_of (vs pre post : List Value) : ∀ (n i : Nat), i + n = vs.length → pre.length = 1 →
    ((List.range' i n).map fun j => (j, (pre ++ vs ++ post).toArray.getD (j + 1) undef)) = partsFrom i (vs.drop i)
  | 0, i, h, hp => by
    rw [List.drop_eq_nil_of_le (by omega)]
    rfl
  | n + 1, i, h, hp => by
    have hi : i < vs.length := by omega
    rw [List.range'_succ, List.map_cons, List.drop_eq_getElem_cons hi, partsFrom, parts_of vs pre post n (i + 1) (by omega) hp]
    congr 2
    rw [Array.getD_eq_getD_getElem?]
    simp only [List.getElem?_toArray]
    rw [List.getElem?_append_left (by simp; omega), List.getElem?_append_right (by omega), show i + 1 - pre.length = i by omega, List.getElem?_eq_getElem hi]
    rfl

theorem runOps_builds {P : Program} {T : TypeId} {k : IntKind} (pos : String)
    (hb : ∀ (ρ : Operand → Value) (x : Int × Int × Int) (s : Nat) (w : World) (_ : ∀ v, ρ (.const v) = v), (execOp ρ { dst := some s, op := .build T #[(0, .const (.int k x.1)), (1, .const (.int k x.2.1)), (2, .const (.int k x.2.2))], type := T, pos := pos, after := #[], guard := none }).run P w = .ok (.value (.agg #[.int k x.1, .int k x.2.1, .int k x.2.2])) w)
    (more : List Oper) (w : World) : ∀ (t : List (Int × Int × Int)) (pre us post : List Value) (d : List Deferred), us.length = t.length →
    runOps P (litOps T k pos pre.length t ++ more) { tmps := (pre ++ us ++ post).toArray, defers := d } w = runOps P more { tmps := (pre ++ aggs k t ++ post).toArray, defers := d } w
  | [], pre, us, post, d, h => by
    have : us = [] := List.eq_nil_of_length_eq_zero (by simpa using h)
    subst this
    rfl
  | x :: t, pre, us, post, d, h => by
    obtain ⟨u, us, rfl⟩ : ∃ u r, us = u :: r := by
      cases us with
      | nil => simp at h
      | cons u r => exact ⟨u, r, rfl⟩
    have ih := runOps_builds pos hb more w t (pre ++ [.agg #[.int k x.1, .int k x.2.1, .int k x.2.2]]) us post d (by simpa using h)
    simp only [List.length_append, List.length_cons, List.length_nil, Nat.zero_add] at ih
    simp only [litOps, List.cons_append]
    have e := hb (Act.eval { tmps := (pre ++ u :: us ++ post).toArray, defers := d }) x pre.length w (fun _ => rfl)
    conv => lhs; unfold runOps
    simp only [e]
    rw [show (Act.put { tmps := (pre ++ u :: us ++ post).toArray, defers := d } (some pre.length) (Value.agg #[.int k x.1, .int k x.2.1, .int k x.2.2])) = { tmps := (pre ++ [Value.agg #[.int k x.1, .int k x.2.1, .int k x.2.2]] ++ us ++ post).toArray, defers := d } from ?_]
    · rw [ih]
      simp only [aggs, List.map_cons, List.append_assoc, List.cons_append, List.nil_append]
    · simp only [Act.put, List.setIfInBounds_toArray, List.append_assoc, List.cons_append]
      rw [List.set_append_right _ _ (Nat.le_refl _), Nat.sub_self, List.set_cons_zero]
      rfl

/-! ### The three functions -/
def reg0 (fn : Func) : List Oper := match fn.body with
  | some (.seq (.region _ o _) _) => o.toList
  | _ => []
def reg1 (fn : Func) : List Oper := match fn.body with
  | some (.seq _ (.seq (.region _ o _) _)) => o.toList
  | _ => []

/-- What the three bodies share: the result's zero, n rows built into slots 1 to n, the slice of them into slot n + 1, the result. -/
theorem calls_tab {P : Program} {f : FuncId} {fn : Func} {T S : TypeId} {k : IntKind} {pos : String} {tab : List (Int × Int × Int)} {n : Nat}
    (hn : tab.length = n) (hf : P.funcs[f]? = some fn) (hres : fn.results = #[.tmp 0]) (htm : fn.ntmps = n + 2)
    (hbody : fn.body = some (.seq (.region 0 (reg0 fn).toArray false) (.seq (.region 1 (reg1 fn).toArray false) .ret)))
    (h0 : ∀ (a : Act) (w : World), runOps P (reg0 fn) a w = some (a.put (some 0) (.slice none 0 0), w))
    (bs ba : Oper) (h1 : reg1 fn = litOps T k pos 1 tab ++ [bs, ba])
    (hbs : bs.guard = none ∧ bs.dst = some (n + 1) ∧ bs.op = .buildSlice S n (partOps n)) (has : ba.guard = none ∧ ba.dst = some 0 ∧ ba.op = .assign (.tmp (n + 1)))
    (hb : ∀ (ρ : Operand → Value) (x : Int × Int × Int) (s : Nat) (w : World) (_ : ∀ v, ρ (.const v) = v), (execOp ρ { dst := some s, op := .build T #[(0, .const (.int k x.1)), (1, .const (.int k x.2.1)), (2, .const (.int k x.2.2))], type := T, pos := pos, after := #[], guard := none }).run P w = .ok (.value (.agg #[.int k x.1, .int k x.2.1, .int k x.2.2])) w)
    (hs : ∀ (w : World) (parts : Array (Nat × Value)) (cells : Array Value), (∀ z : Array Value, z.size = n * 3 → Instr.fill (fun i => some (i * 3, 3)) z parts.toList = some cells) → (Instr.buildSlice S n parts).run P w = .ok (.slice (some ⟨w.heap.size, 0, none⟩) n n) (w.alloc (.cells cells T)))
    (w : World) : Calls P f #[] w fun e w' => e = .returned (.slice (some ⟨w.heap.size, 0, none⟩) n n) ∧ w' = w.alloc (.cells (tabCells k tab).toArray T) := by
  refine calls_of_wp hf hbody (wp_seq (wp_region_list (wpList_runOps ?_ _ _ _ (by rw [List.toList_toArray]; exact h0 _ _))))
  refine wp_seq (wp_region_list (wpList_runOps (a' := (({ tmps := ([Value.slice none 0 0] ++ aggs k tab ++ [undef]).toArray, defers := [] } : Act).put (some (n + 1)) (.slice (some ⟨w.heap.size, 0, none⟩) n n)).put (some 0) (.slice (some ⟨w.heap.size, 0, none⟩) n n))
    (w' := w.alloc (.cells (tabCells k tab).toArray T)) ?_ _ _ _ ?_))
  · refine wp_ret (bodyPost_ret (results_tmp hres _ _ _) rfl ⟨?_, rfl⟩)
    simp [Act.put]
  · rw [List.toList_toArray, h1]
    have hfr : (Act.put { tmps := #[] ++ Array.replicate (fn.ntmps - (#[] : Array Value).size) undef, defers := [] } (some 0) (.slice none 0 0)) = { tmps := ([Value.slice none 0 0] ++ List.replicate n undef ++ [undef]).toArray, defers := [] } := by
      rw [htm]
      simp only [Act.put, List.size_toArray, List.length_nil, Nat.sub_zero, Array.empty_append]
      rw [← List.toArray_replicate, List.setIfInBounds_toArray, List.replicate_succ, List.set_cons_zero, List.replicate_succ']
      rfl
    have hr := runOps_builds (P := P) (T := T) (k := k) pos hb [bs, ba] w tab [Value.slice none 0 0] (List.replicate n undef) [undef] [] (by simp [hn])
    rw [hfr]
    refine hr.trans ?_
    have hlen : (aggs k tab).length = n := by simp [aggs, hn]
    have hparts : ((partOps n).map fun (x : Nat × Operand) => (x.1, Act.eval { tmps := ([Value.slice none 0 0] ++ aggs k tab ++ [undef]).toArray, defers := [] } x.2)).toList = partsFrom 0 (aggs k tab) := by
      have := parts_of (aggs k tab) [Value.slice none 0 0] [undef] n 0 (by omega) rfl
      rw [List.drop_zero] at this
      rw [← this]
      simp [partOps, List.range_eq_range', Act.eval]
    have hslice := hs w ((partOps n).map fun (x : Nat × Operand) => (x.1, Act.eval { tmps := ([Value.slice none 0 0] ++ aggs k tab ++ [undef]).toArray, defers := [] } x.2)) (tabCells k tab).toArray (fun z hz => by
      rw [hparts]
      have := fill_tab k tab 0 [] z.toList (by simp) (by simp [hz, hn]; omega)
      simpa using this)
    have e1 : (execOp (Act.eval { tmps := ([Value.slice none 0 0] ++ aggs k tab ++ [undef]).toArray, defers := [] }) bs).run P w = .ok (.value (.slice (some ⟨w.heap.size, 0, none⟩) n n)) (w.alloc (.cells (tabCells k tab).toArray T)) := by
      generalize Act.eval { tmps := ([Value.slice none 0 0] ++ aggs k tab ++ [undef]).toArray, defers := [] } = ρ at hslice ⊢
      unfold execOp
      rw [hbs.2.2]
      simp [hslice, Result.andThen]
    conv => lhs; unfold runOps
    simp only [hbs.1, e1, hbs.2.1]
    have e2 : (execOp (Act.eval (Act.put { tmps := ([Value.slice none 0 0] ++ aggs k tab ++ [undef]).toArray, defers := [] } (some (n + 1)) (.slice (some ⟨w.heap.size, 0, none⟩) n n))) ba).run P (w.alloc (.cells (tabCells k tab).toArray T)) = .ok (.value (.slice (some ⟨w.heap.size, 0, none⟩) n n)) (w.alloc (.cells (tabCells k tab).toArray T)) := by
      unfold execOp
      rw [has.2.2]
      simp only [Act.eval, Act.put, List.setIfInBounds_toArray]
      rw [Array.getD_eq_getD_getElem?]
      simp [hlen]
    conv => lhs; unfold runOps
    simp only [has.1, e2, has.2.1]
    rfl

theorem t60s : Try.t60.size = 3 := by kernel_rfl
theorem t60z : Try.t60.zero = some (.agg #[.int .i32 0, .int .i32 0, .int .i32 0]) := by kernel_rfl
theorem t33s : Try.t33.size = 3 := by kernel_rfl
theorem t33z : Try.t33.zero = some (.agg #[.int .i64 0, .int .i64 0, .int .i64 0]) := by kernel_rfl
theorem t21s : Try.t21.size = 1 := by kernel_rfl
theorem t3s : Try.t3.size = 1 := by kernel_rfl

theorem build60 (pos : String) (ρ : Operand → Value) (x : Int × Int × Int) (s : Nat) (w : World) (h : ∀ v, ρ (.const v) = v) : (execOp ρ { dst := some s, op := .build 60 #[(0, .const (.int .i32 x.1)), (1, .const (.int .i32 x.2.1)), (2, .const (.int .i32 x.2.2))], type := 60, pos := pos, after := #[], guard := none }).run Try.prog w = .ok (.value (.agg #[.int .i32 x.1, .int .i32 x.2.1, .int .i32 x.2.2])) w := by
  unfold execOp Instr.build sizeOf zeroValue
  go_simp
  simp [t21s, t60z, Result.andThen]

theorem build33 (pos : String) (ρ : Operand → Value) (x : Int × Int × Int) (s : Nat) (w : World) (h : ∀ v, ρ (.const v) = v) : (execOp ρ { dst := some s, op := .build 33 #[(0, .const (.int .i64 x.1)), (1, .const (.int .i64 x.2.1)), (2, .const (.int .i64 x.2.2))], type := 33, pos := pos, after := #[], guard := none }).run Try.prog w = .ok (.value (.agg #[.int .i64 x.1, .int .i64 x.2.1, .int .i64 x.2.2])) w := by
  unfold execOp Instr.build sizeOf zeroValue
  go_simp
  simp [t3s, t33z, Result.andThen]

theorem slice58_331 (w : World) (parts : Array (Nat × Value)) (cells : Array Value) (h : ∀ z : Array Value, z.size = 331 * 3 → Instr.fill (fun i => some (i * 3, 3)) z parts.toList = some cells) : (Instr.buildSlice 58 331 parts).run Try.prog w = .ok (.slice (some ⟨w.heap.size, 0, none⟩) 331 331) (w.alloc (.cells cells 60)) := by
  unfold Instr.buildSlice underlying sizeOf zeroValue
  go_simp
  rw [if_neg (by rw [t60s]; decide), if_neg (by rw [t60s]; decide), t60z]
  simp only [t60s]
  simp only [Sem.run_pure, Result.andThen]
  rw [h _ (by simp)]
  go_simp

theorem slice58_69 (w : World) (parts : Array (Nat × Value)) (cells : Array Value) (h : ∀ z : Array Value, z.size = 69 * 3 → Instr.fill (fun i => some (i * 3, 3)) z parts.toList = some cells) : (Instr.buildSlice 58 69 parts).run Try.prog w = .ok (.slice (some ⟨w.heap.size, 0, none⟩) 69 69) (w.alloc (.cells cells 60)) := by
  unfold Instr.buildSlice underlying sizeOf zeroValue
  go_simp
  rw [if_neg (by rw [t60s]; decide), if_neg (by rw [t60s]; decide), t60z]
  simp only [t60s]
  simp only [Sem.run_pure, Result.andThen]
  rw [h _ (by simp)]
  go_simp

theorem slice26_331 (w : World) (parts : Array (Nat × Value)) (cells : Array Value) (h : ∀ z : Array Value, z.size = 331 * 3 → Instr.fill (fun i => some (i * 3, 3)) z parts.toList = some cells) : (Instr.buildSlice 26 331 parts).run Try.prog w = .ok (.slice (some ⟨w.heap.size, 0, none⟩) 331 331) (w.alloc (.cells cells 33)) := by
  unfold Instr.buildSlice underlying sizeOf zeroValue
  go_simp
  rw [if_neg (by rw [t33s]; decide), if_neg (by rw [t33s]; decide), t33z]
  simp only [t33s]
  simp only [Sem.run_pure, Result.andThen]
  rw [h _ (by simp)]
  go_simp

/-- cellw_rows: one new block with the table's cells. -/
theorem cellw_rows_calls (w : World) : Calls Try.prog 53 #[] w fun e w' => e = .returned (.slice (some ⟨w.heap.size, 0, none⟩) 69 69) ∧ w' = w.alloc (.cells (tabCells .i32 widthTab).toArray 60) :=
  calls_tab (T := 60) (S := 58) (k := .i32) (pos := "cellw.go:17") (tab := widthTab) (n := 69) (by kernel_rfl) Try.func53 rfl (by kernel_rfl) (by kernel_rfl) (fun a w => by kernel_rfl)
    ((reg1 Try.f53).getD 69 default) ((reg1 Try.f53).getD 70 default) (by kernel_rfl) ⟨by kernel_rfl, by kernel_rfl, by kernel_rfl⟩ ⟨by kernel_rfl, by kernel_rfl, by kernel_rfl⟩ (build60 "cellw.go:17") slice58_69 w

/-- linec_rows: one new block with the table's cells. -/
theorem linec_rows_calls (w : World) : Calls Try.prog 32 #[] w fun e w' => e = .returned (.slice (some ⟨w.heap.size, 0, none⟩) 331 331) ∧ w' = w.alloc (.cells (tabCells .i32 linecTab).toArray 60) :=
  calls_tab (T := 60) (S := 58) (k := .i32) (pos := "linec.go:66") (tab := linecTab) (n := 331) (by kernel_rfl) Try.func32 rfl (by kernel_rfl) (by kernel_rfl) (fun a w => by kernel_rfl)
    ((reg1 Try.f32).getD 331 default) ((reg1 Try.f32).getD 332 default) (by kernel_rfl) ⟨by kernel_rfl, by kernel_rfl, by kernel_rfl⟩ ⟨by kernel_rfl, by kernel_rfl, by kernel_rfl⟩ (build60 "linec.go:66") slice58_331 w

/-- ref_lines: one new block with the table's cells. -/
theorem ref_lines_calls (w : World) : Calls Try.prog 17 #[] w fun e w' => e = .returned (.slice (some ⟨w.heap.size, 0, none⟩) 331 331) ∧ w' = w.alloc (.cells (tabCells .i64 linecTab).toArray 33) :=
  calls_tab (T := 33) (S := 26) (k := .i64) (pos := "ref.go:44") (tab := linecTab) (n := 331) (by kernel_rfl) Try.func17 rfl (by kernel_rfl) (by kernel_rfl) (fun a w => by kernel_rfl)
    ((reg1 Try.f17).getD 331 default) ((reg1 Try.f17).getD 332 default) (by kernel_rfl) ⟨by kernel_rfl, by kernel_rfl, by kernel_rfl⟩ ⟨by kernel_rfl, by kernel_rfl, by kernel_rfl⟩ (build33 "ref.go:44") slice26_331 w

end Go.Proofs.Ytphhgmhgkendaaa
