/- Texts cut at a byte: the library's pieces are those of a scan from the left. Plain Lean. Conditions: none. -/
import Derived.Lib.SplitLaws
import Derived.Lib.IndexBytes
namespace Go.Proofs.YtpdfebalkkbpoaaDoor
set_option linter.unusedVariables false

/-- the pieces, the first of which begins with cur -/
def splitO (c : UInt8) : List UInt8 → List UInt8 → List (List UInt8)
  | cur, [] => [cur]
  | cur, x :: xs => if x = c then cur :: splitO c [] xs else splitO c (cur ++ [x]) xs
def headApp (p : List UInt8) : List (List UInt8) → List (List UInt8)
  | [] => []
  | h :: t => (p ++ h) :: t
theorem splitO_cur (c : UInt8) (s : List UInt8) : ∀ (p cur : List UInt8), splitO c (p ++ cur) s = headApp p (splitO c cur s) := by
  induction s with
  | nil => intro p cur; rfl
  | cons x xs ih =>
    intro p cur
    simp only [splitO]
    split
    · rfl
    · rw [List.append_assoc]; exact ih p (cur ++ [x])
theorem splitK_cons {c x : UInt8} (hx : x ≠ c) : ∀ (k : Nat) (s : List UInt8), k = s.count c → Lib.splitK [c] 0 k (x :: s) = headApp [x] (Lib.splitK [c] 0 k s)
  | 0, s, _ => rfl
  | k + 1, s, h => by
    have hi : Lib.index (x :: s) [c] = if Lib.index s [c] == -1 then -1 else Lib.index s [c] + 1 := by
      rw [Lib.index_one, Lib.index_one, Lib.indexByte]
      rw [if_neg (by simpa using hx)]
    simp only [Lib.splitK]
    rw [hi]
    by_cases hm : Lib.index s [c] = -1
    · rw [hm]; rfl
    · have hg := Lib.index_ge s [c]
      have e1 : (Lib.index s [c] == -1) = false := by simpa using hm
      have e2 : ((Lib.index s [c] + 1) == -1) = false := by simp only [beq_eq_false_iff_ne, ne_eq]; omega
      simp only [e1, Bool.false_eq_true, if_false, e2, List.length_singleton, Nat.add_zero]
      have e3 : (Lib.index s [c] + 1).toNat = (Lib.index s [c]).toNat + 1 := by omega
      rw [e3, List.take_succ_cons, show (Lib.index s [c]).toNat + 1 + 1 = ((Lib.index s [c]).toNat + 1) + 1 from rfl, List.drop_succ_cons]
      rfl
theorem split_same (c : UInt8) (s : List UInt8) : Lib.splitK [c] 0 (s.count c) s = splitO c [] s := by
  induction s with
  | nil => rfl
  | cons x xs ih =>
    simp only [splitO]
    by_cases hx : x = c
    · subst hx
      rw [if_pos rfl, List.count_cons_self, Lib.splitK]
      have hi : Lib.index (x :: xs) [x] = 0 := by rw [Lib.index_one, Lib.indexByte, if_pos (by simp)]
      rw [hi]
      simp only [List.length_singleton]
      rw [if_neg (by decide)]
      show [] :: Lib.splitK [x] 0 (List.count x xs) xs = _
      rw [ih]
    · rw [if_neg hx, List.count_cons_of_ne hx, splitK_cons hx _ _ rfl, ih, List.nil_append]
      have := splitO_cur c xs [x] []
      rw [List.append_nil] at this
      exact this.symm
/-- the pieces of a text -/
def splitS (c : UInt8) (s : ByteArray) : List ByteArray := (splitO c [] s.data.toList).map fun l => ⟨l.toArray⟩
theorem splitS_data (c : UInt8) (s : ByteArray) : (splitS c s).map (fun b => b.data.toList) = splitO c [] s.data.toList := by
  unfold splitS
  rw [List.map_map]
  conv => rhs; rw [← List.map_id (splitO c [] s.data.toList)]
  congr 1
theorem pieces_eq {c : UInt8} {s : ByteArray} {L : List ByteArray} (h : L.map (fun b => b.data.toList) = splitO c [] s.data.toList) : L = splitS c s := by
  unfold splitS
  rw [← h, List.map_map]
  conv => lhs; rw [← List.map_id L]
  congr 1
/-- strings.Split gives them -/
theorem split_lib (c : UInt8) (s : ByteArray) : Lib.splitB ⟨#[c]⟩ 0 (Lib.countB s ⟨#[c]⟩) s = splitS c s := by
  apply pieces_eq
  rw [Lib.splitB_data]
  show Lib.splitK [c] 0 (Lib.countB s ⟨#[c]⟩) s.data.toList = _
  rw [show Lib.countB s ⟨#[c]⟩ = s.data.toList.count c from Lib.count_one c s.data.toList]
  exact split_same c _
theorem splitO_len (c : UInt8) (s : List UInt8) : ∀ cur, (splitO c cur s).length ≤ s.length + 1 := by
  induction s with
  | nil => intro cur; simp [splitO]
  | cons x xs ih =>
    intro cur
    simp only [splitO]
    split
    · simp only [List.length_cons]; have := ih []; omega
    · have := ih (cur ++ [x]); simp only [List.length_cons]; omega
theorem splitS_len (c : UInt8) (s : ByteArray) : (splitS c s).length ≤ s.size + 1 := by
  unfold splitS
  rw [List.length_map]
  exact splitO_len c s.data.toList []
theorem splitO_mem (c : UInt8) (s : List UInt8) : ∀ cur, ∀ p ∈ splitO c cur s, p.length ≤ cur.length + s.length := by
  induction s with
  | nil => intro cur p hp; simp [splitO] at hp; subst hp; simp
  | cons x xs ih =>
    intro cur p hp
    simp only [splitO] at hp
    split at hp
    · rcases List.mem_cons.1 hp with rfl | hp
      · simp
      · have := ih [] p hp; simp at this; simp only [List.length_cons]; omega
    · have := ih (cur ++ [x]) p hp; simp at this; simp only [List.length_cons]; omega
theorem splitS_size (c : UInt8) (s : ByteArray) : ∀ p ∈ splitS c s, p.size ≤ s.size := fun p hp => by
  obtain ⟨l, hl, rfl⟩ := List.mem_map.1 hp
  have := splitO_mem c s.data.toList [] l hl
  simp only [List.length_nil, Nat.zero_add, Array.length_toList] at this
  show l.toArray.size ≤ s.data.size
  simpa using this
/-- one byte further -/
theorem splitO_hit {c : UInt8} {cur xs : List UInt8} : splitO c cur (c :: xs) = cur :: splitO c [] xs := by simp [splitO]
theorem splitO_miss {c x : UInt8} {cur xs : List UInt8} (h : x ≠ c) : splitO c cur (x :: xs) = splitO c (cur ++ [x]) xs := by simp [splitO, h]
end Go.Proofs.YtpdfebalkkbpoaaDoor
