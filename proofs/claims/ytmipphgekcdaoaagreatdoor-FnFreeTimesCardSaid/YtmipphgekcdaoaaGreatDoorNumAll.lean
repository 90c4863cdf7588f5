/- Joined texts: SplitLaw, NumLaw, SplitFns, NumFns. Conditions: told in each. -/
import Derived.Lib.SplitLaws
import Derived.Lib.IndexBytes
import Derived.Lib.ParseIntB
import Derived.Lib.ItoaNum
import Derived.Test.YtmipphgekcdaoaaGreatDoorOpenSeatsFns
import Derived.Test.YtmipphgekcdaoaaGreatDoorLString
/-! SplitLaw -/
namespace Go.Proofs.YtmipphgekcdaoaaGreatDoor
set_option linter.unusedVariables false

/-- the pieces, the first of which begins with cur -/
def splitO (c : UInt8) : List UInt8 → List UInt8 → List (List UInt8)
  | cur, [] => [cur]
  | cur, x :: xs => if x = c then cur :: splitO c [] xs else splitO c (cur ++ [x]) xs
def headApp (p : List UInt8) : List (List UInt8) → List (List UInt8)
  | [] => []
  | h :: t => (p ++ h) :: t
theorem splitO_cur (c : UInt8) (s : List UInt8) : ∀ (p cur : List UInt8), splitO c (p ++ cur) s = headApp p (splitO c cur s) := by
  induction s with
  | nil => intro p cur; rfl
  | cons x xs ih =>
    intro p cur
    simp only [splitO]
    split
    · rfl
    · rw [List.append_assoc]; exact ih p (cur ++ [x])
theorem splitK_cons {c x : UInt8} (hx : x ≠ c) : ∀ (k : Nat) (s : List UInt8), k = s.count c → Lib.splitK [c] 0 k (x :: s) = headApp [x] (Lib.splitK [c] 0 k s)
  | 0, s, _ => rfl
  | k + 1, s, h => by
    have hi : Lib.index (x :: s) [c] = if Lib.index s [c] == -1 then -1 else Lib.index s [c] + 1 := by
      rw [Lib.index_one, Lib.index_one, Lib.indexByte]
      rw [if_neg (by simpa using hx)]
    simp only [Lib.splitK]
    rw [hi]
    by_cases hm : Lib.index s [c] = -1
    · rw [hm]; rfl
    · have hg := Lib.index_ge s [c]
      have e1 : (Lib.index s [c] == -1) = false := by simpa using hm
      have e2 : ((Lib.index s [c] + 1) == -1) = false := by simp only [beq_eq_false_iff_ne, ne_eq]; omega
      simp only [e1, Bool.false_eq_true, if_false, e2, List.length_singleton, Nat.add_zero]
      have e3 : (Lib.index s [c] + 1).toNat = (Lib.index s [c]).toNat + 1 := by omega
      rw [e3, List.take_succ_cons, show (Lib.index s [c]).toNat + 1 + 1 = ((Lib.index s [c]).toNat + 1) + 1 from rfl, List.drop_succ_cons]
      rfl
theorem split_same (c : UInt8) (s : List UInt8) : Lib.splitK [c] 0 (s.count c) s = splitO c [] s := by
  induction s with
  | nil => rfl
  | cons x xs ih =>
    simp only [splitO]
    by_cases hx : x = c
    · subst hx
      rw [if_pos rfl, List.count_cons_self, Lib.splitK]
      have hi : Lib.index (x :: xs) [x] = 0 := by rw [Lib.index_one, Lib.indexByte, if_pos (by simp)]
      rw [hi]
      simp only [List.length_singleton]
      rw [if_neg (by decide)]
      show [] :: Lib.splitK [x] 0 (List.count x xs) xs = _
      rw [ih]
    · rw [if_neg hx, List.count_cons_of_ne hx, splitK_cons hx _ _ rfl, ih, List.nil_append]
      have := splitO_cur c xs [x] []
      rw [List.append_nil] at this
      exact this.symm
/-- the pieces of a text -/
def splitS (c : UInt8) (s : ByteArray) : List ByteArray := (splitO c [] s.data.toList).map fun l => ⟨l.toArray⟩
theorem splitS_data (c : UInt8) (s : ByteArray) : (splitS c s).map (fun b => b.data.toList) = splitO c [] s.data.toList := by
  unfold splitS
  rw [List.map_map]
  conv => rhs; rw [← List.map_id (splitO c [] s.data.toList)]
  congr 1
theorem pieces_eq {c : UInt8} {s : ByteArray} {L : List ByteArray} (h : L.map (fun b => b.data.toList) = splitO c [] s.data.toList) : L = splitS c s := by
  unfold splitS
  rw [← h, List.map_map]
  conv => lhs; rw [← List.map_id L]
  congr 1
/-- strings.Split gives them -/
theorem split_lib (c : UInt8) (s : ByteArray) : Lib.splitB ⟨#[c]⟩ 0 (Lib.countB s ⟨#[c]⟩) s = splitS c s := by
  apply pieces_eq
  rw [Lib.splitB_data]
  show Lib.splitK [c] 0 (Lib.countB s ⟨#[c]⟩) s.data.toList = _
  rw [show Lib.countB s ⟨#[c]⟩ = s.data.toList.count c from Lib.count_one c s.data.toList]
  exact split_same c _
theorem splitO_len (c : UInt8) (s : List UInt8) : ∀ cur, (splitO c cur s).length ≤ s.length + 1 := by
  induction s with
  | nil => intro cur; simp [splitO]
  | cons x xs ih =>
    intro cur
    simp only [splitO]
    split
    · simp only [List.length_cons]; have := ih []; omega
    · have := ih (cur ++ [x]); simp only [List.length_cons]; omega
theorem splitS_len (c : UInt8) (s : ByteArray) : (splitS c s).length ≤ s.size + 1 := by
  unfold splitS
  rw [List.length_map]
  exact splitO_len c s.data.toList []
theorem splitO_mem (c : UInt8) (s : List UInt8) : ∀ cur, ∀ p ∈ splitO c cur s, p.length ≤ cur.length + s.length := by
  induction s with
  | nil => intro cur p hp; simp [splitO] at hp; subst hp; simp
  | cons x xs ih =>
    intro cur p hp
    simp only [splitO] at hp
    split at hp
    · rcases List.mem_cons.1 hp with rfl | hp
      · simp
      · have := ih [] p hp; simp at this; simp only [List.length_cons]; omega
    · have := ih (cur ++ [x]) p hp; simp at this; simp only [List.length_cons]; omega
theorem splitS_size (c : UInt8) (s : ByteArray) : ∀ p ∈ splitS c s, p.size ≤ s.size := fun p hp => by
  obtain ⟨l, hl, rfl⟩ := List.mem_map.1 hp
  have := splitO_mem c s.data.toList [] l hl
  simp only [List.length_nil, Nat.zero_add, Array.length_toList] at this
  show l.toArray.size ≤ s.data.size
  simpa using this
/-- one byte further -/
theorem splitO_hit {c : UInt8} {cur xs : List UInt8} : splitO c cur (c :: xs) = cur :: splitO c [] xs := by simp [splitO]
theorem splitO_miss {c x : UInt8} {cur xs : List UInt8} (h : x ≠ c) : splitO c cur (x :: xs) = splitO c (cur ++ [x]) xs := by simp [splitO, h]
end Go.Proofs.YtmipphgekcdaoaaGreatDoor

/-! NumLaw -/
namespace Go.Proofs.YtmipphgekcdaoaaGreatDoor
set_option linter.unusedVariables false

def isDig (c : UInt8) : Bool := decide (48 ≤ c.toNat) && decide (c.toNat ≤ 57)
/-- the number that digits spell behind acc -/
def valD (acc : Nat) (l : List UInt8) : Nat := l.foldl (fun a c => a * 10 + (c.toNat - 48)) acc
theorem valD_snoc (acc : Nat) (l : List UInt8) (c : UInt8) : valD acc (l ++ [c]) = valD acc l * 10 + (c.toNat - 48) := by simp [valD]
theorem valD_cons (acc : Nat) (c : UInt8) (l : List UInt8) : valD acc (c :: l) = valD (acc * 10 + (c.toNat - 48)) l := by simp only [valD, List.foldl_cons]
theorem valD_ge (l : List UInt8) : ∀ (acc : Nat), acc ≤ valD acc l := by
  induction l with
  | nil => intro acc; exact Nat.le_refl _
  | cons c l ih =>
    intro acc
    have := ih (acc * 10 + (c.toNat - 48))
    rw [valD_cons]
    exact Nat.le_trans (by omega) this
theorem valD_lt (l : List UInt8) : ∀ (acc : Nat), l.all isDig = true → valD acc l < (acc + 1) * 10 ^ l.length := by
  induction l with
  | nil => intro acc _; simp [valD]
  | cons c l ih =>
    intro acc h
    rw [List.all_cons, Bool.and_eq_true] at h
    have hc := h.1
    simp only [isDig, Bool.and_eq_true, decide_eq_true_eq] at hc
    have ih := ih (acc * 10 + (c.toNat - 48)) h.2
    rw [valD_cons, List.length_cons, Nat.pow_succ]
    generalize 10 ^ l.length = p at ih ⊢
    have h2 : (acc * 10 + (c.toNat - 48) + 1) * p ≤ ((acc + 1) * 10) * p := Nat.mul_le_mul_right p (by omega)
    have h3 : (acc + 1) * (p * 10) = ((acc + 1) * 10) * p := by rw [Nat.mul_assoc, Nat.mul_comm p 10]
    omega
theorem parse_ok {M : Nat} (l : List UInt8) : ∀ (acc : Nat), l.all isDig = true → valD acc l ≤ M → valD acc l < 18446744073709551620 → Lib.parseUintM M acc l = .ok (valD acc l) := by
  induction l with
  | nil => intro acc _ _ _; rfl
  | cons c l ih =>
    intro acc h hM hB
    rw [List.all_cons, Bool.and_eq_true] at h
    have hc := h.1
    simp only [isDig, Bool.and_eq_true, decide_eq_true_eq] at hc
    rw [valD_cons] at hM hB ⊢
    have hg := valD_ge l (acc * 10 + (c.toNat - 48))
    simp only [Lib.parseUintM]
    rw [if_pos hc, if_neg (by omega), if_neg (by omega)]
    exact ih _ h.2 hM hB
theorem dig_of (u : Nat) (h : u < 10) : isDig (UInt8.ofNat (48 + u)) = true ∧ (UInt8.ofNat (48 + u)).toNat = 48 + u := by
  have e : (UInt8.ofNat (48 + u)).toNat = 48 + u := by rw [UInt8.toNat_ofNat']; omega
  refine ⟨?_, e⟩
  simp only [isDig, e, Bool.and_eq_true, decide_eq_true_eq]; omega
/-- numerals: digits, no zero ahead, and what they spell -/
theorem dec_says : ∀ (u : Nat), (Lib.decDigits u).all isDig = true ∧ Lib.decDigits u ≠ [] ∧ valD 0 (Lib.decDigits u) = u ∧ (u ≠ 0 → ∀ c l, Lib.decDigits u = c :: l → c.toNat ≠ 48) := by
  intro u
  induction u using Nat.strongRecOn with
  | _ u ih =>
    rw [Lib.decDigits]
    by_cases h : u < 10
    · rw [dif_pos h]
      obtain ⟨h1, h2⟩ := dig_of u h
      refine ⟨by simp only [List.all_cons, List.all_nil, h1, Bool.and_true], by simp, by simp only [valD, List.foldl_cons, List.foldl_nil, h2]; omega, fun h0 c l e => ?_⟩
      injection e with e1 e2
      rw [← e1, h2]; omega
    · rw [dif_neg h]
      obtain ⟨k1, k2, k3, k4⟩ := ih (u / 10) (by omega)
      obtain ⟨h1, h2⟩ := dig_of (u % 10) (by omega)
      refine ⟨by rw [List.all_append, k1]; simp only [List.all_cons, List.all_nil, h1, Bool.and_true], by simp, by rw [valD_snoc, k3, h2]; omega, fun _ c l e => ?_⟩
      cases hd : Lib.decDigits (u / 10) with
      | nil => exact absurd hd k2
      | cons c' l' =>
        rw [hd, List.cons_append] at e
        injection e with e1 e2
        rw [← e1]
        exact k4 (by omega) c' l' hd
theorem dec_back : ∀ (l : List UInt8), l.all isDig = true → l ≠ [] → (∀ c r, l = c :: r → c.toNat = 48 → r = []) → Lib.decDigits (valD 0 l) = l := by
  intro l
  induction hn : l.length using Nat.strongRecOn generalizing l with
  | _ n ih =>
    intro h hne hz
    rcases List.eq_nil_or_concat l with h0 | ⟨r, c, e⟩
    · exact absurd h0 hne
    · rw [List.concat_eq_append] at e
      subst e
      rw [List.all_append, Bool.and_eq_true] at h
      have hc : 48 ≤ c.toNat ∧ c.toNat ≤ 57 := by have := h.2; simpa [isDig] using this
      rw [valD_snoc]
      have hcb : UInt8.ofNat (48 + (c.toNat - 48)) = c := by
        rw [show 48 + (c.toNat - 48) = c.toNat by omega]; simp
      cases hr : r with
      | nil =>
        rw [Lib.decDigits]
        simp only [valD, List.foldl_nil, Nat.zero_mul, Nat.zero_add, List.nil_append]
        rw [dif_pos (by omega), hcb]
      | cons d r' =>
        have hrn : r ≠ [] := by rw [hr]; simp
        have ihr := ih r.length (by rw [← hn]; simp) r rfl h.1 hrn (fun c' r'' e e0 => by
          have := hz c' (r'' ++ [c]) (by rw [e]; rfl) e0
          simp at this)
        have hpos : 1 ≤ valD 0 r := by
          rw [hr, valD_cons]
          have hd := h.1
          rw [hr, List.all_cons, Bool.and_eq_true] at hd
          have hd1 : 48 ≤ d.toNat ∧ d.toNat ≤ 57 := by have := hd.1; simpa [isDig] using this
          have hd48 : d.toNat ≠ 48 := fun e0 => by
            have := hz d (r' ++ [c]) (by rw [hr]; rfl) e0
            simp at this
          have := valD_ge r' (0 * 10 + (d.toNat - 48))
          omega
        rw [← hr, Lib.decDigits, dif_neg (by omega), show (valD 0 r * 10 + (c.toNat - 48)) / 10 = valD 0 r by omega, show (valD 0 r * 10 + (c.toNat - 48)) % 10 = c.toNat - 48 by omega, ihr, hcb]
/-- the digits behind a sign -/
def digsOf (l : List UInt8) : List UInt8 := if l.head? = some 45 then l.tail else l
/-- what the reference reads -/
def numOk (l : List UInt8) : Bool := decide (1 ≤ (digsOf l).length) && decide ((digsOf l).length ≤ 18) && !((digsOf l).head? == some 48 && decide (1 < l.length)) && (digsOf l).all isDig
def numV (l : List UInt8) : Int := if l.head? = some 45 then -(valD 0 (digsOf l) : Int) else (valD 0 (digsOf l) : Int)
theorem lt18 {l : List UInt8} (h : l.all isDig = true) (hl : l.length ≤ 18) : valD 0 l < 1000000000000000000 := by
  have h1 := valD_lt l 0 h
  have h2 : 10 ^ l.length ≤ 10 ^ 18 := Nat.pow_le_pow_right (by omega) hl
  omega
/-- what is read is parsed to the same, and written back alike -/
theorem num_yes {l : List UInt8} (h : numOk l = true) : Lib.parseIntB 64 l = .ok (numV l) ∧ Lib.itoa (numV l) = l ∧ -1000000000000000000 < numV l ∧ numV l < 1000000000000000000 := by
  simp only [numOk, Bool.and_eq_true, decide_eq_true_eq, Bool.not_eq_true'] at h
  obtain ⟨⟨⟨h1, h2⟩, h3⟩, h4⟩ := h
  have hlt := lt18 h4 h2
  cases l with
  | nil => simp [digsOf] at h1
  | cons c r =>
    by_cases hc : c = 45
    · subst hc
      have hd : digsOf (45 :: r) = r := rfl
      have hv : numV (45 :: r) = -(valD 0 r : Int) := rfl
      rw [hd] at h1 h2 h3 h4 hlt
      rw [hv]
      have hrn : r ≠ [] := fun e => by rw [e] at h1; simp at h1
      have hz : ∀ c' r', r = c' :: r' → c'.toNat ≠ 48 := fun c' r' e e0 => by
        subst e
        have : c' = 48 := UInt8.toNat_inj.1 e0
        subst this
        simp at h3
      have hpos : 1 ≤ valD 0 r := by
        cases r with
        | nil => exact absurd rfl hrn
        | cons d r' =>
          have hd1 : 48 ≤ d.toNat ∧ d.toNat ≤ 57 := by have := h4; rw [List.all_cons, Bool.and_eq_true] at this; simpa [isDig] using this.1
          have := hz d r' rfl
          rw [valD_cons]
          have := valD_ge r' (0 * 10 + (d.toNat - 48))
          omega
      refine ⟨?_, ?_, by omega, by omega⟩
      · have hp : Lib.parseUintB 64 r = .ok (valD 0 r) := by
          unfold Lib.parseUintB
          rw [if_neg hrn]
          exact parse_ok r 0 h4 (by omega) (by omega)
        simp only [Lib.parseIntB]
        rw [if_pos (by right; rfl), hp]
        simp
        omega
      · unfold Lib.itoa
        rw [if_pos (by omega), Int.natAbs_neg, Int.natAbs_natCast, dec_back r h4 hrn (fun c' r' e e0 => absurd e0 (hz c' r' e))]
    · have hd : digsOf (c :: r) = c :: r := by unfold digsOf; rw [if_neg (by simpa using hc)]
      have hv : numV (c :: r) = (valD 0 (c :: r) : Int) := by unfold numV; rw [if_neg (by simpa using hc), hd]
      rw [hd] at h1 h2 h3 h4 hlt
      rw [hv]
      have hcd : 48 ≤ c.toNat ∧ c.toNat ≤ 57 := by have := h4; rw [List.all_cons, Bool.and_eq_true] at this; simpa [isDig] using this.1
      refine ⟨?_, ?_, by omega, by omega⟩
      · have hp : Lib.parseUintB 64 (c :: r) = .ok (valD 0 (c :: r)) := by
          unfold Lib.parseUintB
          rw [if_neg (by simp)]
          exact parse_ok (c :: r) 0 h4 (by omega) (by omega)
        simp only [Lib.parseIntB]
        rw [if_neg (by omega), hp]
        have hn45 : ¬ c.toNat = 45 := by omega
        simp [hn45]
        omega
      · unfold Lib.itoa
        rw [if_neg (by omega), Int.toNat_natCast, dec_back (c :: r) h4 (by simp) (fun c' r' e e0 => by
          injection e with e1 e2
          subst e1 e2
          have : c = 48 := UInt8.toNat_inj.1 e0
          subst this
          cases r with
          | nil => rfl
          | cons a b => simp at h3)]
/-- what is written back alike, with one to eighteen digits, is read -/
theorem num_of {v : Int} (h1 : 1 ≤ (digsOf (Lib.itoa v)).length) (h2 : (digsOf (Lib.itoa v)).length ≤ 18) : numOk (Lib.itoa v) = true ∧ numV (Lib.itoa v) = v := by
  unfold Lib.itoa at h1 h2 ⊢
  split at h1
  · rename_i hv
    rw [if_pos hv] at h2 ⊢
    obtain ⟨k1, k2, k3, k4⟩ := dec_says v.natAbs
    have hd : digsOf (45 :: Lib.decDigits v.natAbs) = Lib.decDigits v.natAbs := rfl
    rw [hd] at h1 h2
    constructor
    · simp only [numOk, hd, k1, Bool.and_true, Bool.and_eq_true, decide_eq_true_eq, Bool.not_eq_true']
      refine ⟨⟨h1, h2⟩, ?_⟩
      cases hdd : Lib.decDigits v.natAbs with
      | nil => exact absurd hdd k2
      | cons c r =>
        have := k4 (by omega) c r hdd
        have hc : c ≠ 48 := fun e => this (by rw [e]; rfl)
        simp [hc]
    · unfold numV
      rw [if_pos (show (45 :: Lib.decDigits v.natAbs).head? = some 45 from rfl), hd, k3]; omega
  · rename_i hv
    rw [if_neg hv] at h2 ⊢
    obtain ⟨k1, k2, k3, k4⟩ := dec_says v.toNat
    have hd : digsOf (Lib.decDigits v.toNat) = Lib.decDigits v.toNat := by
      unfold digsOf
      rw [if_neg]
      intro e
      cases hdd : Lib.decDigits v.toNat with
      | nil => exact absurd hdd k2
      | cons c r =>
        rw [hdd] at e k1
        simp at e
        subst e
        rw [List.all_cons, Bool.and_eq_true] at k1
        have := k1.1
        simp [isDig] at this
    have hh : ¬ (Lib.decDigits v.toNat).head? = some 45 := fun e => by
      unfold digsOf at hd
      cases hdd : Lib.decDigits v.toNat with
      | nil => exact absurd hdd k2
      | cons c r =>
        rw [hdd] at e k1
        simp at e
        subst e
        rw [List.all_cons, Bool.and_eq_true] at k1
        have := k1.1
        simp [isDig] at this
    rw [hd] at h1 h2
    constructor
    · simp only [numOk, hd, k1, Bool.and_true, Bool.and_eq_true, decide_eq_true_eq, Bool.not_eq_true']
      refine ⟨⟨h1, h2⟩, ?_⟩
      by_cases h0 : v.toNat = 0
      · rw [h0, Lib.decDigits, dif_pos (by omega)]; simp
      · cases hdd : Lib.decDigits v.toNat with
        | nil => exact absurd hdd k2
        | cons c r =>
          have := k4 h0 c r hdd
          have hc : c ≠ 48 := fun e => this (by rw [e]; rfl)
          simp [hc]
    · unfold numV
      rw [if_neg hh, hd, k3]; omega
/-- the program's reading is the reference's -/
theorem num_same {l : List UInt8} {v : Int} (h1 : 1 ≤ (digsOf l).length) (h2 : (digsOf l).length ≤ 18) (hp : Lib.parseIntB 64 l = .ok v) : (Lib.itoa v = l ↔ numOk l = true) ∧ (numOk l = true → v = numV l) := by
  have hv : numOk l = true → v = numV l := fun h => by
    have := (num_yes h).1
    rw [hp] at this
    injection this
  refine ⟨⟨fun e => ?_, fun h => by rw [hv h]; exact (num_yes h).2.1⟩, hv⟩
  subst e
  exact (num_of h1 h2).1
theorem num_bad {l : List UInt8} (hp : ∀ v, Lib.parseIntB 64 l ≠ .ok v) : numOk l = false := by
  rw [Bool.eq_false_iff]
  exact fun h => hp _ (num_yes h).1
end Go.Proofs.YtmipphgekcdaoaaGreatDoor

/-! SplitFns -/
namespace Go.Proofs.YtmipphgekcdaoaaGreatDoor
set_option linter.unusedVariables false
open Go.RowKit

theorem spString_info : (Tryz.prog.info? 9).map (fun i => (i.zero, i.size, i.bytes)) = some (some (.string ByteArray.empty), 1, 16) := by kernel_rfl
theorem sp_one (x : ByteArray) : ∀ u ∈ [Value.string x], u.oneCell' = true := by
  intro u hu
  simp only [List.mem_singleton] at hu
  subst hu; rfl
theorem sp_reads (w : World) (t : Nat) (u : ByteArray) : Reads (w.alloc (.cells #[.string u] t)) (w.alloc (.cells #[.string u] t)).heap.size 1 (some ⟨w.heap.size, 0, none⟩) 1 [.string u] :=
  Rd.reads (cells := strC) (xs := [u]) (by omega) strC_len (Blk.rd (cells := strC) (xs := [u]) (t := t) strC_len (Blk.new w t #[.string u]))
def partOf (s : ByteArray) (f i : Nat) : List UInt8 := (s.data.toList.take i).drop f
theorem part_eq (s : ByteArray) (f i : Nat) : s.extract f i = ⟨(partOf s f i).toArray⟩ := by
  apply ByteArray.ext
  apply Array.ext'
  rw [ByteArray.data_extract, Array.toList_extract]
  simp [partOf, List.extract_eq_take_drop, List.drop_take]
def SplitAt (c : UInt8) (s : ByteArray) (O : List ByteArray) (f i : Nat) : Prop := splitS c s = O ++ (splitO c (partOf s f i) (s.data.toList.drop i)).map fun l => ⟨l.toArray⟩
theorem splitAt_start (c : UInt8) (s : ByteArray) : SplitAt c s [] 0 0 := by simp [SplitAt, splitS, partOf]
theorem splitAt_hit {c : UInt8} {s : ByteArray} {O : List ByteArray} {f i : Nat} (h : SplitAt c s O f i) (hi : i < s.data.toList.length) (e : s.data.toList[i] = c) : SplitAt c s (O ++ [⟨(partOf s f i).toArray⟩]) (i + 1) (i + 1) := by
  unfold SplitAt at h ⊢
  rw [List.drop_eq_getElem_cons hi, e, splitO_hit] at h
  rw [h, List.append_assoc]
  congr 1
  simp only [List.map_cons, List.singleton_append]
  congr 3
  simp [partOf]
theorem splitAt_miss {c : UInt8} {s : ByteArray} {O : List ByteArray} {f i : Nat} (h : SplitAt c s O f i) (hf : f ≤ i) (hi : i < s.data.toList.length) (e : s.data.toList[i] ≠ c) : SplitAt c s O f (i + 1) := by
  unfold SplitAt at h ⊢
  rw [List.drop_eq_getElem_cons hi, splitO_miss e] at h
  rw [h]
  congr 3
  unfold partOf
  rw [List.take_succ_eq_append_getElem hi, List.drop_append_of_le_length (by rw [List.length_take]; omega)]
theorem splitAt_end {c : UInt8} {s : ByteArray} {O : List ByteArray} {f : Nat} (h : SplitAt c s O f s.data.toList.length) : splitS c s = O ++ [⟨(partOf s f s.data.toList.length).toArray⟩] := by
  unfold SplitAt at h
  rw [h, List.drop_length]
  simp [splitO]
theorem splitAt_len {c : UInt8} {s : ByteArray} {O : List ByteArray} {f i : Nat} (h : SplitAt c s O f i) : O.length ≤ s.size + 1 := by
  have h1 := splitS_len c s
  unfold SplitAt at h
  rw [h, List.length_append] at h1
  omega

end Go.Proofs.YtmipphgekcdaoaaGreatDoor

/-! NumFns -/
namespace Go.Proofs.YtmipphgekcdaoaaGreatDoor
set_option linter.unusedVariables false
open Go.RowKit

def numR (l : List UInt8) : Int := if numOk l = true then numV l else 0
def decTo (l : List UInt8) (a i : Nat) : List UInt8 := (l.take i).drop a
theorem decTo_succ {l : List UInt8} {a i : Nat} (ha : a ≤ i) (hi : i < l.length) : decTo l a (i + 1) = decTo l a i ++ [l[i]] := by
  unfold decTo
  rw [List.take_succ_eq_append_getElem hi, List.drop_append_of_le_length (by rw [List.length_take]; omega)]
theorem decTo_end (l : List UInt8) (a : Nat) : decTo l a l.length = l.drop a := by simp [decTo]
theorem decTo_len {l : List UInt8} {a i : Nat} (hi : i ≤ l.length) : (decTo l a i).length = i - a := by simp [decTo]; omega
theorem decTo_mem {l : List UInt8} {a i : Nat} (ha : a ≤ i) (hi : i < l.length) : l[i] ∈ l.drop a := by
  rw [List.mem_drop_iff_getElem]
  exact ⟨i - a, by omega, by congr 1; omega⟩
theorem digs_at {l : List UInt8} : digsOf l = l.drop (if l.head? = some 45 then 1 else 0) := by
  unfold digsOf
  split <;> simp
theorem numOk_at (l : List UInt8) (a : Nat) (h : digsOf l = l.drop a) : numOk l = (decide (1 ≤ l.length - a) && decide (l.length - a ≤ 18) && !(l[a]? == some 48 && decide (1 < l.length)) && (l.drop a).all isDig) := by
  unfold numOk
  rw [h, List.length_drop, List.head?_drop]
theorem num_r_false {l : List UInt8} (h : numOk l = false) : numR l = 0 := by simp [numR, h]
theorem dec_step (n : Nat) (c : UInt8) (h : isDig c = true) : 10 * (n : Int) + ((c.toNat : Int) - 48) = ((n * 10 + (c.toNat - 48) : Nat) : Int) := by
  simp only [isDig, Bool.and_eq_true, decide_eq_true_eq] at h
  omega
set_option maxHeartbeats 800000 in
theorem c_l01Digit (c : UInt8) (w : World) : Calls Tryz.prog 77 #[.int .u8 c.toNat] w fun e w' => e = .returned (.bool (isDig c)) ∧ w = w' := by
  by_cases h1 : 48 ≤ c.toNat
  · by_cases h2 : c.toNat ≤ 57
    · have g0 : decide ((c.toNat : Int) ≥ 48) = true := decide_eq_true (by omega)
      have g1 : decide ((c.toNat : Int) ≤ 57) = true := decide_eq_true (by omega)
      have hr : isDig c = true := by simp [isDig, h1, h2]
      rw [hr]
      go_enter Tryz.func77, Tryz.ntmps77
      go_wp2_with fail
      go_ret
      exact ⟨rfl, rfl⟩
    · have g0 : decide ((c.toNat : Int) ≥ 48) = true := decide_eq_true (by omega)
      have g1 : decide ((c.toNat : Int) ≤ 57) = false := decide_eq_false (by omega)
      have hr : isDig c = false := by simp [isDig, h1, h2]
      rw [hr]
      go_enter Tryz.func77, Tryz.ntmps77
      go_wp2_with fail
      go_ret
      exact ⟨rfl, rfl⟩
  · have g0 : decide ((c.toNat : Int) ≥ 48) = false := decide_eq_false (by omega)
    have hr : isDig c = false := by simp [isDig]; omega
    rw [hr]
    go_enter Tryz.func77, Tryz.ntmps77
    go_wp2_with fail
    go_ret
    exact ⟨rfl, rfl⟩
end Go.Proofs.YtmipphgekcdaoaaGreatDoor
