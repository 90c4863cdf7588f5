/- Decimal forms: what the reference reads digit by digit is what the library parses and writes back alike. Plain Lean. Conditions: none. -/
import Derived.Lib.ParseIntB
import Derived.Lib.ItoaNum
namespace Go.Proofs.YtpdfebalkkbpoaaDoor
set_option linter.unusedVariables false

def isDig (c : UInt8) : Bool := decide (48 ≤ c.toNat) && decide (c.toNat ≤ 57)
/-- the number that digits spell behind acc -/
def valD (acc : Nat) (l : List UInt8) : Nat := l.foldl (fun a c => a * 10 + (c.toNat - 48)) acc
theorem valD_snoc (acc : Nat) (l : List UInt8) (c : UInt8) : valD acc (l ++ [c]) = valD acc l * 10 + (c.toNat - 48) := by simp [valD]
theorem valD_cons (acc : Nat) (c : UInt8) (l : List UInt8) : valD acc (c :: l) = valD (acc * 10 + (c.toNat - 48)) l := by simp only [valD, List.foldl_cons]
theorem valD_ge (l : List UInt8) : ∀ (acc : Nat), acc ≤ valD acc l := by
  induction l with
  | nil => intro acc; exact Nat.le_refl _
  | cons c l ih =>
    intro acc
    have := ih (acc * 10 + (c.toNat - 48))
    rw [valD_cons]
    exact Nat.le_trans (by omega) this
theorem valD_lt (l : List UInt8) : ∀ (acc : Nat), l.all isDig = true → valD acc l < (acc + 1) * 10 ^ l.length := by
  induction l with
  | nil => intro acc _; simp [valD]
  | cons c l ih =>
    intro acc h
    rw [List.all_cons, Bool.and_eq_true] at h
    have hc := h.1
    simp only [isDig, Bool.and_eq_true, decide_eq_true_eq] at hc
    have ih := ih (acc * 10 + (c.toNat - 48)) h.2
    rw [valD_cons, List.length_cons, Nat.pow_succ]
    generalize 10 ^ l.length = p at ih ⊢
    have h2 : (acc * 10 + (c.toNat - 48) + 1) * p ≤ ((acc + 1) * 10) * p := Nat.mul_le_mul_right p (by omega)
    have h3 : (acc + 1) * (p * 10) = ((acc + 1) * 10) * p := by rw [Nat.mul_assoc, Nat.mul_comm p 10]
    omega
theorem parse_ok {M : Nat} (l : List UInt8) : ∀ (acc : Nat), l.all isDig = true → valD acc l ≤ M → valD acc l < 18446744073709551620 → Lib.parseUintM M acc l = .ok (valD acc l) := by
  induction l with
  | nil => intro acc _ _ _; rfl
  | cons c l ih =>
    intro acc h hM hB
    rw [List.all_cons, Bool.and_eq_true] at h
    have hc := h.1
    simp only [isDig, Bool.and_eq_true, decide_eq_true_eq] at hc
    rw [valD_cons] at hM hB ⊢
    have hg := valD_ge l (acc * 10 + (c.toNat - 48))
    simp only [Lib.parseUintM]
    rw [if_pos hc, if_neg (by omega), if_neg (by omega)]
    exact ih _ h.2 hM hB
theorem dig_of (u : Nat) (h : u < 10) : isDig (UInt8.ofNat (48 + u)) = true ∧ (UInt8.ofNat (48 + u)).toNat = 48 + u := by
  have e : (UInt8.ofNat (48 + u)).toNat = 48 + u := by rw [UInt8.toNat_ofNat']; omega
  refine ⟨?_, e⟩
  simp only [isDig, e, Bool.and_eq_true, decide_eq_true_eq]; omega
/-- numerals: digits, no zero ahead, and what they spell -/
theorem dec_says : ∀ (u : Nat), (Lib.decDigits u).all isDig = true ∧ Lib.decDigits u ≠ [] ∧ valD 0 (Lib.decDigits u) = u ∧ (u ≠ 0 → ∀ c l, Lib.decDigits u = c :: l → c.toNat ≠ 48) := by
  intro u
  induction u using Nat.strongRecOn with
  | _ u ih =>
    rw [Lib.decDigits]
    by_cases h : u < 10
    · rw [dif_pos h]
      obtain ⟨h1, h2⟩ := dig_of u h
      refine ⟨by simp only [List.all_cons, List.all_nil, h1, Bool.and_true], by simp, by simp only [valD, List.foldl_cons, List.foldl_nil, h2]; omega, fun h0 c l e => ?_⟩
      injection e with e1 e2
      rw [← e1, h2]; omega
    · rw [dif_neg h]
      obtain ⟨k1, k2, k3, k4⟩ := ih (u / 10) (by omega)
      obtain ⟨h1, h2⟩ := dig_of (u % 10) (by omega)
      refine ⟨by rw [List.all_append, k1]; simp only [List.all_cons, List.all_nil, h1, Bool.and_true], by simp, by rw [valD_snoc, k3, h2]; omega, fun _ c l e => ?_⟩
      cases hd : Lib.decDigits (u / 10) with
      | nil => exact absurd hd k2
      | cons c' l' =>
        rw [hd, List.cons_append] at e
        injection e with e1 e2
        rw [← e1]
        exact k4 (by omega) c' l' hd
theorem dec_back : ∀ (l : List UInt8), l.all isDig = true → l ≠ [] → (∀ c r, l = c :: r → c.toNat = 48 → r = []) → Lib.decDigits (valD 0 l) = l := by
  intro l
  induction hn : l.length using Nat.strongRecOn generalizing l with
  | _ n ih =>
    intro h hne hz
    rcases List.eq_nil_or_concat l with h0 | ⟨r, c, e⟩
    · exact absurd h0 hne
    · rw [List.concat_eq_append] at e
      subst e
      rw [List.all_append, Bool.and_eq_true] at h
      have hc : 48 ≤ c.toNat ∧ c.toNat ≤ 57 := by have := h.2; simpa [isDig] using this
      rw [valD_snoc]
      have hcb : UInt8.ofNat (48 + (c.toNat - 48)) = c := by
        rw [show 48 + (c.toNat - 48) = c.toNat by omega]; simp
      cases hr : r with
      | nil =>
        rw [Lib.decDigits]
        simp only [valD, List.foldl_nil, Nat.zero_mul, Nat.zero_add, List.nil_append]
        rw [dif_pos (by omega), hcb]
      | cons d r' =>
        have hrn : r ≠ [] := by rw [hr]; simp
        have ihr := ih r.length (by rw [← hn]; simp) r rfl h.1 hrn (fun c' r'' e e0 => by
          have := hz c' (r'' ++ [c]) (by rw [e]; rfl) e0
          simp at this)
        have hpos : 1 ≤ valD 0 r := by
          rw [hr, valD_cons]
          have hd := h.1
          rw [hr, List.all_cons, Bool.and_eq_true] at hd
          have hd1 : 48 ≤ d.toNat ∧ d.toNat ≤ 57 := by have := hd.1; simpa [isDig] using this
          have hd48 : d.toNat ≠ 48 := fun e0 => by
            have := hz d (r' ++ [c]) (by rw [hr]; rfl) e0
            simp at this
          have := valD_ge r' (0 * 10 + (d.toNat - 48))
          omega
        rw [← hr, Lib.decDigits, dif_neg (by omega), show (valD 0 r * 10 + (c.toNat - 48)) / 10 = valD 0 r by omega, show (valD 0 r * 10 + (c.toNat - 48)) % 10 = c.toNat - 48 by omega, ihr, hcb]
/-- the digits behind a sign -/
def digsOf (l : List UInt8) : List UInt8 := if l.head? = some 45 then l.tail else l
/-- what the reference reads -/
def numOk (l : List UInt8) : Bool := decide (1 ≤ (digsOf l).length) && decide ((digsOf l).length ≤ 18) && !((digsOf l).head? == some 48 && decide (1 < l.length)) && (digsOf l).all isDig
def numV (l : List UInt8) : Int := if l.head? = some 45 then -(valD 0 (digsOf l) : Int) else (valD 0 (digsOf l) : Int)
theorem lt18 {l : List UInt8} (h : l.all isDig = true) (hl : l.length ≤ 18) : valD 0 l < 1000000000000000000 := by
  have h1 := valD_lt l 0 h
  have h2 : 10 ^ l.length ≤ 10 ^ 18 := Nat.pow_le_pow_right (by omega) hl
  omega
/-- what is read is parsed to the same, and written back alike -/
theorem num_yes {l : List UInt8} (h : numOk l = true) : Lib.parseIntB 64 l = .ok (numV l) ∧ Lib.itoa (numV l) = l ∧ -1000000000000000000 < numV l ∧ numV l < 1000000000000000000 := by
  simp only [numOk, Bool.and_eq_true, decide_eq_true_eq, Bool.not_eq_true'] at h
  obtain ⟨⟨⟨h1, h2⟩, h3⟩, h4⟩ := h
  have hlt := lt18 h4 h2
  cases l with
  | nil => simp [digsOf] at h1
  | cons c r =>
    by_cases hc : c = 45
    · subst hc
      have hd : digsOf (45 :: r) = r := rfl
      have hv : numV (45 :: r) = -(valD 0 r : Int) := rfl
      rw [hd] at h1 h2 h3 h4 hlt
      rw [hv]
      have hrn : r ≠ [] := fun e => by rw [e] at h1; simp at h1
      have hz : ∀ c' r', r = c' :: r' → c'.toNat ≠ 48 := fun c' r' e e0 => by
        subst e
        have : c' = 48 := UInt8.toNat_inj.1 e0
        subst this
        simp at h3
      have hpos : 1 ≤ valD 0 r := by
        cases r with
        | nil => exact absurd rfl hrn
        | cons d r' =>
          have hd1 : 48 ≤ d.toNat ∧ d.toNat ≤ 57 := by have := h4; rw [List.all_cons, Bool.and_eq_true] at this; simpa [isDig] using this.1
          have := hz d r' rfl
          rw [valD_cons]
          have := valD_ge r' (0 * 10 + (d.toNat - 48))
          omega
      refine ⟨?_, ?_, by omega, by omega⟩
      · have hp : Lib.parseUintB 64 r = .ok (valD 0 r) := by
          unfold Lib.parseUintB
          rw [if_neg hrn]
          exact parse_ok r 0 h4 (by omega) (by omega)
        simp only [Lib.parseIntB]
        rw [if_pos (by right; rfl), hp]
        simp
        omega
      · unfold Lib.itoa
        rw [if_pos (by omega), Int.natAbs_neg, Int.natAbs_natCast, dec_back r h4 hrn (fun c' r' e e0 => absurd e0 (hz c' r' e))]
    · have hd : digsOf (c :: r) = c :: r := by unfold digsOf; rw [if_neg (by simpa using hc)]
      have hv : numV (c :: r) = (valD 0 (c :: r) : Int) := by unfold numV; rw [if_neg (by simpa using hc), hd]
      rw [hd] at h1 h2 h3 h4 hlt
      rw [hv]
      have hcd : 48 ≤ c.toNat ∧ c.toNat ≤ 57 := by have := h4; rw [List.all_cons, Bool.and_eq_true] at this; simpa [isDig] using this.1
      refine ⟨?_, ?_, by omega, by omega⟩
      · have hp : Lib.parseUintB 64 (c :: r) = .ok (valD 0 (c :: r)) := by
          unfold Lib.parseUintB
          rw [if_neg (by simp)]
          exact parse_ok (c :: r) 0 h4 (by omega) (by omega)
        simp only [Lib.parseIntB]
        rw [if_neg (by omega), hp]
        have hn45 : ¬ c.toNat = 45 := by omega
        simp [hn45]
        omega
      · unfold Lib.itoa
        rw [if_neg (by omega), Int.toNat_natCast, dec_back (c :: r) h4 (by simp) (fun c' r' e e0 => by
          injection e with e1 e2
          subst e1 e2
          have : c = 48 := UInt8.toNat_inj.1 e0
          subst this
          cases r with
          | nil => rfl
          | cons a b => simp at h3)]
/-- what is written back alike, with one to eighteen digits, is read -/
theorem num_of {v : Int} (h1 : 1 ≤ (digsOf (Lib.itoa v)).length) (h2 : (digsOf (Lib.itoa v)).length ≤ 18) : numOk (Lib.itoa v) = true ∧ numV (Lib.itoa v) = v := by
  unfold Lib.itoa at h1 h2 ⊢
  split at h1
  · rename_i hv
    rw [if_pos hv] at h2 ⊢
    obtain ⟨k1, k2, k3, k4⟩ := dec_says v.natAbs
    have hd : digsOf (45 :: Lib.decDigits v.natAbs) = Lib.decDigits v.natAbs := rfl
    rw [hd] at h1 h2
    constructor
    · simp only [numOk, hd, k1, Bool.and_true, Bool.and_eq_true, decide_eq_true_eq, Bool.not_eq_true']
      refine ⟨⟨h1, h2⟩, ?_⟩
      cases hdd : Lib.decDigits v.natAbs with
      | nil => exact absurd hdd k2
      | cons c r =>
        have := k4 (by omega) c r hdd
        have hc : c ≠ 48 := fun e => this (by rw [e]; rfl)
        simp [hc]
    · unfold numV
      rw [if_pos (show (45 :: Lib.decDigits v.natAbs).head? = some 45 from rfl), hd, k3]; omega
  · rename_i hv
    rw [if_neg hv] at h2 ⊢
    obtain ⟨k1, k2, k3, k4⟩ := dec_says v.toNat
    have hd : digsOf (Lib.decDigits v.toNat) = Lib.decDigits v.toNat := by
      unfold digsOf
      rw [if_neg]
      intro e
      cases hdd : Lib.decDigits v.toNat with
      | nil => exact absurd hdd k2
      | cons c r =>
        rw [hdd] at e k1
        simp at e
        subst e
        rw [List.all_cons, Bool.and_eq_true] at k1
        have := k1.1
        simp [isDig] at this
    have hh : ¬ (Lib.decDigits v.toNat).head? = some 45 := fun e => by
      unfold digsOf at hd
      cases hdd : Lib.decDigits v.toNat with
      | nil => exact absurd hdd k2
      | cons c r =>
        rw [hdd] at e k1
        simp at e
        subst e
        rw [List.all_cons, Bool.and_eq_true] at k1
        have := k1.1
        simp [isDig] at this
    rw [hd] at h1 h2
    constructor
    · simp only [numOk, hd, k1, Bool.and_true, Bool.and_eq_true, decide_eq_true_eq, Bool.not_eq_true']
      refine ⟨⟨h1, h2⟩, ?_⟩
      by_cases h0 : v.toNat = 0
      · rw [h0, Lib.decDigits, dif_pos (by omega)]; simp
      · cases hdd : Lib.decDigits v.toNat with
        | nil => exact absurd hdd k2
        | cons c r =>
          have := k4 h0 c r hdd
          have hc : c ≠ 48 := fun e => this (by rw [e]; rfl)
          simp [hc]
    · unfold numV
      rw [if_neg hh, hd, k3]; omega
/-- the program's reading is the reference's -/
theorem num_same {l : List UInt8} {v : Int} (h1 : 1 ≤ (digsOf l).length) (h2 : (digsOf l).length ≤ 18) (hp : Lib.parseIntB 64 l = .ok v) : (Lib.itoa v = l ↔ numOk l = true) ∧ (numOk l = true → v = numV l) := by
  have hv : numOk l = true → v = numV l := fun h => by
    have := (num_yes h).1
    rw [hp] at this
    injection this
  refine ⟨⟨fun e => ?_, fun h => by rw [hv h]; exact (num_yes h).2.1⟩, hv⟩
  subst e
  exact (num_of h1 h2).1
theorem num_bad {l : List UInt8} (hp : ∀ v, Lib.parseIntB 64 l ≠ .ok v) : numOk l = false := by
  rw [Bool.eq_false_iff]
  exact fun h => hp _ (num_yes h).1
end Go.Proofs.YtpdfebalkkbpoaaDoor
