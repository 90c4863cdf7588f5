/- The double nearest to a positive whole number below 2^63, its square root, and that cut to a whole number: from 0 to 2^40. Plain Lean over the kit's Ieee. Conditions: none. -/
import Ieee.Arith
namespace Go.Proofs.YtfcfgkkkepifhaaGreatDoor
set_option linter.unusedVariables false
open Ieee

theorem cut_le {way : Toward} {neg : Bool} {n drop k : Nat} (h : n < 2 ^ (k + drop)) : way.cut neg n drop ≤ 2 ^ k := by
  unfold Toward.cut
  have hlow : n / (1 <<< min drop (n.log2 + 2)) < 2 ^ k := by
    rw [Nat.one_shiftLeft]
    rcases Nat.le_total drop (n.log2 + 2) with hd | hd
    · rw [Nat.min_eq_left hd, Nat.div_lt_iff_lt_mul (Nat.two_pow_pos _), ← Nat.pow_add]; exact h
    · rw [Nat.min_eq_right hd, Nat.div_eq_of_lt]
      · exact Nat.two_pow_pos _
      · rcases Nat.eq_zero_or_pos n with h0 | h0
        · subst h0; exact Nat.two_pow_pos _
        · exact Nat.lt_of_lt_of_le (Nat.lt_log2_self) (Nat.pow_le_pow_right (by omega) (by omega))
  simp only
  refine Nat.le_trans (Nat.add_le_add_left (Bool.toNat_le _) _) ?_
  exact hlow
theorem lt_two_log {n : Nat} : n < 2 ^ (n.log2 + 1) := by
  rcases Nat.eq_zero_or_pos n with h | h
  · subst h; exact Nat.two_pow_pos _
  · exact Nat.lt_log2_self
theorem log_le {n a : Nat} (h : n < 2 ^ (a + 1)) : n.log2 ≤ a := by
  rcases Nat.eq_zero_or_pos n with h0 | h0
  · subst h0; simp
  · refine Nat.le_of_lt_succ ?_
    exact (Nat.log2_lt (by omega)).2 h
theorem near_zero (place : Int) : double.read (double.nearest false 0 place) = .number false 0 (-1074) := by
  have h : double.nearest false 0 place = 0 := by simp [Format.nearest, Format.word]
  rw [h]; decide
/-- what is read back from the nearest double -/
theorem near_read {mag a : Nat} {place : Int} (hm : mag < 2 ^ (a + 1)) (hb : place + a ≤ 90) :
    ∃ (m : Nat) (p : Int), double.read (double.nearest false mag place) = .number false m p ∧ m < 2 ^ 53 ∧ (p ≤ place + a - 51 ∨ p ≤ -1073) := by
  by_cases h0 : mag = 0
  · subst h0
    exact ⟨0, -1074, near_zero place, by omega, .inr (by omega)⟩
  · have hlog := log_le hm
    have hlt := lt_two_log (n := mag)
    generalize hlg : mag.log2 = lg at hlog hlt
    obtain ⟨last, hlast⟩ : ∃ last, last = max (place + (lg : Int) - (52 : Nat)) (-1074) := ⟨_, rfl⟩
    obtain ⟨kept, hk⟩ : ∃ kept, kept = Toward.even.cut false (mag <<< (place - last).toNat) (last - place).toNat := ⟨_, rfl⟩
    have hle : double.leastPlace = -1074 := by decide
    have hnear : double.nearest false mag place = min ((last + 1074).toNat * 2 ^ 52 + kept) (2047 * 2 ^ 52) := by
      unfold Format.nearest
      rw [if_neg h0]
      simp only [hle, hlg, Format.word, Bool.false_eq_true, if_false, show double.fractionBits = 52 from rfl, show double.binade = 2 ^ 52 from rfl, show double.infRung = 2047 * 2 ^ 52 from by decide]
      rw [← hlast, ← hk, show last - -1074 = last + 1074 by omega]
    have hkept : kept ≤ 2 ^ 53 := by
      rw [hk]
      refine cut_le ?_
      rw [Nat.shiftLeft_eq]
      rcases Int.le_total last place with hd | hd
      · rw [show (last - place).toNat = 0 by omega, Nat.add_zero]
        have hd2 : lg + 1 + (place - last).toNat ≤ 53 := by omega
        calc mag * 2 ^ (place - last).toNat < 2 ^ (lg + 1) * 2 ^ (place - last).toNat := Nat.mul_lt_mul_of_pos_right hlt (Nat.two_pow_pos _)
          _ = 2 ^ (lg + 1 + (place - last).toNat) := (Nat.pow_add _ _ _).symm
          _ ≤ 2 ^ 53 := Nat.pow_le_pow_right (by omega) hd2
      · rw [show (place - last).toNat = 0 by omega, Nat.pow_zero, Nat.mul_one]
        exact Nat.lt_of_lt_of_le hlt (Nat.pow_le_pow_right (by omega) (by omega))
    have hl1 : last ≤ 38 := by omega
    have hl2 : -1074 ≤ last := by omega
    obtain ⟨L, hL⟩ : ∃ L : Nat, L = (last + 1074).toNat := ⟨_, rfl⟩
    have hL1 : L ≤ 1112 := by omega
    rw [hnear, ← hL]
    have hr : L * 2 ^ 52 + kept ≤ 1114 * 2 ^ 52 := by omega
    rw [Nat.min_eq_left (by omega)]
    generalize hrr : L * 2 ^ 52 + kept = rung at hr
    have hsw : double.signWeight = 2 ^ 63 := by decide
    unfold Format.read
    simp only [hsw, hle, show double.binade = 2 ^ 52 from rfl, show double.infRung = 2047 * 2 ^ 52 from by decide]
    have e1 : rung / 2 ^ 63 = 0 := Nat.div_eq_of_lt (by omega)
    have e2 : rung % 2 ^ 63 = rung := Nat.mod_eq_of_lt (by omega)
    rw [e1, e2]
    by_cases h1 : rung < 2 ^ 52
    · rw [if_pos h1]
      exact ⟨rung, -1074, rfl, by omega, .inr (by omega)⟩
    · rw [if_neg h1, if_pos (by omega)]
      refine ⟨_, _, rfl, by have := Nat.mod_lt rung (Nat.two_pow_pos 52); omega, ?_⟩
      have h2 : rung / 2 ^ 52 ≤ L + 2 := by
        have h3 : kept ≤ 2 * 2 ^ 52 := by omega
        have : rung ≤ (L + 2) * 2 ^ 52 := by rw [← hrr, Nat.add_mul]; exact Nat.add_le_add_left h3 _
        exact Nat.div_le_of_le_mul (by rw [Nat.mul_comm]; exact this)
      omega
theorem rootFrom_sq (n : Nat) : ∀ (todo root : Nat), root * root ≤ n → Datum.rootFrom n todo root * Datum.rootFrom n todo root ≤ n
  | 0, root, h => h
  | todo + 1, root, h => by
    simp only [Datum.rootFrom]
    split
    · rename_i h2; exact rootFrom_sq n todo _ h2
    · exact rootFrom_sq n todo _ h
theorem root_bd {m : Nat} {i : Int} (hm : m < 2 ^ 53) (hi : i ≤ 60) : ∃ (M : Nat) (P : Int), Datum.root 54 (.number false m i) = some (.number false M P) ∧ M < 2 ^ 56 ∧ (P ≤ (i - 56) / 2 - 1 ∨ M = 0) := by
  by_cases h0 : m = 0
  · subst h0
    exact ⟨0, i, by simp [Datum.root], by omega, .inr rfl⟩
  · simp only [Datum.root, if_neg h0, Bool.false_eq_true, if_false]
    have hlog : m.log2 ≤ 52 := log_le hm
    have hlt := lt_two_log (n := m)
    generalize m.log2 = lg at hlog hlt
    obtain ⟨more, hmore⟩ : ∃ more, more = 2 * 54 - lg + ((i - ((2 * 54 - lg : Nat) : Int)) % 2).toNat := ⟨_, rfl⟩
    have hm1 : more ≤ 109 - lg := by omega
    have hm2 : 56 ≤ more := by omega
    rw [← hmore]
    have hn : m <<< more < 2 ^ 110 := by
      rw [Nat.shiftLeft_eq]
      calc m * 2 ^ more < 2 ^ (lg + 1) * 2 ^ more := Nat.mul_lt_mul_of_pos_right hlt (Nat.two_pow_pos _)
        _ = 2 ^ (lg + 1 + more) := (Nat.pow_add _ _ _).symm
        _ ≤ 2 ^ 110 := Nat.pow_le_pow_right (by omega) (by omega)
    have hsq := rootFrom_sq (m <<< more) ((m <<< more).log2 / 2 + 1) 0 (by simp)
    generalize Datum.rootFrom (m <<< more) ((m <<< more).log2 / 2 + 1) 0 = whole at hsq
    have hw : whole < 2 ^ 55 := by
      refine Nat.lt_of_not_le (fun h => ?_)
      have := Nat.mul_le_mul h h
      rw [← Nat.pow_add] at this
      omega
    refine ⟨_, _, rfl, ?_, .inl (by omega)⟩
    have := Bool.toNat_le (whole * whole != m <<< more)
    omega
/-- the whole of it -/
theorem sqrt_bd {n : Nat} (hn : n < 2 ^ 63) : ∃ (y : Nat) (v : Nat), double.sqrt (double.nearest false n 0) = some y ∧ Datum.toInt .zero (double.read y) = some (v : Int) ∧ v ≤ 2 ^ 40 := by
  obtain ⟨m, p, e1, h1, h2⟩ := near_read (mag := n) (a := 62) (place := 0) hn (by omega)
  obtain ⟨M, P, e2, h3, h4⟩ := root_bd (i := p) h1 (by omega)
  obtain ⟨m', p', e3, h5, h6⟩ := near_read (mag := M) (a := 55) (place := if M = 0 then 0 else P) h3 (by
    split
    · omega
    · rename_i h; have := h4.resolve_right h; omega)
  have hw : double.write (.number false M P) = double.nearest false M (if M = 0 then 0 else P) := by
    simp only [Format.write]
    split
    · rename_i h; subst h; simp [Format.nearest]
    · rfl
  refine ⟨double.write (.number false M P), ?_⟩
  have hs : double.sqrt (double.nearest false n 0) = some (double.write (.number false M P)) := by
    unfold Format.sqrt
    rw [e1, show double.fractionBits + 2 = 54 from rfl, e2]; rfl
  rw [hw] at hs ⊢
  have hp' : p' ≤ -13 := by
    rcases h6 with h6 | h6
    · by_cases hM : M = 0
      · rw [if_pos hM] at h6
        subst hM
        rw [near_zero] at e3
        injection e3 with _ _ e3
        omega
      · rw [if_neg hM] at h6
        have := h4.resolve_right hM
        omega
    · omega
  refine ⟨Toward.zero.cut false (m' <<< p'.toNat) (-p').toNat, hs, ?_, ?_⟩
  · rw [e3]
    simp [Datum.toInt, Datum.integral, signed]
  · refine cut_le ?_
    rw [show p'.toNat = 0 by omega, Nat.shiftLeft_zero]
    exact Nat.lt_of_lt_of_le h5 (Nat.pow_le_pow_right (by omega) (by omega))
end Go.Proofs.YtfcfgkkkepifhaaGreatDoor
