/- Sine and cosine of the table lie near the circle, so the places of seats lie on their rings. Conditions: told with each. -/
import Derived.Test.YtfcfgkkkepifhaaGreatDoorDomeLaw
namespace Go.Proofs.YtfcfgkkkepifhaaGreatDoor
set_option linter.unusedVariables false

theorem far_tab : ∀ k, k < 90 → (999998000000 ≤ TT k * TT k + TT (90 - k) * TT (90 - k) ∧ TT k * TT k + TT (90 - k) * TT (90 - k) ≤ 1000002000000) ∧
    (999998000000 ≤ TT (k + 1) * TT (k + 1) + TT (89 - k) * TT (89 - k) ∧ TT (k + 1) * TT (k + 1) + TT (89 - k) * TT (89 - k) ≤ 1000002000000) ∧
    (999845000000 ≤ TT k * TT (k + 1) + TT (90 - k) * TT (89 - k) ∧ TT k * TT (k + 1) + TT (90 - k) * TT (89 - k) ≤ 1000002000000) := by
  decide +kernel
theorem tt_mono : ∀ k, k < 90 → 0 ≤ TT k ∧ TT k ≤ TT (k + 1) ∧ TT (k + 1) ≤ 1000000 := by decide +kernel
/-- thousandfold sines between two whole degrees -/
theorem sin0_mid {k : Nat} {r : Int} (hk : k < 90) (h0 : 0 ≤ r) (h1 : r ≤ 1000) : ∃ e : Int, -500 ≤ e ∧ e ≤ 500 ∧ 1000 * sin0 ((k : Int) * 1000 + r) = (1000 - r) * TT k + r * TT (k + 1) + e := by
  by_cases hr : r = 1000
  · subst hr
    refine ⟨0, by omega, by omega, ?_⟩
    unfold sin0
    rw [show ((k : Int) * 1000 + 1000) / 1000 = ((k + 1 : Nat) : Int) by omega, show ((k : Int) * 1000 + 1000) % 1000 = 0 by omega, if_pos rfl, Int.toNat_natCast]
    omega
  · by_cases hz : r = 0
    · subst hz
      refine ⟨0, by omega, by omega, ?_⟩
      unfold sin0
      rw [show ((k : Int) * 1000 + 0) / 1000 = (k : Int) by omega, show ((k : Int) * 1000 + 0) % 1000 = 0 by omega, if_pos rfl, Int.toNat_natCast]
      omega
    · unfold sin0
      rw [show ((k : Int) * 1000 + r) / 1000 = (k : Int) by omega, show ((k : Int) * 1000 + r) % 1000 = r by omega, if_neg hz, Int.toNat_natCast]
      have hs : slope k r = (TT (k + 1) - TT k) * r := rfl
      refine ⟨1000 * divR (slope k r) 1000 - slope k r, ?_, ?_, ?_⟩
      · unfold divR; split <;> omega
      · unfold divR; split <;> omega
      · rw [hs, Int.sub_mul, Int.sub_mul, Int.mul_comm (TT (k + 1)) r, Int.mul_comm (TT k) r]; omega
theorem quad {p r a b c d lo hi m : Int} (hp : 0 ≤ p) (hr : 0 ≤ r) (hs : p + r = 1000) (h1 : lo ≤ a * a + b * b ∧ a * a + b * b ≤ hi) (h2 : lo ≤ c * c + d * d ∧ c * c + d * d ≤ hi) (h3 : m ≤ a * c + b * d ∧ a * c + b * d ≤ hi) (hm : m ≤ lo) :
    1000000 * lo - 500000 * (lo - m) ≤ (p * a + r * c) * (p * a + r * c) + (p * b + r * d) * (p * b + r * d) ∧ (p * a + r * c) * (p * a + r * c) + (p * b + r * d) * (p * b + r * d) ≤ 1000000 * hi := by
  have hpp : 0 ≤ p * p := Int.mul_nonneg hp hp
  have hrr : 0 ≤ r * r := Int.mul_nonneg hr hr
  have hpr : 0 ≤ p * r := Int.mul_nonneg hp hr
  have hsum : p * p + r * r + 2 * (p * r) = 1000000 := by
    have : (p + r) * (p + r) = 1000000 := by rw [hs]; rfl
    grind
  have hpr2 : 4 * (p * r) ≤ 1000000 := by
    have : 0 ≤ (p - r) * (p - r) := by
      rcases Int.le_total p r with h | h
      · have := Int.mul_nonneg (show 0 ≤ r - p by omega) (show 0 ≤ r - p by omega)
        grind
      · exact Int.mul_nonneg (by omega) (by omega)
    grind
  have e : (p * a + r * c) * (p * a + r * c) + (p * b + r * d) * (p * b + r * d) = p * p * (a * a + b * b) + r * r * (c * c + d * d) + 2 * (p * r) * (a * c + b * d) := by grind
  rw [e]
  generalize a * a + b * b = A at *
  generalize c * c + d * d = C at *
  generalize a * c + b * d = M at *
  generalize p * p = P at *
  generalize r * r = R at *
  generalize p * r = Q at *
  have l1 := Int.mul_le_mul_of_nonneg_left h1.1 hpp
  have l2 := Int.mul_le_mul_of_nonneg_left h2.1 hrr
  have l3 := Int.mul_le_mul_of_nonneg_left h3.1 (show 0 ≤ 2 * Q by omega)
  have u1 := Int.mul_le_mul_of_nonneg_left h1.2 hpp
  have u2 := Int.mul_le_mul_of_nonneg_left h2.2 hrr
  have u3 := Int.mul_le_mul_of_nonneg_left h3.2 (show 0 ≤ 2 * Q by omega)
  have k1 : P * lo + R * lo + 2 * Q * lo = 1000000 * lo := by rw [← hsum]; grind
  have k2 : P * hi + R * hi + 2 * Q * hi = 1000000 * hi := by rw [← hsum]; grind
  have k3 : 2 * Q * (lo - m) ≤ 500000 * (lo - m) := Int.mul_le_mul_of_nonneg_right (by omega) (by omega)
  have k4 : 2 * Q * (lo - m) = 2 * Q * lo - 2 * Q * m := Int.mul_sub _ _ _
  omega
theorem sq_off {x y e f : Int} {B E : Int} (hx : -B ≤ x ∧ x ≤ B) (hy : -B ≤ y ∧ y ≤ B) (he : -E ≤ e ∧ e ≤ E) (hf : -E ≤ f ∧ f ≤ E) (hB : 0 ≤ B) (hE : 0 ≤ E) :
    x * x + y * y - 4 * (B * E) ≤ (x + e) * (x + e) + (y + f) * (y + f) ∧ (x + e) * (x + e) + (y + f) * (y + f) ≤ x * x + y * y + 4 * (B * E) + 2 * (E * E) := by
  have mb : ∀ {a b A C : Int}, (-A ≤ a ∧ a ≤ A) → (-C ≤ b ∧ b ≤ C) → 0 ≤ A → 0 ≤ C → -(A * C) ≤ a * b ∧ a * b ≤ A * C := by
    intro a b A C h k hA hC
    have p1 := Int.mul_nonneg (show 0 ≤ A - a by omega) (show 0 ≤ C - b by omega)
    have p2 := Int.mul_nonneg (show 0 ≤ A + a by omega) (show 0 ≤ C + b by omega)
    have p3 := Int.mul_nonneg (show 0 ≤ A - a by omega) (show 0 ≤ C + b by omega)
    have p4 := Int.mul_nonneg (show 0 ≤ A + a by omega) (show 0 ≤ C - b by omega)
    constructor <;> grind
  have m1 := mb hx he hB hE
  have m2 := mb hy hf hB hE
  have m3 := mb he he hE hE
  have m4 := mb hf hf hE hE
  have n3 : 0 ≤ e * e := by rcases Int.le_total 0 e with h | h; exact Int.mul_nonneg h h; exact Int.mul_nonneg_of_nonpos_of_nonpos h h
  have n4 : 0 ≤ f * f := by rcases Int.le_total 0 f with h | h; exact Int.mul_nonneg h h; exact Int.mul_nonneg_of_nonpos_of_nonpos h h
  have e1 : (x + e) * (x + e) = x * x + 2 * (x * e) + e * e := by grind
  have e2 : (y + f) * (y + f) = y * y + 2 * (y * f) + f * f := by grind
  rw [e1, e2]
  omega
/-- sine and cosine of a first quarter: the sum of the squares -/
theorem circ0 {a : Int} (h0 : 0 ≤ a) (h1 : a ≤ 90000) : (0 ≤ sin0 a ∧ sin0 a ≤ 1000000) ∧ (0 ≤ sin0 (90000 - a) ∧ sin0 (90000 - a) ≤ 1000000) ∧
    999900000000 ≤ sin0 a * sin0 a + sin0 (90000 - a) * sin0 (90000 - a) ∧ sin0 a * sin0 a + sin0 (90000 - a) * sin0 (90000 - a) ≤ 1000100000000 := by
  obtain ⟨k, r, hk, hr0, hr1, rfl⟩ : ∃ (k : Nat) (r : Int), k < 90 ∧ 0 ≤ r ∧ r ≤ 1000 ∧ a = (k : Int) * 1000 + r := by
    by_cases h : a = 90000
    · exact ⟨89, 1000, by omega, by omega, by omega, by omega⟩
    · exact ⟨(a / 1000).toNat, a % 1000, by omega, by omega, by omega, by omega⟩
  obtain ⟨e, e0, e1, e2⟩ := sin0_mid hk hr0 hr1
  obtain ⟨f, f0, f1, f2⟩ := sin0_mid (k := 89 - k) (r := 1000 - r) (by omega) (by omega) (by omega)
  rw [show ((89 - k : Nat) : Int) * 1000 + (1000 - r) = 90000 - ((k : Int) * 1000 + r) by omega, show 89 - k + 1 = 90 - k by omega] at f2
  obtain ⟨t1, t2, t3⟩ := far_tab k hk
  obtain ⟨m1, m2, m3⟩ := tt_mono k hk
  obtain ⟨n1, n2, n3⟩ := tt_mono (89 - k) (by omega)
  rw [show 89 - k + 1 = 90 - k by omega] at n2 n3
  generalize sin0 ((k : Int) * 1000 + r) = s at *
  generalize sin0 (90000 - ((k : Int) * 1000 + r)) = c at *
  have hq := quad (p := 1000 - r) (r := r) (by omega) hr0 (by omega) t1 t2 t3 (by omega)
  generalize TT k = a0 at *
  generalize TT (k + 1) = a1 at *
  generalize TT (90 - k) = b0 at *
  generalize TT (89 - k) = b1 at *
  have e3 : (1000 - (1000 - r)) * b1 + (1000 - r) * b0 = (1000 - r) * b0 + r * b1 := by grind
  rw [e3] at f2
  have q1 : 0 ≤ (1000 - r) * a0 := Int.mul_nonneg (by omega) m1
  have q2 : 0 ≤ r * a1 := Int.mul_nonneg hr0 (by omega)
  have q3 : 0 ≤ (1000 - r) * b0 := Int.mul_nonneg (by omega) (by omega)
  have q4 : 0 ≤ r * b1 := Int.mul_nonneg hr0 n1
  have q5 : (1000 - r) * a0 + r * a1 ≤ 1000000000 := by
    have := Int.mul_le_mul_of_nonneg_left (show a0 ≤ 1000000 by omega) (show 0 ≤ 1000 - r by omega)
    have := Int.mul_le_mul_of_nonneg_left m3 hr0
    omega
  have q6 : (1000 - r) * b0 + r * b1 ≤ 1000000000 := by
    have := Int.mul_le_mul_of_nonneg_left n3 (show 0 ≤ 1000 - r by omega)
    have := Int.mul_le_mul_of_nonneg_left (show b1 ≤ 1000000 by omega) hr0
    omega
  have q7 : 0 ≤ (1000 - r) * a0 + r * a1 := by omega
  have q8 : 0 ≤ (1000 - r) * b0 + r * b1 := by omega
  clear e3 q1 q2 q3 q4
  generalize (1000 - r) * a0 + r * a1 = S at *
  generalize (1000 - r) * b0 + r * b1 = C at *
  have ho := sq_off (x := S) (y := C) (e := e) (f := f) (B := 1000000000) (E := 500) (by omega) (by omega) (by omega) (by omega) (by omega) (by omega)
  rw [← e2, ← f2] at ho
  have g1 : 1000 * s * (1000 * s) = 1000000 * (s * s) := by grind
  have g2 : 1000 * c * (1000 * c) = 1000000 * (c * c) := by grind
  rw [g1, g2] at ho
  refine ⟨by omega, by omega, by omega, by omega⟩
theorem circ {a : Int} (h0 : 0 ≤ a) (h1 : a < 360000) : (-1000000 ≤ sinA a ∧ sinA a ≤ 1000000) ∧ (-1000000 ≤ cosA a ∧ cosA a ≤ 1000000) ∧
    999900000000 ≤ sinA a * sinA a + cosA a * cosA a ∧ sinA a * sinA a + cosA a * cosA a ≤ 1000100000000 := by
  have key : ∃ b s c : Int, 0 ≤ b ∧ b ≤ 90000 ∧ (s = sin0 b ∨ s = -(sin0 b)) ∧ (c = sin0 (90000 - b) ∨ c = -(sin0 (90000 - b))) ∧ ((sinA a = s ∧ cosA a = c) ∨ (sinA a = c ∧ cosA a = s)) := by
    unfold cosA sinA sin1
    rcases Int.lt_or_le a 90000 with g1 | g1
    · refine ⟨a, sin0 a, sin0 (90000 - a), h0, by omega, .inl rfl, .inl rfl, .inl ?_⟩
      rw [show (a + 90000) % 360000 = a + 90000 by omega, if_neg (by omega), if_neg (by omega), if_neg (by omega)]
      refine ⟨rfl, ?_⟩
      split
      · congr 1; omega
      · rw [show a = 0 by omega]; rfl
    · rcases Int.lt_or_le a 180000 with g2 | g2
      · refine ⟨180000 - a, sin0 (180000 - a), -(sin0 (90000 - (180000 - a))), by omega, by omega, .inl rfl, .inr rfl, .inl ?_⟩
        rw [show (a + 90000) % 360000 = a + 90000 by omega, if_neg (show ¬ 180000 ≤ a by omega), if_pos (show 180000 ≤ a + 90000 by omega), if_neg (show ¬ 90000 < a + 90000 - 180000 by omega), show a + 90000 - 180000 = 90000 - (180000 - a) by omega]
        refine ⟨?_, rfl⟩
        split
        · rfl
        · rw [show a = 90000 by omega]; rfl
      · rcases Int.lt_or_le a 270000 with g3 | g3
        · refine ⟨a - 180000, -(sin0 (a - 180000)), -(sin0 (90000 - (a - 180000))), by omega, by omega, .inr rfl, .inr rfl, .inl ?_⟩
          rw [show (a + 90000) % 360000 = a + 90000 by omega, if_pos (by omega), if_pos (show 180000 ≤ a + 90000 by omega), if_neg (by omega)]
          refine ⟨rfl, ?_⟩
          split
          · rw [show 180000 - (a + 90000 - 180000) = 90000 - (a - 180000) by omega]
          · rw [show a = 180000 by omega]; rfl
        · refine ⟨360000 - a, -(sin0 (360000 - a)), sin0 (90000 - (360000 - a)), by omega, by omega, .inr rfl, .inl rfl, .inl ?_⟩
          rw [show (a + 90000) % 360000 = a - 270000 by omega, if_pos (by omega), if_neg (show ¬ 180000 ≤ a - 270000 by omega), if_neg (show ¬ 90000 < a - 270000 by omega), show a - 270000 = 90000 - (360000 - a) by omega]
          refine ⟨?_, rfl⟩
          split
          · congr 2; omega
          · rw [show a = 270000 by omega]; rfl
  obtain ⟨b, s, c, b0, b1, hs, hc, hk⟩ := key
  obtain ⟨k1, k2, k3, k4⟩ := circ0 b0 b1
  have hss : s * s = sin0 b * sin0 b := by rcases hs with h | h <;> rw [h] <;> first | rfl | rw [Int.neg_mul_neg]
  have hcc : c * c = sin0 (90000 - b) * sin0 (90000 - b) := by rcases hc with h | h <;> rw [h] <;> first | rfl | rw [Int.neg_mul_neg]
  rw [← hss, ← hcc] at k3 k4
  rcases hk with ⟨h5, h6⟩ | ⟨h5, h6⟩ <;> rw [h5, h6] <;> refine ⟨?_, ?_, ?_, ?_⟩ <;> omega
theorem rootZ_ge {n r : Int} (hr : 0 ≤ r) (h : r * r ≤ n) : r ≤ rootZ n := by
  obtain ⟨q, rfl⟩ := Int.eq_ofNat_of_zero_le hr
  have ⟨k1, k2⟩ := rootN_spec n.toNat
  have e2 : q * q ≤ n.toNat := by
    have h3 : ((q * q : Nat) : Int) ≤ (n.toNat : Int) := by
      push_cast
      omega
    exact_mod_cast h3
  have := sq_lt (Nat.lt_of_le_of_lt e2 k2)
  unfold rootZ; omega
theorem near_off (a : Int) : ∃ e : Int, -500000 ≤ e ∧ e ≤ 500000 ∧ 1000000 * nearM a = a + e := by
  refine ⟨1000000 * nearM a - a, ?_, ?_, by omega⟩ <;> (unfold nearM divR; split <;> omega)
/-- a place on a ring lies on it: within 4 of its radius -/
theorem far_ok {R s c : Int} (h0 : 500 ≤ R) (h1 : R ≤ 30000) (hs : -1000000 ≤ s ∧ s ≤ 1000000) (hc : -1000000 ≤ c ∧ c ≤ 1000000) (hl : 999900000000 ≤ s * s + c * c) (hu : s * s + c * c ≤ 1000100000000) :
    (-30000 ≤ nearM (R * s) ∧ nearM (R * s) ≤ 30000) ∧ (-30000 ≤ nearM (R * c) ∧ nearM (R * c) ≤ 30000) ∧
    R - 4 ≤ rootZ (nearM (R * s) * nearM (R * s) + nearM (R * c) * nearM (R * c)) ∧ rootZ (nearM (R * s) * nearM (R * s) + nearM (R * c) * nearM (R * c)) ≤ R + 4 := by
  have bnd : ∀ {z : Int}, (-1000000 ≤ z ∧ z ≤ 1000000) → -(R * 1000000) ≤ R * z ∧ R * z ≤ R * 1000000 := by
    intro z hz
    have p1 := Int.mul_le_mul_of_nonneg_left hz.2 (show 0 ≤ R by omega)
    have p2 := Int.mul_le_mul_of_nonneg_left hz.1 (show 0 ≤ R by omega)
    rw [Int.mul_neg] at p2
    exact ⟨p2, p1⟩
  have b1 := bnd hs
  have b2 := bnd hc
  obtain ⟨e, e0, e1, e2⟩ := near_off (R * s)
  obtain ⟨f, f0, f1, f2⟩ := near_off (R * c)
  have x1 : -30000 ≤ nearM (R * s) ∧ nearM (R * s) ≤ 30000 := by omega
  have y1 : -30000 ≤ nearM (R * c) ∧ nearM (R * c) ≤ 30000 := by omega
  refine ⟨x1, y1, ?_⟩
  generalize nearM (R * s) = x at *
  generalize nearM (R * c) = y at *
  have ho := sq_off (x := R * s) (y := R * c) (e := e) (f := f) (B := R * 1000000) (E := 500000) b1 b2 ⟨e0, e1⟩ ⟨f0, f1⟩ (by omega) (by omega)
  rw [← e2, ← f2] at ho
  have g1 : 1000000 * x * (1000000 * x) = 1000000000000 * (x * x) := by grind
  have g2 : 1000000 * y * (1000000 * y) = 1000000000000 * (y * y) := by grind
  have g3 : R * s * (R * s) + R * c * (R * c) = R * R * (s * s + c * c) := by grind
  rw [g1, g2, g3] at ho
  have hRR : 0 ≤ R * R := Int.mul_nonneg (by omega) (by omega)
  have q1 := Int.mul_le_mul_of_nonneg_left hl hRR
  have q2 := Int.mul_le_mul_of_nonneg_left hu hRR
  have q3 : R * R ≤ R * 30000 := Int.mul_le_mul_of_nonneg_left h1 (by omega)
  generalize s * s + c * c = N at *
  have w1 : (R - 4) * (R - 4) = R * R - 8 * R + 16 := by grind
  have w2 : (R + 4 + 1) * (R + 4 + 1) = R * R + 10 * R + 25 := by grind
  have w3 : R * 1000000 * 500000 = 500000000000 * R := by grind
  rw [w3] at ho
  generalize R * R * N = M at *
  generalize R * R = Q at *
  generalize x * x = X at *
  generalize y * y = Y at *
  constructor
  · exact rootZ_ge (by omega) (by omega)
  · exact rootZ_le (by omega) (by omega)
end Go.Proofs.YtfcfgkkkepifhaaGreatDoor
