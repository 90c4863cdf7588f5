/- Roots, arcs, directions and what a seat of a dome sees, as plain numbers, with their bounds. Conditions: none. -/
import Derived.Test.YtfcfgkkkepifhaaGreatDoorSineB
namespace Go.Proofs.YtfcfgkkkepifhaaGreatDoor
set_option linter.unusedVariables false

/- ### whole roots -/
def rootN : Nat → Nat
  | 0 => 0
  | n + 1 => if (rootN n + 1) * (rootN n + 1) ≤ n + 1 then rootN n + 1 else rootN n
theorem rootN_spec : ∀ n, rootN n * rootN n ≤ n ∧ n < (rootN n + 1) * (rootN n + 1)
  | 0 => by simp [rootN]
  | n + 1 => by
    have ⟨h1, h2⟩ := rootN_spec n
    unfold rootN
    split
    · rename_i h
      refine ⟨h, ?_⟩
      have : (rootN n + 1 + 1) * (rootN n + 1 + 1) = (rootN n + 1) * (rootN n + 1) + 2 * rootN n + 3 := by
        simp only [Nat.add_mul, Nat.mul_add]; omega
      omega
    · omega
theorem sq_lt {a b : Nat} (h : a * a < b * b) : a < b := by
  rcases Nat.lt_or_ge a b with h1 | h1
  · exact h1
  · have := Nat.mul_le_mul h1 h1; omega
def rootZ (n : Int) : Int := rootN n.toNat
theorem rootZ_eq {n r : Int} (h0 : 0 ≤ r) (h1 : r * r ≤ n) (h2 : n < (r + 1) * (r + 1)) : rootZ n = r := by
  obtain ⟨q, rfl⟩ := Int.eq_ofNat_of_zero_le h0
  have hn : 0 ≤ n := Int.le_trans (Int.mul_nonneg h0 h0) h1
  obtain ⟨m, rfl⟩ := Int.eq_ofNat_of_zero_le hn
  have ⟨k1, k2⟩ := rootN_spec m
  have e1 : q * q ≤ m := by exact_mod_cast h1
  have e2 : m < (q + 1) * (q + 1) := by exact_mod_cast h2
  have l1 := sq_lt (Nat.lt_of_le_of_lt e1 k2)
  have l2 := sq_lt (Nat.lt_of_le_of_lt k1 e2)
  show (rootN ((m : Int)).toNat : Int) = q
  rw [Int.toNat_natCast]
  omega
theorem rootZ_neg {n : Int} (h : n ≤ 0) : rootZ n = 0 := by
  unfold rootZ
  rw [show n.toNat = 0 by omega]; rfl
theorem rootZ_nn (n : Int) : 0 ≤ rootZ n := by unfold rootZ; omega
theorem rootZ_le {n b : Int} (hb : 0 ≤ b) (h : n < (b + 1) * (b + 1)) : rootZ n ≤ b := by
  obtain ⟨q, rfl⟩ := Int.eq_ofNat_of_zero_le hb
  have ⟨k1, k2⟩ := rootN_spec n.toNat
  have e2 : n.toNat < (q + 1) * (q + 1) := by
    have h3 : (n.toNat : Int) < (((q + 1) * (q + 1) : Nat) : Int) := by
      push_cast
      rcases Int.le_total 0 n with h4 | h4
      · rw [Int.toNat_of_nonneg h4]; exact h
      · rw [Int.toNat_of_nonpos h4]
        have : (0 : Int) < ((q : Int) + 1) * ((q : Int) + 1) := Int.mul_pos (by omega) (by omega)
        exact this
    exact_mod_cast h3
  have := sq_lt (Nat.lt_of_le_of_lt k1 e2)
  unfold rootZ; omega
theorem sq_bd {a b : Int} (h : -b ≤ a ∧ a ≤ b) : 0 ≤ a * a ∧ a * a ≤ b * b := by
  have hb : 0 ≤ b := by omega
  rcases Int.le_total 0 a with h0 | h0
  · exact ⟨Int.mul_nonneg h0 h0, Int.mul_le_mul h.2 h.2 h0 hb⟩
  · have e : a * a = -a * -a := by rw [Int.neg_mul_neg]
    rw [e]
    exact ⟨Int.mul_nonneg (by omega) (by omega), Int.mul_le_mul (by omega) (by omega) (by omega) hb⟩
theorem mul_bd2 {a b A B : Int} (h : -A ≤ a ∧ a ≤ A) (k : -B ≤ b ∧ b ≤ B) : -(A * B) ≤ a * b ∧ a * b ≤ A * B := by
  have hA : 0 ≤ A := by omega
  rcases Int.le_total 0 b with h0 | h0
  · exact mul_bd h.1 h.2 h0 k.2 hA
  · have := mul_bd (d := a) (r := -b) (Rr := B) h.1 h.2 (by omega) (by omega) hA
    rw [Int.mul_neg] at this
    omega

/- ### a search by halves for the least number at which q holds -/
def arcB (q : Int → Bool) : Nat → Int → Int → Int
  | 0, l, _ => l
  | f + 1, l, h => if l < h then (if q ((l + h) / 2) then arcB q f l ((l + h) / 2) else arcB q f ((l + h) / 2 + 1) h) else l
theorem arcB_done (q : Int → Bool) (f : Nat) (l h : Int) (hl : ¬ l < h) : arcB q f l h = l := by cases f <;> simp [arcB, hl]
theorem arcB_yes {q : Int → Bool} {f : Nat} {l h : Int} (hl : l < h) (hq : q ((l + h) / 2) = true) : arcB q (f + 1) l h = arcB q f l ((l + h) / 2) := by simp [arcB, hl, hq]
theorem arcB_no {q : Int → Bool} {f : Nat} {l h : Int} (hl : l < h) (hq : q ((l + h) / 2) = false) : arcB q (f + 1) l h = arcB q f ((l + h) / 2 + 1) h := by simp [arcB, hl, hq]
theorem arcB_bd (q : Int → Bool) : ∀ (f : Nat) (l h : Int), l ≤ h → l ≤ arcB q f l h ∧ arcB q f l h ≤ h
  | 0, l, h, hl => by simp [arcB]; omega
  | f + 1, l, h, hl => by
    unfold arcB
    split
    · split
      · have := arcB_bd q f l ((l + h) / 2) (by omega); omega
      · have := arcB_bd q f ((l + h) / 2 + 1) h (by omega); omega
    · omega
theorem arcB_all {q : Int → Bool} (hq : ∀ z, q z = true) : ∀ (f : Nat) (l h : Int), arcB q f l h = l
  | 0, l, h => rfl
  | f + 1, l, h => by
    unfold arcB
    rw [hq]
    split
    · simp [arcB_all hq f]
    · rfl
/-- what a search is told where it stands between l and h -/
def ArcAt (q : Int → Bool) (l h : Int) : Prop := 0 ≤ l ∧ l ≤ h ∧ h ≤ 45000 ∧ ∃ f : Nat, h - l ≤ f ∧ arcB q f l h = arcB q 45000 0 45000
theorem ArcAt.start (q : Int → Bool) : ArcAt q 0 45000 := ⟨by omega, by omega, by omega, 45000, by omega, rfl⟩
theorem ArcAt.yes {q : Int → Bool} {l h : Int} (k : ArcAt q l h) (hl : l < h) (hq : q ((l + h) / 2) = true) : ArcAt q l ((l + h) / 2) := by
  obtain ⟨k1, k2, k3, f, k4, k5⟩ := k
  obtain ⟨f, rfl⟩ : ∃ g, f = g + 1 := ⟨f - 1, by omega⟩
  exact ⟨k1, by omega, by omega, f, by omega, by rw [← k5, arcB_yes hl hq]⟩
theorem ArcAt.no {q : Int → Bool} {l h : Int} (k : ArcAt q l h) (hl : l < h) (hq : q ((l + h) / 2) = false) : ArcAt q ((l + h) / 2 + 1) h := by
  obtain ⟨k1, k2, k3, f, k4, k5⟩ := k
  obtain ⟨f, rfl⟩ : ∃ g, f = g + 1 := ⟨f - 1, by omega⟩
  exact ⟨by omega, by omega, k3, f, by omega, by rw [← k5, arcB_no hl hq]⟩
theorem ArcAt.done {q : Int → Bool} {l h : Int} (k : ArcAt q l h) (hl : ¬ l < h) : arcB q 45000 0 45000 = l := by
  obtain ⟨k1, k2, k3, f, k4, k5⟩ := k
  rw [← k5, arcB_done q f l h hl]

/- ### sines that are small -/
theorem tt_step : ∀ k, k < 90 → -20000 ≤ TT (k + 1) - TT k ∧ TT (k + 1) - TT k ≤ 20000 := by
  have h : ∀ k, k < 90 → -20000 ≤ sineT.getD (k + 1) 0 - sineT.getD k 0 ∧ sineT.getD (k + 1) 0 - sineT.getD k 0 ≤ 20000 := by decide
  exact h
theorem divR_small {a : Int} (h : -20000000 ≤ a ∧ a ≤ 20000000) : -20001 ≤ divR a 1000 ∧ divR a 1000 ≤ 20001 := by
  unfold divR
  split <;> omega
theorem sin0_small {a : Int} (h0 : 0 ≤ a) (h1 : a ≤ 90000) : -30000 ≤ sin0 a ∧ sin0 a ≤ 1030000 := by
  obtain ⟨k, hk⟩ := Int.eq_ofNat_of_zero_le (show 0 ≤ a / 1000 by omega)
  have b0 := TT_bd k
  by_cases hr : a % 1000 = 0
  · rw [sin0_0 hk hr]; omega
  · rw [sin0_r hk hr]
    have b1 := tt_step k (by omega)
    have b2 := mul_bd (d := TT (k + 1) - TT k) (D := 20000) (r := a % 1000) (Rr := 1000) (by omega) (by omega) (by omega) (by omega) (by omega)
    have b3 := divR_small (a := slope k (a % 1000)) (by unfold slope; omega)
    omega
theorem sinA_small {n : Int} (h0 : 0 ≤ n) (h1 : n < 360000) : -1030000 ≤ sinA n ∧ sinA n ≤ 1030000 := by
  unfold sinA sin1
  split
  · split
    · have := sin0_small (a := 180000 - (n - 180000)) (by omega) (by omega); omega
    · have := sin0_small (a := n - 180000) (by omega) (by omega); omega
  · split
    · have := sin0_small (a := 180000 - n) (by omega) (by omega); omega
    · have := sin0_small (a := n) (by omega) (by omega); omega
theorem cosA_small {n : Int} (h0 : 0 ≤ n) : -1030000 ≤ cosA n ∧ cosA n ≤ 1030000 := sinA_small (by omega) (by omega)
def sinM (a : Int) : Int := sinA (a % 360000)
def cosM (a : Int) : Int := cosA (a % 360000)
theorem sinM_bd (a : Int) : -1030000 ≤ sinM a ∧ sinM a ≤ 1030000 := sinA_small (by omega) (by omega)
theorem cosM_bd (a : Int) : -1030000 ≤ cosM a ∧ cosM a ≤ 1030000 := cosA_small (by omega)
/-- the nearest quotient by a million -/
def nearM (a : Int) : Int := divR a 1000000
theorem nearM_bd {a b : Int} (h : -(b * 1000000) ≤ a ∧ a ≤ b * 1000000) : -b ≤ nearM a ∧ nearM a ≤ b := by
  unfold nearM divR
  split <;> omega

/- ### vectors -/
structure V3 where
  x : Int
  y : Int
  z : Int
def V3.val (v : V3) : Go.Value := .agg #[.int .i64 v.x, .int .i64 v.y, .int .i64 v.z]
def V3.in_ (v : V3) (b : Int) : Prop := (-b ≤ v.x ∧ v.x ≤ b) ∧ (-b ≤ v.y ∧ v.y ≤ b) ∧ (-b ≤ v.z ∧ v.z ≤ b)
def V3.isZ (v : V3) : Bool := decide (v.x = 0) && decide (v.y = 0) && decide (v.z = 0)
def arcQ (u v : Int) (m : Int) : Bool := decide (cosM m * u ≤ sinM m * v)
def arcLow (y x : Int) : Int := arcB (arcQ (min (absI x) (absI y)) (max (absI x) (absI y))) 45000 0 45000
def arcMid (y x : Int) : Int := if absI x < absI y then 90000 - arcLow y x else arcLow y x
def arcZ (y x : Int) : Int := if 0 ≤ x ∧ 0 ≤ y then arcMid y x else if 0 ≤ y then 180000 - arcMid y x else if x < 0 then 180000 + arcMid y x else (-arcMid y x) % 360000
theorem arcLow_bd (y x : Int) : 0 ≤ arcLow y x ∧ arcLow y x ≤ 45000 := arcB_bd _ _ _ _ (by omega)
theorem arcMid_bd (y x : Int) : 0 ≤ arcMid y x ∧ arcMid y x ≤ 90000 := by
  have := arcLow_bd y x
  unfold arcMid; split <;> omega
theorem arcZ_bd (y x : Int) : 0 ≤ arcZ y x ∧ arcZ y x < 360000 := by
  have := arcMid_bd y x
  unfold arcZ; split
  · omega
  · split
    · omega
    · split <;> omega
theorem arcZ_zero : arcZ 0 0 = 0 := by
  have h : arcLow 0 0 = 0 := arcB_all (fun z => by simp [arcQ, absI]) _ _ _
  simp [arcZ, arcMid, h]
theorem arcZ_half {y x : Int} (hx : 0 ≤ x) : arcZ y x ≤ 90000 ∨ 270000 ≤ arcZ y x := by
  have := arcMid_bd y x
  unfold arcZ; split
  · omega
  · split
    · omega
    · split <;> omega
def dirZ (lon lat : Int) : V3 := ⟨nearM (cosM lat * cosM lon), nearM (cosM lat * sinM lon), sinM lat⟩
theorem dirZ_bd (lon lat : Int) : (dirZ lon lat).in_ 1070000 := by
  have h1 := cosM_bd lat
  have h2 := cosM_bd lon
  have h3 := sinM_bd lon
  have h4 := sinM_bd lat
  have m1 := mul_bd2 h1 h2
  have m2 := mul_bd2 h1 h3
  exact ⟨nearM_bd (by omega), nearM_bd (by omega), by simp only [dirZ]; omega⟩
def crossZ (a b : V3) : V3 := ⟨nearM (a.y * b.z - a.z * b.y), nearM (a.z * b.x - a.x * b.z), nearM (a.x * b.y - a.y * b.x)⟩
def dotZ (a b : V3) : Int := nearM (a.x * b.x + a.y * b.y + a.z * b.z)
def lenZ (v : V3) : Int := rootZ (v.x * v.x + v.y * v.y + v.z * v.z)
theorem crossZ_bd {a b : V3} (ha : a.in_ 1070000) (hb : b.in_ 1070000) : (crossZ a b).in_ 2300000 := by
  obtain ⟨a1, a2, a3⟩ := ha
  obtain ⟨b1, b2, b3⟩ := hb
  have m1 := mul_bd2 a2 b3
  have m2 := mul_bd2 a3 b2
  have m3 := mul_bd2 a3 b1
  have m4 := mul_bd2 a1 b3
  have m5 := mul_bd2 a1 b2
  have m6 := mul_bd2 a2 b1
  exact ⟨nearM_bd (by omega), nearM_bd (by omega), nearM_bd (by omega)⟩
theorem dotZ_bd {a b : V3} (ha : a.in_ 1070000) (hb : b.in_ 1070000) : -3500000 ≤ dotZ a b ∧ dotZ a b ≤ 3500000 := by
  obtain ⟨a1, a2, a3⟩ := ha
  obtain ⟨b1, b2, b3⟩ := hb
  have m1 := mul_bd2 a1 b1
  have m2 := mul_bd2 a2 b2
  have m3 := mul_bd2 a3 b3
  exact nearM_bd (by omega)
theorem lenZ_bd {v : V3} (h : v.in_ 2300000) : 0 ≤ lenZ v ∧ lenZ v ≤ 4000000 := by
  obtain ⟨a1, a2, a3⟩ := h
  have m1 := sq_bd a1
  have m2 := sq_bd a2
  have m3 := sq_bd a3
  exact ⟨rootZ_nn _, rootZ_le (by omega) (by omega)⟩
def sepZ (a b : V3) : Int := if a.isZ = true ∨ b.isZ = true ∨ (lenZ (crossZ a b) = 0 ∧ dotZ a b = 0) then 0 else arcZ (lenZ (crossZ a b)) (dotZ a b)
theorem sepZ_bd (a b : V3) : 0 ≤ sepZ a b ∧ sepZ a b < 360000 := by
  unfold sepZ; split
  · omega
  · exact arcZ_bd _ _
def lonZ (v : V3) : Int := if v.x = 0 ∧ v.y = 0 then 0 else arcZ v.y v.x
def latR (v : V3) : Int := arcZ v.z (rootZ (v.x * v.x + v.y * v.y))
def latZ (v : V3) : Int := if 90000 < latR v then latR v - 360000 else latR v
theorem lonZ_bd (v : V3) : 0 ≤ lonZ v ∧ lonZ v < 360000 := by
  unfold lonZ; split
  · omega
  · exact arcZ_bd _ _
theorem latZ_bd (v : V3) : -90000 ≤ latZ v ∧ latZ v ≤ 90000 := by
  have h := arcZ_bd v.z (rootZ (v.x * v.x + v.y * v.y))
  have h2 := arcZ_half (y := v.z) (rootZ_nn (v.x * v.x + v.y * v.y))
  unfold latZ latR; split <;> omega
def pointZ (R az al : Int) : V3 := ⟨nearM (R * (dirZ ((90000 - az) % 360000) al).x), nearM (R * (dirZ ((90000 - az) % 360000) al).y), nearM (R * (dirZ ((90000 - az) % 360000) al).z)⟩
theorem pointZ_bd {R az al : Int} (h : 0 ≤ R ∧ R ≤ 30000) : (pointZ R az al).in_ 32100 := by
  obtain ⟨a1, a2, a3⟩ := dirZ_bd ((90000 - az) % 360000) al
  have hR : -30000 ≤ R ∧ R ≤ 30000 := by omega
  have m1 := mul_bd2 hR a1
  have m2 := mul_bd2 hR a2
  have m3 := mul_bd2 hR a3
  exact ⟨nearM_bd (by omega), nearM_bd (by omega), nearM_bd (by omega)⟩
def viewZ (R : Int) (s : V3) (az al : Int) : V3 := ⟨(pointZ R az al).x - s.x, (pointZ R az al).y - s.y, (pointZ R az al).z - s.z⟩
theorem viewZ_bd {R az al : Int} {s : V3} (h : 0 ≤ R ∧ R ≤ 30000) (hs : s.in_ 30000) : (viewZ R s az al).in_ 62100 := by
  obtain ⟨a1, a2, a3⟩ := pointZ_bd (az := az) (al := al) h
  obtain ⟨s1, s2, s3⟩ := hs
  exact ⟨by simp only [viewZ]; omega, by simp only [viewZ]; omega, by simp only [viewZ]; omega⟩
/-- how far off a seat sees the point of a direction -/
def offZ (R : Int) (s : V3) (az al : Int) : Int := sepZ (dirZ az al) (dirZ ((90000 - lonZ (viewZ R s az al)) % 360000) (latZ (viewZ R s az al)))
theorem offZ_bd (R : Int) (s : V3) (az al : Int) : 0 ≤ offZ R s az al ∧ offZ R s az al < 360000 := sepZ_bd _ _
/-- the worst of j altitudes of one azimuth, from a number on -/
def worstH (R : Int) (s : V3) (az : Int) (m : Int) : Nat → Int
  | 0 => m
  | j + 1 => max (worstH R s az m j) (offZ R s az (j * 45000))
def worstA (R : Int) (s : V3) : Nat → Int
  | 0 => 0
  | i + 1 => worstH R s (i * 45000) (worstA R s i) 3
def worstZ (R : Int) (s : V3) : Int := worstA R s 8
theorem worstH_bd {R : Int} {s : V3} {az m : Int} (h : 0 ≤ m ∧ m < 360000) : ∀ j, 0 ≤ worstH R s az m j ∧ worstH R s az m j < 360000
  | 0 => h
  | j + 1 => by
    have h1 := worstH_bd (R := R) (s := s) (az := az) h j
    have h2 := offZ_bd R s az (j * 45000)
    unfold worstH; omega
theorem worstA_bd (R : Int) (s : V3) : ∀ i, 0 ≤ worstA R s i ∧ worstA R s i < 360000
  | 0 => by simp [worstA]
  | i + 1 => worstH_bd (worstA_bd R s i) 3
def inSeat (R : Int) (s : V3) : Bool := decide (-(R - 1) ≤ s.x) && decide (s.x ≤ R - 1) && (decide (-(R - 1) ≤ s.y) && decide (s.y ≤ R - 1)) && (decide (-(R - 1) ≤ s.z) && decide (s.z ≤ R - 1)) && decide (s.x * s.x + s.y * s.y + s.z * s.z < (R - 1) * (R - 1))
theorem inSeat_bd {R : Int} {s : V3} (h : inSeat R s = true) (hR : R ≤ 30000) : s.in_ 30000 := by
  simp only [inSeat, Bool.and_eq_true, decide_eq_true_eq] at h
  exact ⟨by omega, by omega, by omega⟩
def scoreZ (R : Int) (s : V3) : Int := if inSeat R s then max 0 (1000 - worstZ R s / 90) else 0
theorem scoreZ_bd (R : Int) (s : V3) : 0 ≤ scoreZ R s ∧ scoreZ R s ≤ 1000 := by
  have := worstA_bd R s 8
  unfold scoreZ worstZ
  split <;> omega
end Go.Proofs.YtfcfgkkkepifhaaGreatDoor
