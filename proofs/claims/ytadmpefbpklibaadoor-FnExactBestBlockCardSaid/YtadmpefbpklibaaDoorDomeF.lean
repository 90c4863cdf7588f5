/- Separations of vectors: what the reference and the program compute. Conditions: vectors of at most 1070000; the table of sines as the program's text lays it. -/
import Derived.Test.YtadmpefbpklibaaDoorDomeE
namespace Go.Proofs.YtadmpefbpklibaaDoor
set_option linter.unusedVariables false
open Go.RowKit
def sepC (a b : V3) : Int := if a.isZ = true ∨ b.isZ = true then 6 else arcC (lenZ (crossZ a b)) (dotZ a b)
def AwayPost (sz : Int) (w : World) (e : Ending) (w' : World) : Prop := ∃ ok : Bool, e = .returned (.tuple #[.int .i64 sz, .bool ok]) ∧ IsX w w'
theorem isZ_all {a0 a1 a2 : Int} : (⟨a0, a1, a2⟩ : V3).isZ = true ↔ a0 = 0 ∧ a1 = 0 ∧ a2 = 0 := by simp [V3.isZ, and_assoc]

set_option maxHeartbeats 6400000 in
set_option maxRecDepth 100000 in
theorem c_Separation (a b : V3) (w : World) (ha : a.in_ 1070000) (hb : b.in_ 1070000) (HTAB : ∀ W, IsX w W → sinTab W) : Calls Tryd.prog 70 #[a.val, b.val] w fun e w' => e = .returned (.tuple #[.int .i64 (sepZ a b), .int .i64 (sepC a b)]) ∧ IsX w w' := by
  have HVA := hide (fun V => c_ValidVector a V ha)
  have HVB := hide (fun V => c_ValidVector b V hb)
  obtain ⟨a0, a1, a2⟩ := a
  obtain ⟨b0, b1, b2⟩ := b
  have hcb := crossZ_bd ha hb
  have hdb := dotZ_bd ha hb
  have hlb := lenZ_bd hcb
  have HCR := hide (fun V => c_crossOf ⟨a0, a1, a2⟩ ⟨b0, b1, b2⟩ V ha hb)
  have HLE := hide (fun V => c_lengthOf (crossZ ⟨a0, a1, a2⟩ ⟨b0, b1, b2⟩) V hcb)
  have HDO := hide (fun V => c_dotOf ⟨a0, a1, a2⟩ ⟨b0, b1, b2⟩ V ha hb)
  have HAR := hide (fun V (hV : IsX w V) => c_ArcTangent (lenZ (crossZ ⟨a0, a1, a2⟩ ⟨b0, b1, b2⟩)) (dotZ ⟨a0, a1, a2⟩ ⟨b0, b1, b2⟩) V (by unfold smallI; omega) (by unfold smallI; omega) (fun U hU => HTAB U (hV.trans hU)))
  obtain ⟨t, ht⟩ : ∃ t : Bool, t = ((⟨a0, a1, a2⟩ : V3).isZ || (⟨b0, b1, b2⟩ : V3).isZ) := ⟨_, rfl⟩
  have HT := hide ht
  have HS1 := hide (show t = true → sepZ ⟨a0, a1, a2⟩ ⟨b0, b1, b2⟩ = 0 ∧ sepC ⟨a0, a1, a2⟩ ⟨b0, b1, b2⟩ = 6 from fun h => by
    rw [ht, Bool.or_eq_true] at h
    constructor
    · unfold sepZ; rw [if_pos (by rcases h with h | h; exact .inl h; exact .inr (.inl h))]
    · unfold sepC; rw [if_pos h])
  have HS0 := hide (show t = false → sepZ ⟨a0, a1, a2⟩ ⟨b0, b1, b2⟩ = arcZ (lenZ (crossZ ⟨a0, a1, a2⟩ ⟨b0, b1, b2⟩)) (dotZ ⟨a0, a1, a2⟩ ⟨b0, b1, b2⟩) ∧ sepC ⟨a0, a1, a2⟩ ⟨b0, b1, b2⟩ = arcC (lenZ (crossZ ⟨a0, a1, a2⟩ ⟨b0, b1, b2⟩)) (dotZ ⟨a0, a1, a2⟩ ⟨b0, b1, b2⟩) from fun h => by
    rw [ht, Bool.or_eq_false_iff] at h
    constructor
    · unfold sepZ
      split
      · rename_i hc
        rcases hc with hc | hc | hc
        · rw [h.1] at hc; cases hc
        · rw [h.2] at hc; cases hc
        · rw [hc.1, hc.2, arcZ_zero]
      · rfl
    · unfold sepC; rw [if_neg (by rw [h.1, h.2]; simp)])
  generalize sepZ ⟨a0, a1, a2⟩ ⟨b0, b1, b2⟩ = sz at *
  generalize sepC ⟨a0, a1, a2⟩ ⟨b0, b1, b2⟩ = sc at *
  generalize crossZ ⟨a0, a1, a2⟩ ⟨b0, b1, b2⟩ = cz at *
  generalize dotZ ⟨a0, a1, a2⟩ ⟨b0, b1, b2⟩ = dz at *
  generalize lenZ cz = lz at *
  obtain ⟨c0, c1, c2⟩ := cz
  simp only [V3.val] at HVA HVB HCR HLE HDO ⊢
  clear ht hcb hdb hlb ha hb HTAB
  obtain ⟨W0, hW0⟩ : ∃ W, W = ((w.alloc (.cells #[.int .i64 a0, .int .i64 a1, .int .i64 a2] 48)).alloc (.cells #[.int .i64 b0, .int .i64 b1, .int .i64 b2] 48)) := ⟨_, rfl⟩
  obtain ⟨BA, hBA⟩ : ∃ B, B = w.heap.size := ⟨_, rfl⟩
  have HBA := hide (show Blk W0 BA 48 #[.int .i64 a0, .int .i64 a1, .int .i64 a2] from by rw [hW0, hBA]; have h := ((Blk.new w 48 #[.int .i64 a0, .int .i64 a1, .int .i64 a2]).alloc (.cells #[.int .i64 b0, .int .i64 b1, .int .i64 b2] 48)); simpa using h)
  obtain ⟨BB, hBB⟩ : ∃ B, B = BA + 1 := ⟨_, rfl⟩
  have HBB := hide (show Blk W0 BB 48 #[.int .i64 b0, .int .i64 b1, .int .i64 b2] from by rw [hW0, hBB, hBA]; have h := (Blk.new (w.alloc (.cells #[.int .i64 a0, .int .i64 a1, .int .i64 a2] 48)) 48 #[.int .i64 b0, .int .i64 b1, .int .i64 b2]); simpa using h)
  have HX0 := hide (show IsX w W0 from by rw [hW0]; exact ((IsX.refl w).alloc _).alloc _)
  go_enter Tryd.func70, Tryd.ntmps70
  go_wp2_with fail
  (try simp only [World.size_alloc, Nat.add_assoc, Nat.reduceAdd])
  rw [← hW0]
  simp only [← hBA, ← hBB]
  clear hW0 hBA hBB
  refine (HVA.out _).mono ?_
  rintro e w1 ⟨rfl, hx⟩
  have HX1 := hide (HX0.out.trans hx)
  replace HBA := hide (HBA.out.x hx)
  replace HBB := hide (HBB.out.x hx)
  clear hx
  have q0 := HBB.out.cell 0
  have q1 := HBB.out.cell 1
  have q2 := HBB.out.cell 2
  simp at q0 q1 q2
  have ql := HBB.out.lt
  go_wp2_with fail
  clear q0 q1 q2 ql
  refine (HVB.out _).mono ?_
  rintro e w2 ⟨rfl, hx⟩
  have HX2 := hide (HX1.out.trans hx)
  replace HBA := hide (HBA.out.x hx)
  replace HBB := hide (HBB.out.x hx)
  clear hx
  have q0 := HBA.out.cell 0
  have q1 := HBA.out.cell 1
  have q2 := HBA.out.cell 2
  simp at q0 q1 q2
  have ql := HBA.out.lt
  have r0 := HBB.out.cell 0
  have r1 := HBB.out.cell 1
  have r2 := HBB.out.cell 2
  simp at r0 r1 r2
  have rl := HBB.out.lt
  go_upto_region 3 with fail
  go_cut [21] from 14 to 21 (fun s wc => s = .bool t ∧ wc = w2)
  case first =>
    by_cases ha0 : a0 = 0
    · subst ha0
      by_cases ha1 : a1 = 0
      · subst ha1
        by_cases ha2 : a2 = 0
        · subst ha2
          go_wp2_with fail
          all_goals
            go_meet
            exact ⟨congrArg Value.bool (by rw [HT.out]; simp [V3.isZ]), rfl⟩
        · by_cases hb0 : b0 = 0
          · subst hb0
            by_cases hb1 : b1 = 0
            · subst hb1
              by_cases hb2 : b2 = 0
              · subst hb2
                go_wp2_with fail
                all_goals
                  go_meet
                  exact ⟨congrArg Value.bool (by rw [HT.out]; simp [V3.isZ, ha2]), rfl⟩
              · go_wp2_with fail
                all_goals
                  go_meet
                  exact ⟨congrArg Value.bool (by rw [HT.out]; simp [V3.isZ, ha2, hb2]), rfl⟩
            · go_wp2_with fail
              all_goals
                go_meet
                exact ⟨congrArg Value.bool (by rw [HT.out]; simp [V3.isZ, ha2, hb1]), rfl⟩
          · go_wp2_with fail
            all_goals
              go_meet
              exact ⟨congrArg Value.bool (by rw [HT.out]; simp [V3.isZ, ha2, hb0]), rfl⟩
      · by_cases hb0 : b0 = 0
        · subst hb0
          by_cases hb1 : b1 = 0
          · subst hb1
            by_cases hb2 : b2 = 0
            · subst hb2
              go_wp2_with fail
              all_goals
                go_meet
                exact ⟨congrArg Value.bool (by rw [HT.out]; simp [V3.isZ, ha1]), rfl⟩
            · go_wp2_with fail
              all_goals
                go_meet
                exact ⟨congrArg Value.bool (by rw [HT.out]; simp [V3.isZ, ha1, hb2]), rfl⟩
          · go_wp2_with fail
            all_goals
              go_meet
              exact ⟨congrArg Value.bool (by rw [HT.out]; simp [V3.isZ, ha1, hb1]), rfl⟩
        · go_wp2_with fail
          all_goals
            go_meet
            exact ⟨congrArg Value.bool (by rw [HT.out]; simp [V3.isZ, ha1, hb0]), rfl⟩
    · by_cases hb0 : b0 = 0
      · subst hb0
        by_cases hb1 : b1 = 0
        · subst hb1
          by_cases hb2 : b2 = 0
          · subst hb2
            go_wp2_with fail
            all_goals
              go_meet
              exact ⟨congrArg Value.bool (by rw [HT.out]; simp [V3.isZ, ha0]), rfl⟩
          · go_wp2_with fail
            all_goals
              go_meet
              exact ⟨congrArg Value.bool (by rw [HT.out]; simp [V3.isZ, ha0, hb2]), rfl⟩
        · go_wp2_with fail
          all_goals
            go_meet
            exact ⟨congrArg Value.bool (by rw [HT.out]; simp [V3.isZ, ha0, hb1]), rfl⟩
      · go_wp2_with fail
        all_goals
          go_meet
          exact ⟨congrArg Value.bool (by rw [HT.out]; simp [V3.isZ, ha0, hb0]), rfl⟩
  obtain ⟨rfl, rfl⟩ := hcut
  cases t
  rotate_left
  · obtain ⟨s1, s2⟩ := HS1.out rfl
    subst s1 s2
    go_wp2_with fail
    go_ret2
    exact ⟨rfl, HX2.out⟩
  · obtain ⟨s1, s2⟩ := HS0.out rfl
    subst s1 s2
    go_wp2_with fail
    refine wp_region_x (by kernel_rfl) (by kernel_rfl) ?_
    repeat (go_big_quiet_step (fail))
    go_big_quiet_step ((go_at_call 89; exact call_x (HCR.out _)))
    go_big_quiet_step ((go_at_call 88; exact call_x (HLE.out _)))
    repeat (go_big_quiet_step (fail))
    go_big_quiet_step ((go_at_call 90; exact call_x (HDO.out _)))
    repeat (go_big_quiet_step (fail))
    go_big_quiet_step ((go_at_call 84; exact call_x (HAR.out _ (HX2.out.trans ⟨_, rfl⟩))))
    repeat (go_big_quiet_step (fail))
    refine wpQuiet_nil ?_
    rintro _ ⟨q, rfl⟩
    go_wp2_with fail
    go_ret2
    exact ⟨rfl, HX2.out.trans ⟨q, rfl⟩⟩

set_option maxHeartbeats 6400000 in
set_option maxRecDepth 100000 in
theorem c_l04Away (a b : V3) (w : World) (ha : a.in_ 1070000) (hb : b.in_ 1070000) : Calls Tryd.prog 79 #[a.val, b.val] w (AwayPost (sepZ a b) w) := by
  obtain ⟨a0, a1, a2⟩ := a
  obtain ⟨b0, b1, b2⟩ := b
  have hcb := crossZ_bd ha hb
  have hdb := dotZ_bd ha hb
  have hlb := lenZ_bd hcb
  have HCR := hide (fun V => c_l04Cross ⟨a0, a1, a2⟩ ⟨b0, b1, b2⟩ V ha hb)
  have HLE := hide (fun V => c_l04Length (crossZ ⟨a0, a1, a2⟩ ⟨b0, b1, b2⟩) V hcb)
  have HDO := hide (fun V => c_l04Dot ⟨a0, a1, a2⟩ ⟨b0, b1, b2⟩ V ha hb)
  have HAR := hide (fun (V : World) => c_l02Arc (lenZ (crossZ ⟨a0, a1, a2⟩ ⟨b0, b1, b2⟩)) (dotZ ⟨a0, a1, a2⟩ ⟨b0, b1, b2⟩) V (by unfold smallI; omega) (by unfold smallI; omega))
  have HSZ := hide (show sepZ ⟨a0, a1, a2⟩ ⟨b0, b1, b2⟩ = if (⟨a0, a1, a2⟩ : V3).isZ = true ∨ (⟨b0, b1, b2⟩ : V3).isZ = true ∨ (lenZ (crossZ ⟨a0, a1, a2⟩ ⟨b0, b1, b2⟩) = 0 ∧ dotZ ⟨a0, a1, a2⟩ ⟨b0, b1, b2⟩ = 0) then 0 else arcZ (lenZ (crossZ ⟨a0, a1, a2⟩ ⟨b0, b1, b2⟩)) (dotZ ⟨a0, a1, a2⟩ ⟨b0, b1, b2⟩) from rfl)
  generalize sepZ ⟨a0, a1, a2⟩ ⟨b0, b1, b2⟩ = sz at *
  generalize crossZ ⟨a0, a1, a2⟩ ⟨b0, b1, b2⟩ = cz at *
  generalize dotZ ⟨a0, a1, a2⟩ ⟨b0, b1, b2⟩ = dz at *
  generalize lenZ cz = lz at *
  obtain ⟨t, ht⟩ : ∃ t : Bool, t = ((⟨a0, a1, a2⟩ : V3).isZ || (⟨b0, b1, b2⟩ : V3).isZ || (decide (lz = 0) && decide (dz = 0))) := ⟨_, rfl⟩
  have HT := hide ht
  have HS1 := hide (show t = true → sz = 0 from fun h => by
    rw [HSZ.out]
    rw [ht, Bool.or_eq_true, Bool.or_eq_true, Bool.and_eq_true, decide_eq_true_eq, decide_eq_true_eq] at h
    rw [if_pos (by rcases h with (h | h) | h; exact .inl h; exact .inr (.inl h); exact .inr (.inr h))])
  have HS0 := hide (show t = false → sz = arcZ lz dz from fun h => by
    rw [HSZ.out]
    rw [ht, Bool.or_eq_false_iff, Bool.or_eq_false_iff, Bool.and_eq_false_iff, decide_eq_false_iff_not, decide_eq_false_iff_not] at h
    rw [if_neg]
    rintro (hc | hc | hc)
    · rw [h.1.1] at hc; cases hc
    · rw [h.1.2] at hc; cases hc
    · rcases h.2 with h3 | h3
      · exact h3 hc.1
      · exact h3 hc.2)
  obtain ⟨c0, c1, c2⟩ := cz
  simp only [V3.val] at HCR HLE HDO ⊢
  clear ht hcb hdb hlb ha hb HSZ
  obtain ⟨W0, hW0⟩ : ∃ W, W = ((w.alloc (.cells #[.int .i64 a0, .int .i64 a1, .int .i64 a2] 48)).alloc (.cells #[.int .i64 b0, .int .i64 b1, .int .i64 b2] 48)) := ⟨_, rfl⟩
  obtain ⟨BA, hBA⟩ : ∃ B, B = w.heap.size := ⟨_, rfl⟩
  have HBA := hide (show Blk W0 BA 48 #[.int .i64 a0, .int .i64 a1, .int .i64 a2] from by rw [hW0, hBA]; have h := ((Blk.new w 48 #[.int .i64 a0, .int .i64 a1, .int .i64 a2]).alloc (.cells #[.int .i64 b0, .int .i64 b1, .int .i64 b2] 48)); simpa using h)
  obtain ⟨BB, hBB⟩ : ∃ B, B = BA + 1 := ⟨_, rfl⟩
  have HBB := hide (show Blk W0 BB 48 #[.int .i64 b0, .int .i64 b1, .int .i64 b2] from by rw [hW0, hBB, hBA]; have h := (Blk.new (w.alloc (.cells #[.int .i64 a0, .int .i64 a1, .int .i64 a2] 48)) 48 #[.int .i64 b0, .int .i64 b1, .int .i64 b2]); simpa using h)
  have HX0 := hide (show IsX w W0 from by rw [hW0]; exact ((IsX.refl w).alloc _).alloc _)
  go_enter Tryd.func79, Tryd.ntmps79
  go_wp2_with fail
  (try simp only [World.size_alloc, Nat.add_assoc, Nat.reduceAdd])
  rw [← hW0]
  simp only [← hBA, ← hBB]
  clear hW0 hBA hBB
  refine (HCR.out _).mono ?_
  rintro e w1 ⟨rfl, hx⟩
  have HX1 := hide (HX0.out.trans hx)
  replace HBA := hide (HBA.out.x hx)
  replace HBB := hide (HBB.out.x hx)
  clear hx
  go_wp2_with fail
  refine (HLE.out _).mono ?_
  rintro e w2 ⟨rfl, hx⟩
  have HX2 := hide (HX1.out.trans hx)
  replace HBA := hide (HBA.out.x hx)
  replace HBB := hide (HBB.out.x hx)
  clear hx
  have q0 := HBA.out.cell 0
  have q1 := HBA.out.cell 1
  have q2 := HBA.out.cell 2
  simp at q0 q1 q2
  have ql := HBA.out.lt
  have r0 := HBB.out.cell 0
  have r1 := HBB.out.cell 1
  have r2 := HBB.out.cell 2
  simp at r0 r1 r2
  have rl := HBB.out.lt
  go_wp2_with fail
  clear q0 q1 q2 ql
  clear r0 r1 r2 rl
  refine (HDO.out _).mono ?_
  rintro e w3 ⟨rfl, hx⟩
  have HX3 := hide (HX2.out.trans hx)
  replace HBA := hide (HBA.out.x hx)
  replace HBB := hide (HBB.out.x hx)
  clear hx
  have q0 := HBA.out.cell 0
  have q1 := HBA.out.cell 1
  have q2 := HBA.out.cell 2
  simp at q0 q1 q2
  have ql := HBA.out.lt
  have r0 := HBB.out.cell 0
  have r1 := HBB.out.cell 1
  have r2 := HBB.out.cell 2
  simp at r0 r1 r2
  have rl := HBB.out.lt
  go_upto_region 3 with fail
  go_cut [30] from 15 to 30 (fun s wc => s = .bool t ∧ wc = w3)
  case first =>
    by_cases ha0 : a0 = 0
    · subst ha0
      by_cases ha1 : a1 = 0
      · subst ha1
        by_cases ha2 : a2 = 0
        · subst ha2
          go_wp2_with fail
          all_goals
            go_meet
            exact ⟨congrArg Value.bool (by rw [HT.out]; simp [V3.isZ]), rfl⟩
        · by_cases hb0 : b0 = 0
          · subst hb0
            by_cases hb1 : b1 = 0
            · subst hb1
              by_cases hb2 : b2 = 0
              · subst hb2
                go_wp2_with fail
                all_goals
                  go_meet
                  exact ⟨congrArg Value.bool (by rw [HT.out]; simp [V3.isZ, ha2]), rfl⟩
              · by_cases hlz : lz = 0
                · subst hlz
                  by_cases hdz : dz = 0
                  · subst hdz
                    go_wp2_with fail
                    all_goals
                      go_meet
                      exact ⟨congrArg Value.bool (by rw [HT.out]; simp [V3.isZ, ha2, hb2]), rfl⟩
                  · go_wp2_with fail
                    all_goals
                      go_meet
                      exact ⟨congrArg Value.bool (by rw [HT.out]; simp [V3.isZ, ha2, hb2, hdz]), rfl⟩
                · go_wp2_with fail
                  all_goals
                    go_meet
                    exact ⟨congrArg Value.bool (by rw [HT.out]; simp [V3.isZ, ha2, hb2, hlz]), rfl⟩
            · by_cases hlz : lz = 0
              · subst hlz
                by_cases hdz : dz = 0
                · subst hdz
                  go_wp2_with fail
                  all_goals
                    go_meet
                    exact ⟨congrArg Value.bool (by rw [HT.out]; simp [V3.isZ, ha2, hb1]), rfl⟩
                · go_wp2_with fail
                  all_goals
                    go_meet
                    exact ⟨congrArg Value.bool (by rw [HT.out]; simp [V3.isZ, ha2, hb1, hdz]), rfl⟩
              · go_wp2_with fail
                all_goals
                  go_meet
                  exact ⟨congrArg Value.bool (by rw [HT.out]; simp [V3.isZ, ha2, hb1, hlz]), rfl⟩
          · by_cases hlz : lz = 0
            · subst hlz
              by_cases hdz : dz = 0
              · subst hdz
                go_wp2_with fail
                all_goals
                  go_meet
                  exact ⟨congrArg Value.bool (by rw [HT.out]; simp [V3.isZ, ha2, hb0]), rfl⟩
              · go_wp2_with fail
                all_goals
                  go_meet
                  exact ⟨congrArg Value.bool (by rw [HT.out]; simp [V3.isZ, ha2, hb0, hdz]), rfl⟩
            · go_wp2_with fail
              all_goals
                go_meet
                exact ⟨congrArg Value.bool (by rw [HT.out]; simp [V3.isZ, ha2, hb0, hlz]), rfl⟩
      · by_cases hb0 : b0 = 0
        · subst hb0
          by_cases hb1 : b1 = 0
          · subst hb1
            by_cases hb2 : b2 = 0
            · subst hb2
              go_wp2_with fail
              all_goals
                go_meet
                exact ⟨congrArg Value.bool (by rw [HT.out]; simp [V3.isZ, ha1]), rfl⟩
            · by_cases hlz : lz = 0
              · subst hlz
                by_cases hdz : dz = 0
                · subst hdz
                  go_wp2_with fail
                  all_goals
                    go_meet
                    exact ⟨congrArg Value.bool (by rw [HT.out]; simp [V3.isZ, ha1, hb2]), rfl⟩
                · go_wp2_with fail
                  all_goals
                    go_meet
                    exact ⟨congrArg Value.bool (by rw [HT.out]; simp [V3.isZ, ha1, hb2, hdz]), rfl⟩
              · go_wp2_with fail
                all_goals
                  go_meet
                  exact ⟨congrArg Value.bool (by rw [HT.out]; simp [V3.isZ, ha1, hb2, hlz]), rfl⟩
          · by_cases hlz : lz = 0
            · subst hlz
              by_cases hdz : dz = 0
              · subst hdz
                go_wp2_with fail
                all_goals
                  go_meet
                  exact ⟨congrArg Value.bool (by rw [HT.out]; simp [V3.isZ, ha1, hb1]), rfl⟩
              · go_wp2_with fail
                all_goals
                  go_meet
                  exact ⟨congrArg Value.bool (by rw [HT.out]; simp [V3.isZ, ha1, hb1, hdz]), rfl⟩
            · go_wp2_with fail
              all_goals
                go_meet
                exact ⟨congrArg Value.bool (by rw [HT.out]; simp [V3.isZ, ha1, hb1, hlz]), rfl⟩
        · by_cases hlz : lz = 0
          · subst hlz
            by_cases hdz : dz = 0
            · subst hdz
              go_wp2_with fail
              all_goals
                go_meet
                exact ⟨congrArg Value.bool (by rw [HT.out]; simp [V3.isZ, ha1, hb0]), rfl⟩
            · go_wp2_with fail
              all_goals
                go_meet
                exact ⟨congrArg Value.bool (by rw [HT.out]; simp [V3.isZ, ha1, hb0, hdz]), rfl⟩
          · go_wp2_with fail
            all_goals
              go_meet
              exact ⟨congrArg Value.bool (by rw [HT.out]; simp [V3.isZ, ha1, hb0, hlz]), rfl⟩
    · by_cases hb0 : b0 = 0
      · subst hb0
        by_cases hb1 : b1 = 0
        · subst hb1
          by_cases hb2 : b2 = 0
          · subst hb2
            go_wp2_with fail
            all_goals
              go_meet
              exact ⟨congrArg Value.bool (by rw [HT.out]; simp [V3.isZ, ha0]), rfl⟩
          · by_cases hlz : lz = 0
            · subst hlz
              by_cases hdz : dz = 0
              · subst hdz
                go_wp2_with fail
                all_goals
                  go_meet
                  exact ⟨congrArg Value.bool (by rw [HT.out]; simp [V3.isZ, ha0, hb2]), rfl⟩
              · go_wp2_with fail
                all_goals
                  go_meet
                  exact ⟨congrArg Value.bool (by rw [HT.out]; simp [V3.isZ, ha0, hb2, hdz]), rfl⟩
            · go_wp2_with fail
              all_goals
                go_meet
                exact ⟨congrArg Value.bool (by rw [HT.out]; simp [V3.isZ, ha0, hb2, hlz]), rfl⟩
        · by_cases hlz : lz = 0
          · subst hlz
            by_cases hdz : dz = 0
            · subst hdz
              go_wp2_with fail
              all_goals
                go_meet
                exact ⟨congrArg Value.bool (by rw [HT.out]; simp [V3.isZ, ha0, hb1]), rfl⟩
            · go_wp2_with fail
              all_goals
                go_meet
                exact ⟨congrArg Value.bool (by rw [HT.out]; simp [V3.isZ, ha0, hb1, hdz]), rfl⟩
          · go_wp2_with fail
            all_goals
              go_meet
              exact ⟨congrArg Value.bool (by rw [HT.out]; simp [V3.isZ, ha0, hb1, hlz]), rfl⟩
      · by_cases hlz : lz = 0
        · subst hlz
          by_cases hdz : dz = 0
          · subst hdz
            go_wp2_with fail
            all_goals
              go_meet
              exact ⟨congrArg Value.bool (by rw [HT.out]; simp [V3.isZ, ha0, hb0]), rfl⟩
          · go_wp2_with fail
            all_goals
              go_meet
              exact ⟨congrArg Value.bool (by rw [HT.out]; simp [V3.isZ, ha0, hb0, hdz]), rfl⟩
        · go_wp2_with fail
          all_goals
            go_meet
            exact ⟨congrArg Value.bool (by rw [HT.out]; simp [V3.isZ, ha0, hb0, hlz]), rfl⟩
  obtain ⟨rfl, rfl⟩ := hcut
  cases t
  rotate_left
  · have s1 := HS1.out rfl
    subst s1
    go_wp2_with fail
    go_ret2
    exact ⟨false, rfl, HX3.out⟩
  · have s1 := HS0.out rfl
    subst s1
    go_wp2_with fail
    refine (HAR.out _).mono ?_
    rintro e w4 ⟨rfl, hx⟩
    go_wp2_with fail
    go_ret2
    exact ⟨true, rfl, HX3.out.trans hx⟩

set_option maxHeartbeats 6400000 in
set_option maxRecDepth 100000 in
theorem c_l09Apart (a1 h1 a2 h2 : Int) (w : World) (ha1 : angI a1) (hh1 : angI h1) (ha2 : angI a2) (hh2 : angI h2) : Calls Tryd.prog 63 #[.int .i64 a1, .int .i64 h1, .int .i64 a2, .int .i64 h2] w fun e w' => e = .returned (.int .i64 (sepZ (dirZ a1 h1) (dirZ a2 h2))) ∧ IsX w w' := by
  have H1 := hide (fun V => c_l04Direction a1 h1 V ha1 hh1)
  have H2 := hide (fun V => c_l04Direction a2 h2 V ha2 hh2)
  have H3 := hide (fun V => c_l04Away (dirZ a1 h1) (dirZ a2 h2) V (dirZ_bd _ _) (dirZ_bd _ _))
  generalize sepZ (dirZ a1 h1) (dirZ a2 h2) = sz at *
  generalize (dirZ a1 h1).val = v1 at *
  generalize (dirZ a2 h2).val = v2 at *
  clear ha1 hh1 ha2 hh2
  go_enter Tryd.func63, Tryd.ntmps63
  go_wp2_with fail
  refine (H1.out _).mono ?_
  rintro e w1 ⟨rfl, hx1⟩
  have HX1 := hide hx1
  clear hx1
  go_wp2_with fail
  refine (H2.out _).mono ?_
  rintro e w2 ⟨rfl, hx2⟩
  have HX2 := hide (HX1.out.trans hx2)
  clear hx2
  go_wp2_with fail
  refine (H3.out _).mono ?_
  rintro e w3 ⟨ok, rfl, hx3⟩
  have HX3 := hide (HX2.out.trans hx3)
  clear hx3
  go_wp2_with fail
  go_ret
  exact ⟨rfl, HX3.out⟩

end Go.Proofs.YtadmpefbpklibaaDoor
