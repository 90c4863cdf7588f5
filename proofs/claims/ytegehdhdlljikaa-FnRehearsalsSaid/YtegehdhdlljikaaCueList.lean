/- Lists of cues: what the validity tests compute. Conditions: lists no longer than 2^40. -/
import Derived.Test.YtegehdhdlljikaaCueFns
import Derived.Test.YtegehdhdlljikaaLInt64
namespace Go.Proofs.Ytegehdhdlljikaa
set_option linter.unusedVariables false
open Go.RowKit

def cmpI (a b : Int) : Int := if a < b then -1 else if b < a then 1 else 0
def cmpS (a b : ByteArray) : Int := if Op.bytesLess a.toList b.toList = true then -1 else if a.toList == b.toList then 0 else 1
def or2 (a b : Int) : Int := if a == 0 then b else a
def cmpC (x y : CueD) : Int := or2 (cmpI x.Time y.Time) (cmpS x.Id y.Id)
theorem cmpC_ge (x y : CueD) : decide (0 ≤ cmpC x y) = !cueLt x y := by
  unfold cmpC or2 cmpI cmpS cueLt
  by_cases h1 : x.Time < y.Time
  · simp [h1]
  · by_cases h2 : y.Time < x.Time
    · have : ¬ x.Time = y.Time := by omega
      simp [h1, h2, this]
    · have : x.Time = y.Time := by omega
      cases h3 : Op.bytesLess x.Id.toList y.Id.toList <;> cases h4 : (x.Id.toList == y.Id.toList) <;> simp [this, h3, h4]
theorem cmpI_bd (a b : Int) : -1 ≤ cmpI a b ∧ cmpI a b ≤ 1 := by unfold cmpI; split <;> (try split) <;> omega
theorem cmpS_bd (a b : ByteArray) : -1 ≤ cmpS a b ∧ cmpS a b ≤ 1 := by unfold cmpS; split <;> (try split) <;> omega
theorem cmpC_bd (x y : CueD) : -1 ≤ cmpC x y ∧ cmpC x y ≤ 1 := by
  have h1 := cmpI_bd x.Time y.Time
  have h2 := cmpS_bd x.Id y.Id
  unfold cmpC or2; split <;> omega

theorem c_nanI (a : Int) (w : World) : Calls Try.prog 77 #[.int .i64 a] w fun e w' => e = .returned (.bool false) ∧ w = w' := by
  go_enter Try.func77, Try.ntmps77
  go_wp2
  go_ret
  exact ⟨by simp, rfl⟩
theorem c_cmpI (a b : Int) (w : World) : Calls Try.prog 63 #[.int .i64 a, .int .i64 b] w fun e w' => e = .returned (.int .i64 (cmpI a b)) ∧ w' = w := by
  by_cases h1 : a < b
  · have HR := hide (show cmpI a b = -1 by simp [cmpI, h1])
    go_enter Try.func63, Try.ntmps63
    go_wp2_with fail
    refine (c_nanI a w).mono ?_
    rintro e w1 ⟨rfl, rfl⟩
    go_wp2_with fail
    refine (c_nanI b w).mono ?_
    rintro e w1 ⟨rfl, rfl⟩
    go_wp2_with fail
    go_ret
    exact ⟨by rw [HR.out]; rfl, rfl⟩
  by_cases h2 : b < a
  · have HR := hide (show cmpI a b = 1 by simp [cmpI, h1, h2])
    go_enter Try.func63, Try.ntmps63
    go_wp2_with fail
    refine (c_nanI a w).mono ?_
    rintro e w1 ⟨rfl, rfl⟩
    go_wp2_with fail
    refine (c_nanI b w).mono ?_
    rintro e w1 ⟨rfl, rfl⟩
    go_wp2_with fail
    go_ret
    exact ⟨by rw [HR.out]; rfl, rfl⟩
  have HR := hide (show cmpI a b = 0 by simp [cmpI, h1, h2])
  go_enter Try.func63, Try.ntmps63
  go_wp2_with fail
  refine (c_nanI a w).mono ?_
  rintro e w1 ⟨rfl, rfl⟩
  go_wp2_with fail
  refine (c_nanI b w).mono ?_
  rintro e w1 ⟨rfl, rfl⟩
  go_wp2_with fail
  go_ret
  exact ⟨by rw [HR.out]; rfl, rfl⟩

theorem c_nanS (a : ByteArray) (w : World) : Calls Try.prog 72 #[.string a] w fun e w' => e = .returned (.bool false) ∧ w = w' := by
  go_enter Try.func72, Try.ntmps72
  go_wp2
  go_ret
  exact ⟨by simp, rfl⟩
theorem c_cmpS (a b : ByteArray) (w : World) : Calls Try.prog 64 #[.string a, .string b] w fun e w' => e = .returned (.int .i64 (cmpS a b)) ∧ w' = w := by
  cases h1 : Op.bytesLess a.toList b.toList
  rotate_left
  · have HR := hide (show cmpS a b = -1 by simp [cmpS, h1])
    go_enter Try.func64, Try.ntmps64
    go_wp2_with fail
    refine (c_nanS a w).mono ?_
    rintro e w1 ⟨rfl, rfl⟩
    go_wp2_with fail
    refine (c_nanS b w).mono ?_
    rintro e w1 ⟨rfl, rfl⟩
    go_wp2_with fail
    go_ret
    exact ⟨by rw [HR.out]; rfl, rfl⟩
  cases h2 : (a.toList == b.toList)
  · have HR := hide (show cmpS a b = 1 by simp [cmpS, h1, h2])
    go_enter Try.func64, Try.ntmps64
    go_wp2_with fail
    refine (c_nanS a w).mono ?_
    rintro e w1 ⟨rfl, rfl⟩
    go_wp2_with fail
    refine (c_nanS b w).mono ?_
    rintro e w1 ⟨rfl, rfl⟩
    go_wp2_with fail
    go_ret
    exact ⟨by rw [HR.out]; rfl, rfl⟩
  have HR := hide (show cmpS a b = 0 by simp [cmpS, h1, h2])
  go_enter Try.func64, Try.ntmps64
  go_wp2_with fail
  refine (c_nanS a w).mono ?_
  rintro e w1 ⟨rfl, rfl⟩
  go_wp2_with fail
  refine (c_nanS b w).mono ?_
  rintro e w1 ⟨rfl, rfl⟩
  go_wp2_with fail
  go_ret
  exact ⟨by rw [HR.out]; rfl, rfl⟩

theorem c_cmpOr (a b : Int) (A : Option Addr) (w : World) (hA : Rd intC 1 w A [a, b]) :
    Calls Try.prog 62 #[.slice A 2 2] w fun e w' => e = .returned (.int .i64 (or2 a b)) ∧ IsX w w' := by
  obtain ⟨b1, off, rfl, hb, c0⟩ := int_rd hA (show [a, b][0]? = some a from rfl)
  obtain ⟨b2, off2, e2, hb2, c1⟩ := int_rd hA (show [a, b][1]? = some b from rfl)
  injection e2 with e2
  injection e2 with e2 e3
  subst e2 e3
  clear hA
  simp only [Nat.zero_mul, Nat.one_mul, Nat.add_zero, Nat.mul_one] at c0 c1
  cases ha : (a == 0)
  · have HR := hide (show or2 a b = a by simp [or2, ha])
    go_enter Try.func62, Try.ntmps62
    go_wp2
    go_loopw [8] (fun i wr => i = .int .i64 0 ∧ IsX w wr) (fun _ _ => 0)
    case atStart => exact ⟨rfl, IsX.refl _⟩
    case round =>
      obtain ⟨rfl, p, rfl⟩ := hrel
      go_wp2
      go_ret
      exact ⟨by rw [HR.out]; rfl, ⟨p, rfl⟩⟩
  · have HR := hide (show or2 a b = b by simp [or2, ha])
    go_enter Try.func62, Try.ntmps62
    go_wp2
    go_loopw [8] (fun i wr => ∃ k : Nat, k ≤ 2 ∧ i = .int .i64 k ∧ (1 < k → b = 0) ∧ IsX w wr) (fun i _ => 2 - (intOf i).toNat)
    case atStart => exact ⟨0, by omega, rfl, by omega, IsX.refl _⟩
    case round =>
      obtain ⟨k, hk, rfl, hkb, p, rfl⟩ := hrel
      by_cases k0 : k = 0
      · subst k0
        rw [show (((0 : Nat) : Int)) = 0 from rfl]
        go_wp2
        go_roundw
        case rel => exact ⟨1, by omega, by go_num, by omega, ⟨p, rfl⟩⟩
        case measure => simp [intOf]
      by_cases k1 : k = 1
      · subst k1
        rw [show (((1 : Nat) : Int)) = 1 from rfl]
        cases hbz : (b == 0)
        · go_wp2
          go_ret
          exact ⟨by rw [HR.out]; rfl, ⟨p, rfl⟩⟩
        · have HZ := hide (eq_of_beq hbz)
          go_wp2
          go_roundw
          case rel => exact ⟨2, by omega, by go_num, fun _ => HZ.out, ⟨p, rfl⟩⟩
          case measure => simp [intOf]
      obtain rfl : k = 2 := by omega
      rw [show (((2 : Nat) : Int)) = 2 from rfl]
      have HZ := hide (hkb (by omega))
      clear hkb
      go_wp2
      go_ret
      exact ⟨by rw [HR.out, HZ.out]; rfl, ⟨p, rfl⟩⟩
set_option maxRecDepth 100000 in
set_option maxHeartbeats 3200000 in
theorem c_compareCues (x y : CueD) (w : World) : Calls Try.prog 39 #[.agg #[.string x.Id, .int .i64 x.Time, .int .i64 x.Length, .string x.Target, .int .i64 x.Action, .int .i64 x.Val], .agg #[.string y.Id, .int .i64 y.Time, .int .i64 y.Length, .string y.Target, .int .i64 y.Action, .int .i64 y.Val]] w fun e w' => e = .returned (.int .i64 (cmpC x y)) ∧ IsX w w' := by
  have HR := hide (show cmpC x y = or2 (cmpI x.Time y.Time) (cmpS x.Id y.Id) from rfl)
  go_enter Try.func39, Try.ntmps39
  go_wp2_with fail
  obtain ⟨W, hW⟩ : ∃ W, W = (w.alloc (.cells #[.string x.Id, .int .i64 x.Time, .int .i64 x.Length, .string x.Target, .int .i64 x.Action, .int .i64 x.Val] 60)).alloc (.cells #[.string y.Id, .int .i64 y.Time, .int .i64 y.Length, .string y.Target, .int .i64 y.Action, .int .i64 y.Val] 60) := ⟨_, rfl⟩
  have hx : IsX w W := hW ▸ ((IsX.refl w).alloc _).alloc _
  have hB0 : Blk W w.heap.size 60 #[.string x.Id, .int .i64 x.Time, .int .i64 x.Length, .string x.Target, .int .i64 x.Action, .int .i64 x.Val] := hW ▸ (Blk.new w _ _).x ((IsX.refl _).alloc _)
  have hB1 : Blk W (w.heap.size + 1) 60 #[.string y.Id, .int .i64 y.Time, .int .i64 y.Length, .string y.Target, .int .i64 y.Action, .int .i64 y.Val] := by
    have h := Blk.new (w.alloc (.cells #[.string x.Id, .int .i64 x.Time, .int .i64 x.Length, .string x.Target, .int .i64 x.Action, .int .i64 x.Val] 60)) 60 #[.string y.Id, .int .i64 y.Time, .int .i64 y.Length, .string y.Target, .int .i64 y.Action, .int .i64 y.Val]
    rw [show (w.alloc (.cells #[.string x.Id, .int .i64 x.Time, .int .i64 x.Length, .string x.Target, .int .i64 x.Action, .int .i64 x.Val] 60)).heap.size = w.heap.size + 1 from by simp] at h
    exact hW ▸ h
  rw [← hW]
  clear hW
  have HX := hide hx
  have hb0 := hB0.lt
  have hb1 := hB1.lt
  have c0 : W.cell? ⟨w.heap.size, 0, none⟩ = some (.string x.Id) := hB0.cell 0
  have c1 : W.cell? ⟨w.heap.size, 1, none⟩ = some (.int .i64 x.Time) := hB0.cell 1
  have d0 : W.cell? ⟨w.heap.size + 1, 0, none⟩ = some (.string y.Id) := hB1.cell 0
  have d1 : W.cell? ⟨w.heap.size + 1, 1, none⟩ = some (.int .i64 y.Time) := hB1.cell 1
  clear hB0 hB1 hx
  have HS := hide (show ∀ V, IsX W V → V.cell? ⟨w.heap.size, 0, none⟩ = some (.string x.Id) ∧ V.cell? ⟨w.heap.size, 1, none⟩ = some (.int .i64 x.Time) ∧ V.cell? ⟨w.heap.size + 1, 0, none⟩ = some (.string y.Id) ∧ V.cell? ⟨w.heap.size + 1, 1, none⟩ = some (.int .i64 y.Time) from fun V hV => ⟨keep hV hb0 c0, keep hV hb0 c1, keep hV hb1 d0, keep hV hb1 d1⟩)
  obtain ⟨ci, hci⟩ : ∃ z, z = cmpI x.Time y.Time := ⟨_, rfl⟩
  obtain ⟨si, hsi⟩ : ∃ z, z = cmpS x.Id y.Id := ⟨_, rfl⟩
  have HCI := hide (fun V => hci ▸ c_cmpI x.Time y.Time V)
  have HSI := hide (fun V => hsi ▸ c_cmpS x.Id y.Id V)
  rw [← hci, ← hsi] at HR
  clear hci hsi
  have HL := hide (c_cmpOr ci si (some ⟨W.heap.size, 0, none⟩) ((W.alloc (.cells #[.int .i64 ci, .int .i64 si] 3)).drew) (Blk.rd intC_len ((Blk.new W 3 #[.int .i64 ci, .int .i64 si]).x (IsX.drew (IsX.refl _)))))
  have HXD := hide (show IsX w ((W.alloc (.cells #[.int .i64 ci, .int .i64 si] 3)).drew) from HX.out.trans (IsX.drew ((IsX.refl W).alloc _)))
  have n0 := World.new_ne W ⟨w.heap.size, 0, none⟩ c0
  have n1 := World.new_ne W ⟨w.heap.size + 1, 0, none⟩ d0
  go_region_held3 (fun V => V.cell? ⟨w.heap.size, 0, none⟩ = some (.string x.Id) ∧ V.cell? ⟨w.heap.size, 1, none⟩ = some (.int .i64 x.Time) ∧ V.cell? ⟨w.heap.size + 1, 0, none⟩ = some (.string y.Id) ∧ V.cell? ⟨w.heap.size + 1, 1, none⟩ = some (.int .i64 y.Time))
    (first | go_keep | (exact HS.out _ (IsX.drew (IsX.alloc (IsX.refl _) _))) | (exact HS.out _ ((IsX.drew (IsX.alloc (IsX.refl _) _)).trans hx1)))
    ((first
      | (go_at_call 63; refine (HCI.out _).mono ?_; rintro e w1 ⟨rfl, rfl⟩)
      | (go_at_call 64; refine (HSI.out _).mono ?_; rintro e w1 ⟨rfl, rfl⟩)
      | (go_at_call 62; refine HL.out.mono ?_; rintro e w1 ⟨rfl, hx1⟩)))
  go_wp2
  go_ret
  exact ⟨by rw [HR.out]; rfl, HXD.out.trans hx1⟩

theorem rd_take {w : World} {A : Option Addr} {xs : List CueD} (h : Rd CueD.cells 6 w A xs) (k : Nat) : Rd CueD.cells 6 w A (xs.take k) := fun i x hx => by
  rw [List.getElem?_take] at hx
  split at hx
  · exact h i x hx
  · cases hx

set_option maxRecDepth 100000 in
set_option maxHeartbeats 3200000 in
theorem c_l13Ok (A : Option Addr) (c : Nat) (xs : List CueD) (w : World) (hn : xs.length ≤ 1099511627776) (hw : ∀ x ∈ xs, x.wf) (hA : Rd CueD.cells 6 w A xs) :
    Calls Try.prog 58 #[.slice A xs.length c] w fun e w' => e = .returned (.bool (cueListB xs)) ∧ IsX w w' := by
  obtain ⟨n, hnn⟩ : ∃ n, n = xs.length := ⟨_, rfl⟩
  have HN := hide hnn
  have HNB := hide hn
  rw [← hnn] at hn ⊢
  clear hnn
  have HW := hide hw
  have HRA := hide hA
  clear hw
  go_enter Try.func58, Try.ntmps58
  go_wp2
  go_loopw [3] (fun i wr => ∃ k : Nat, k ≤ n ∧ i = .int .i64 k ∧ Hid ((∀ i, i < k → goodAt CueD.okB CueD.geB xs i = true) ∧ (∀ i, i < k → dupAt xs i = false)) ∧ IsX w wr) (fun i _ => n - (intOf i).toNat)
  case atStart => exact ⟨0, Nat.zero_le _, rfl, hide ⟨fun i hi => absurd hi (by omega), fun i hi => absurd hi (by omega)⟩, IsX.refl _⟩
  case round =>
    obtain ⟨k, hk, rfl, HA, p, rfl⟩ := hrel
    by_cases hlt : k < n
    · have hltx : k < xs.length := HN.out ▸ hlt
      obtain ⟨b, off, rfl, hb, c0, c1, c2, c3, c4, c5⟩ := CueD.rd hA (show xs[k]? = some xs[k] from List.getElem?_eq_getElem _)
      have hs0 : xs[k].Id.size ≤ maxLen := by have := HW.out _ (List.getElem_mem hltx); simp only [CueD.wf] at this; omega
      have hs1 : xs[k].Target.size ≤ maxLen := by have := HW.out _ (List.getElem_mem hltx); simp only [CueD.wf] at this; omega
      obtain ⟨fi, hfi⟩ : ∃ z, z = cueI xs[k].Id xs := ⟨_, rfl⟩
      have FI : Hid (∀ W, IsX w W → Calls Try.prog 60 #[.slice (some ⟨b, off, none⟩) n c, .string xs[k].Id] W fun e w' => e = .returned (.int .i64 fi) ∧ IsX W w') := hide (fun W hW => by rw [hfi, HN.out]; exact c_l13Find _ _ _ _ _ HNB.out (HRA.out.x hW))
      have hdd : decide (fi < (k : Int)) = dupAt xs k := by rw [hfi]; exact cueI_lt hltx
      clear hfi
      cases hok : xs[k].okB
      · have HR := hide (cues_bad_ok hok)
        clear hA hdd
        go_wp2
        refine wp_region_x (by kernel_rfl) (by kernel_rfl) ?_
        repeat (go_big_quiet_step ((first | (go_at_call 59; exact call_x (cb (c_l13One xs[k] b (off + k * 6) _ hs0 hs1 (Nat.lt_of_lt_of_le hb (IsX.size (IsX.xt ⟨p, rfl⟩ _))) (keep (IsX.xt ⟨p, rfl⟩ _) hb c0) (keep (IsX.xt ⟨p, rfl⟩ _) hb c1) (keep (IsX.xt ⟨p, rfl⟩ _) hb c2) (keep (IsX.xt ⟨p, rfl⟩ _) hb c3) (keep (IsX.xt ⟨p, rfl⟩ _) hb c4) (keep (IsX.xt ⟨p, rfl⟩ _) hb c5)) hok)) | (go_at_call 60; exact call_x (FI.out _ (IsX.xt ⟨p, rfl⟩ _))))))
        refine wpQuiet_nil ?_
        rintro _ ⟨q, rfl⟩
        go_wp2
        go_ret
        exact ⟨by rw [HR.out]; rfl, IsX.xt ⟨p, rfl⟩ q⟩
      · have HO := hide hok
        cases hdu : dupAt xs k
        rotate_left
        · have HR := hide (cues_bad_dup hltx hdu)
          rw [hdu] at hdd
          clear hA hdu
          go_wp2
          refine wp_region_x (by kernel_rfl) (by kernel_rfl) ?_
          repeat (go_big_quiet_step ((first | (go_at_call 59; exact call_x (cb (c_l13One xs[k] b (off + k * 6) _ hs0 hs1 (Nat.lt_of_lt_of_le hb (IsX.size (IsX.xt ⟨p, rfl⟩ _))) (keep (IsX.xt ⟨p, rfl⟩ _) hb c0) (keep (IsX.xt ⟨p, rfl⟩ _) hb c1) (keep (IsX.xt ⟨p, rfl⟩ _) hb c2) (keep (IsX.xt ⟨p, rfl⟩ _) hb c3) (keep (IsX.xt ⟨p, rfl⟩ _) hb c4) (keep (IsX.xt ⟨p, rfl⟩ _) hb c5)) hok)) | (go_at_call 60; exact call_x (FI.out _ (IsX.xt ⟨p, rfl⟩ _))))))
          refine wpQuiet_nil ?_
          rintro _ ⟨q, rfl⟩
          go_wp2
          go_ret
          exact ⟨by rw [HR.out]; rfl, IsX.xt ⟨p, rfl⟩ q⟩
        have HD := hide hdu
        rw [hdu] at hdd
        clear hdu
        cases k with
        | zero =>
          clear hA
          rw [show (((0 : Nat) : Int)) = 0 from rfl] at hdd ⊢
          simp only [Nat.zero_mul, Nat.add_zero] at c0 c1 c2 c3 c4 c5
          go_wp2
          refine wp_region_x (by kernel_rfl) (by kernel_rfl) ?_
          repeat (go_big_quiet_step ((first | (go_at_call 59; exact call_x (cb (c_l13One xs[0] b (off) _ hs0 hs1 (Nat.lt_of_lt_of_le hb (IsX.size (IsX.xt ⟨p, rfl⟩ _))) (keep (IsX.xt ⟨p, rfl⟩ _) hb c0) (keep (IsX.xt ⟨p, rfl⟩ _) hb c1) (keep (IsX.xt ⟨p, rfl⟩ _) hb c2) (keep (IsX.xt ⟨p, rfl⟩ _) hb c3) (keep (IsX.xt ⟨p, rfl⟩ _) hb c4) (keep (IsX.xt ⟨p, rfl⟩ _) hb c5)) hok)) | (go_at_call 60; exact call_x (FI.out _ (IsX.xt ⟨p, rfl⟩ _))))))
          refine wpQuiet_nil ?_
          rintro _ ⟨q, rfl⟩
          go_wp2
          go_roundw
          case rel => exact ⟨1, by omega, by go_num, hide ⟨good_step HA.out.1 (good_zero HO.out), dup_step HA.out.2 HD.out⟩, IsX.xt ⟨p, rfl⟩ q⟩
          case measure => simp [intOf]; omega
        | succ j =>
          obtain ⟨b', off', e, hb', d0, d1, d2, d3, d4, d5⟩ := CueD.rd hA (show xs[j]? = some xs[j] from List.getElem?_eq_getElem _)
          injection e with e
          injection e with e1 e2
          subst e1 e2
          clear hA
          rw [show (((j + 1 : Nat) : Int)) = (j : Int) + 1 from rfl] at hdd ⊢
          cases hcl : cueLt xs[j] xs[j + 1]
          · have HR := hide (cues_bad_lt (h := hltx) hcl)
            go_wp2
            refine wp_region_x (by kernel_rfl) (by kernel_rfl) ?_
            repeat (go_big_quiet_step ((first | (go_at_call 59; exact call_x (cb (c_l13One xs[j + 1] b (off + (j + 1) * 6) _ hs0 hs1 (Nat.lt_of_lt_of_le hb (IsX.size (IsX.xt ⟨p, rfl⟩ _))) (keep (IsX.xt ⟨p, rfl⟩ _) hb c0) (keep (IsX.xt ⟨p, rfl⟩ _) hb c1) (keep (IsX.xt ⟨p, rfl⟩ _) hb c2) (keep (IsX.xt ⟨p, rfl⟩ _) hb c3) (keep (IsX.xt ⟨p, rfl⟩ _) hb c4) (keep (IsX.xt ⟨p, rfl⟩ _) hb c5)) hok)) | (go_at_call 60; exact call_x (FI.out _ (IsX.xt ⟨p, rfl⟩ _))) | (go_at_call 73; exact call_x (cb (c_l13Before xs[j] xs[j + 1] b (off + j * 6) b (off + (j + 1) * 6) _ (Nat.lt_of_lt_of_le hb (IsX.size (IsX.xt ⟨p, rfl⟩ _))) (Nat.lt_of_lt_of_le hb (IsX.size (IsX.xt ⟨p, rfl⟩ _))) (keep (IsX.xt ⟨p, rfl⟩ _) hb d0) (keep (IsX.xt ⟨p, rfl⟩ _) hb d1) (keep (IsX.xt ⟨p, rfl⟩ _) hb c0) (keep (IsX.xt ⟨p, rfl⟩ _) hb c1)) hcl)))))
            refine wpQuiet_nil ?_
            rintro _ ⟨q, rfl⟩
            go_wp2
            go_ret
            exact ⟨by rw [HR.out]; rfl, IsX.xt ⟨p, rfl⟩ q⟩
          · have HG := hide hcl
            go_wp2
            refine wp_region_x (by kernel_rfl) (by kernel_rfl) ?_
            repeat (go_big_quiet_step ((first | (go_at_call 59; exact call_x (cb (c_l13One xs[j + 1] b (off + (j + 1) * 6) _ hs0 hs1 (Nat.lt_of_lt_of_le hb (IsX.size (IsX.xt ⟨p, rfl⟩ _))) (keep (IsX.xt ⟨p, rfl⟩ _) hb c0) (keep (IsX.xt ⟨p, rfl⟩ _) hb c1) (keep (IsX.xt ⟨p, rfl⟩ _) hb c2) (keep (IsX.xt ⟨p, rfl⟩ _) hb c3) (keep (IsX.xt ⟨p, rfl⟩ _) hb c4) (keep (IsX.xt ⟨p, rfl⟩ _) hb c5)) hok)) | (go_at_call 60; exact call_x (FI.out _ (IsX.xt ⟨p, rfl⟩ _))) | (go_at_call 73; exact call_x (cb (c_l13Before xs[j] xs[j + 1] b (off + j * 6) b (off + (j + 1) * 6) _ (Nat.lt_of_lt_of_le hb (IsX.size (IsX.xt ⟨p, rfl⟩ _))) (Nat.lt_of_lt_of_le hb (IsX.size (IsX.xt ⟨p, rfl⟩ _))) (keep (IsX.xt ⟨p, rfl⟩ _) hb d0) (keep (IsX.xt ⟨p, rfl⟩ _) hb d1) (keep (IsX.xt ⟨p, rfl⟩ _) hb c0) (keep (IsX.xt ⟨p, rfl⟩ _) hb c1)) hcl)))))
            refine wpQuiet_nil ?_
            rintro _ ⟨q, rfl⟩
            go_wp2
            go_roundw
            case rel => exact ⟨j + 1 + 1, by omega, by go_num, hide ⟨good_step HA.out.1 (good_succ HO.out (by simp [CueD.geB, HG.out])), dup_step HA.out.2 HD.out⟩, IsX.xt ⟨p, rfl⟩ q⟩
            case measure => simp [intOf]; omega
    · obtain rfl : k = n := by omega
      have HE := hide (show cueListB xs = decide (xs.length ≤ 32) from by
        by_cases h : xs.length ≤ 32
        · rw [cues_good h (fun i hi => HA.out.1 i (by rw [HN.out]; exact hi)) (fun i hi => HA.out.2 i (by rw [HN.out]; exact hi)), decide_eq_true h]
        · rw [cues_bad_len (by omega), decide_eq_false h])
      rw [← HN.out] at HE
      go_wp2
      go_ret
      refine ⟨?_, ⟨p, rfl⟩⟩
      rw [HE.out]
      show Ending.returned (Value.bool _) = _
      first | rfl | (congr 2; simp; omega) | (simp; omega)

set_option maxRecDepth 100000 in
set_option maxHeartbeats 3200000 in
theorem c_ValidCues (A : Option Addr) (c : Nat) (xs : List CueD) (w : World) (hn : xs.length ≤ 1099511627776) (hw : ∀ x ∈ xs, x.wf) (hA : Rd CueD.cells 6 w A xs) (hc : xs.length ≤ c) :
    Calls Try.prog 25 #[.slice A xs.length c] w fun e w' => e = .returned (.bool (cueListB xs)) ∧ IsX w w' := by
  by_cases hlen : 32 < xs.length
  · have HR := hide (cues_bad_len hlen)
    generalize xs.length = n at hn hlen hc ⊢
    go_enter Try.func25, Try.ntmps25
    go_wp2
    go_ret
    exact ⟨by rw [HR.out]; rfl, IsX.refl _⟩
  obtain ⟨n, hnn⟩ : ∃ n, n = xs.length := ⟨_, rfl⟩
  have HN := hide hnn
  have HNB := hide hn
  rw [← hnn] at hn hlen hc ⊢
  clear hnn
  have HW := hide hw
  have HRA := hide hA
  clear hw
  go_enter Try.func25, Try.ntmps25
  go_wp2
  go_loopw [10] (fun i wr => ∃ k : Nat, k ≤ n ∧ i = .int .i64 k ∧ Hid ((∀ i, i < k → goodAt CueD.okB CueD.geB xs i = true) ∧ (∀ i, i < k → dupAt xs i = false)) ∧ IsX w wr) (fun i _ => n - (intOf i).toNat)
  case atStart => exact ⟨0, Nat.zero_le _, rfl, hide ⟨fun i hi => absurd hi (by omega), fun i hi => absurd hi (by omega)⟩, IsX.refl _⟩
  case round =>
    obtain ⟨k, hk, rfl, HA, p, rfl⟩ := hrel
    by_cases hlt : k < n
    · have hltx : k < xs.length := HN.out ▸ hlt
      obtain ⟨b, off, rfl, hb, c0, c1, c2, c3, c4, c5⟩ := CueD.rd hA (show xs[k]? = some xs[k] from List.getElem?_eq_getElem _)
      have hs0 : xs[k].Id.size ≤ maxLen := by have := HW.out _ (List.getElem_mem hltx); simp only [CueD.wf] at this; omega
      have hs1 : xs[k].Target.size ≤ maxLen := by have := HW.out _ (List.getElem_mem hltx); simp only [CueD.wf] at this; omega
      obtain ⟨fi, hfi⟩ : ∃ z, z = cueI xs[k].Id (xs.take k) := ⟨_, rfl⟩
      have htk : (xs.take k).length = k := by rw [List.length_take]; omega
      have FI : Hid (∀ W, IsX w W → Calls Try.prog 40 #[.slice (some ⟨b, off, none⟩) k c, .string xs[k].Id] W fun e w' => e = .returned (.int .i64 fi) ∧ IsX W w') := hide (fun W hW => by
        have h := c_cueIndex xs[k].Id (some ⟨b, off, none⟩) c (xs.take k) W (by omega) (rd_take (HRA.out.x hW) k)
        rw [htk, ← hfi] at h; exact h)
      have hdd : decide (0 ≤ fi) = dupAt xs k := by rw [hfi, dup_eq hltx]; exact cueI_take
      clear hfi htk
      cases hok : xs[k].okB
      · have HR := hide (cues_bad_ok hok)
        clear hA hdd
        go_wp2
        obtain ⟨W1, hW1⟩ : ∃ W1, W1 = (xt w p).alloc (.cells #[.string xs[k].Id, .int .i64 xs[k].Time, .int .i64 xs[k].Length, .string xs[k].Target, .int .i64 xs[k].Action, .int .i64 xs[k].Val] 60) := ⟨_, rfl⟩
        have hix : IsX w W1 := hW1 ▸ IsX.alloc ⟨p, rfl⟩ _
        have HIX := hide hix
        have hBk : Blk W1 (xt w p).heap.size 60 #[.string xs[k].Id, .int .i64 xs[k].Time, .int .i64 xs[k].Length, .string xs[k].Target, .int .i64 xs[k].Action, .int .i64 xs[k].Val] := hW1 ▸ Blk.new (xt w p) _ _
        rw [← hW1]
        clear hW1
        have hbk := hBk.lt
        have hsz := hix.size
        have k0 : W1.cell? ⟨(xt w p).heap.size, 0, none⟩ = some (.string xs[k].Id) := hBk.cell 0
        have k1 : W1.cell? ⟨(xt w p).heap.size, 1, none⟩ = some (.int .i64 xs[k].Time) := hBk.cell 1
        have k2 : W1.cell? ⟨(xt w p).heap.size, 2, none⟩ = some (.int .i64 xs[k].Length) := hBk.cell 2
        have k3 : W1.cell? ⟨(xt w p).heap.size, 3, none⟩ = some (.string xs[k].Target) := hBk.cell 3
        have k4 : W1.cell? ⟨(xt w p).heap.size, 4, none⟩ = some (.int .i64 xs[k].Action) := hBk.cell 4
        have k5 : W1.cell? ⟨(xt w p).heap.size, 5, none⟩ = some (.int .i64 xs[k].Val) := hBk.cell 5
        replace hb := Nat.lt_of_lt_of_le hb hsz
        clear hBk hix c0 c1 c2 c3 c4 c5
        generalize (xt w p).heap.size = g at *
        refine wp_region_x (by kernel_rfl) (by kernel_rfl) ?_
        repeat (go_big_quiet_step ((first | (go_at_call 38; exact call_x (cb (c_ValidCue xs[k] _ hs0 hs1) hok)) | (go_at_call 40; exact call_x (FI.out _ (IsX.xt HIX.out _))))))
        refine wpQuiet_nil ?_
        rintro _ ⟨q, rfl⟩
        go_wp2
        go_ret
        exact ⟨by rw [HR.out]; rfl, IsX.xt HIX.out q⟩
      · have HO := hide hok
        cases k with
        | zero =>
          have HD := hide (dup_zero (xs := xs))
          have hdz : dupAt xs 0 = false := HD.out
          rw [hdz] at hdd
          clear hA hdz
          rw [show (((0 : Nat) : Int)) = 0 from rfl]
          simp only [Nat.zero_mul, Nat.add_zero] at c0 c1 c2 c3 c4 c5
          go_wp2
          obtain ⟨W1, hW1⟩ : ∃ W1, W1 = (xt w p).alloc (.cells #[.string xs[0].Id, .int .i64 xs[0].Time, .int .i64 xs[0].Length, .string xs[0].Target, .int .i64 xs[0].Action, .int .i64 xs[0].Val] 60) := ⟨_, rfl⟩
          have hix : IsX w W1 := hW1 ▸ IsX.alloc ⟨p, rfl⟩ _
          have HIX := hide hix
          have hBk : Blk W1 (xt w p).heap.size 60 #[.string xs[0].Id, .int .i64 xs[0].Time, .int .i64 xs[0].Length, .string xs[0].Target, .int .i64 xs[0].Action, .int .i64 xs[0].Val] := hW1 ▸ Blk.new (xt w p) _ _
          rw [← hW1]
          clear hW1
          have hbk := hBk.lt
          have hsz := hix.size
          have k0 : W1.cell? ⟨(xt w p).heap.size, 0, none⟩ = some (.string xs[0].Id) := hBk.cell 0
          have k1 : W1.cell? ⟨(xt w p).heap.size, 1, none⟩ = some (.int .i64 xs[0].Time) := hBk.cell 1
          have k2 : W1.cell? ⟨(xt w p).heap.size, 2, none⟩ = some (.int .i64 xs[0].Length) := hBk.cell 2
          have k3 : W1.cell? ⟨(xt w p).heap.size, 3, none⟩ = some (.string xs[0].Target) := hBk.cell 3
          have k4 : W1.cell? ⟨(xt w p).heap.size, 4, none⟩ = some (.int .i64 xs[0].Action) := hBk.cell 4
          have k5 : W1.cell? ⟨(xt w p).heap.size, 5, none⟩ = some (.int .i64 xs[0].Val) := hBk.cell 5
          replace hb := Nat.lt_of_lt_of_le hb hsz
          clear hBk hix c0 c1 c2 c3 c4 c5
          generalize (xt w p).heap.size = g at *
          refine wp_region_x (by kernel_rfl) (by kernel_rfl) ?_
          repeat (go_big_quiet_step ((first | (go_at_call 38; exact call_x (cb (c_ValidCue xs[0] _ hs0 hs1) hok)) | (go_at_call 40; exact call_x (FI.out _ (IsX.xt HIX.out _))))))
          refine wpQuiet_nil ?_
          rintro _ ⟨q, rfl⟩
          go_wp2
          go_roundw
          case rel => exact ⟨1, by omega, by go_num, hide ⟨good_step HA.out.1 (good_zero HO.out), dup_step HA.out.2 HD.out⟩, IsX.xt HIX.out q⟩
          case measure => simp [intOf]; omega
        | succ j =>
          obtain ⟨b', off', e, hb', d0, d1, d2, d3, d4, d5⟩ := CueD.rd hA (show xs[j]? = some xs[j] from List.getElem?_eq_getElem _)
          injection e with e
          injection e with e1 e2
          subst e1 e2
          clear hA
          rw [show (((j + 1 : Nat) : Int)) = (j : Int) + 1 from rfl] 
          obtain ⟨ci, hci⟩ : ∃ z, z = cmpC xs[j] xs[j + 1] := ⟨_, rfl⟩
          have HCC := hide (fun W => hci ▸ c_compareCues xs[j] xs[j + 1] W)
          have hcg : decide (0 ≤ ci) = !cueLt xs[j] xs[j + 1] := by rw [hci]; exact cmpC_ge _ _
          clear hci
          cases hcl : cueLt xs[j] xs[j + 1]
          · have HR := hide (cues_bad_lt (h := hltx) hcl)
            rw [hcl, Bool.not_false] at hcg
            clear hdd hcl
            go_wp2
            obtain ⟨W1, hW1⟩ : ∃ W1, W1 = (xt w p).alloc (.cells #[.string xs[j + 1].Id, .int .i64 xs[j + 1].Time, .int .i64 xs[j + 1].Length, .string xs[j + 1].Target, .int .i64 xs[j + 1].Action, .int .i64 xs[j + 1].Val] 60) := ⟨_, rfl⟩
            have hix : IsX w W1 := hW1 ▸ IsX.alloc ⟨p, rfl⟩ _
            have HIX := hide hix
            have hBk : Blk W1 (xt w p).heap.size 60 #[.string xs[j + 1].Id, .int .i64 xs[j + 1].Time, .int .i64 xs[j + 1].Length, .string xs[j + 1].Target, .int .i64 xs[j + 1].Action, .int .i64 xs[j + 1].Val] := hW1 ▸ Blk.new (xt w p) _ _
            rw [← hW1]
            clear hW1
            have hbk := hBk.lt
            have hsz := hix.size
            have k0 : W1.cell? ⟨(xt w p).heap.size, 0, none⟩ = some (.string xs[j + 1].Id) := hBk.cell 0
            have k1 : W1.cell? ⟨(xt w p).heap.size, 1, none⟩ = some (.int .i64 xs[j + 1].Time) := hBk.cell 1
            have k2 : W1.cell? ⟨(xt w p).heap.size, 2, none⟩ = some (.int .i64 xs[j + 1].Length) := hBk.cell 2
            have k3 : W1.cell? ⟨(xt w p).heap.size, 3, none⟩ = some (.string xs[j + 1].Target) := hBk.cell 3
            have k4 : W1.cell? ⟨(xt w p).heap.size, 4, none⟩ = some (.int .i64 xs[j + 1].Action) := hBk.cell 4
            have k5 : W1.cell? ⟨(xt w p).heap.size, 5, none⟩ = some (.int .i64 xs[j + 1].Val) := hBk.cell 5
            replace d0 := keep hix hb d0
            replace d1 := keep hix hb d1
            replace d2 := keep hix hb d2
            replace d3 := keep hix hb d3
            replace d4 := keep hix hb d4
            replace d5 := keep hix hb d5
            replace hb := Nat.lt_of_lt_of_le hb hsz
            clear hBk hix c0 c1 c2 c3 c4 c5
            generalize (xt w p).heap.size = g at *
            refine wp_region_x (by kernel_rfl) (by kernel_rfl) ?_
            repeat (go_big_quiet_step ((first | (go_at_call 38; exact call_x (cb (c_ValidCue xs[j + 1] _ hs0 hs1) hok)) | (go_at_call 40; exact call_x (FI.out _ (IsX.xt HIX.out _))) | (go_at_call 39; exact call_x (HCC.out _)))))
            refine wpQuiet_nil ?_
            rintro _ ⟨q, rfl⟩
            go_wp2
            go_ret
            exact ⟨by rw [HR.out]; rfl, IsX.xt HIX.out q⟩
          have HG := hide hcl
          rw [hcl, Bool.not_true] at hcg
          clear hcl
          cases hdu : dupAt xs (j + 1)
          rotate_left
          · have HR := hide (cues_bad_dup hltx hdu)
            rw [hdu] at hdd
            clear hdu
            go_wp2
            obtain ⟨W1, hW1⟩ : ∃ W1, W1 = (xt w p).alloc (.cells #[.string xs[j + 1].Id, .int .i64 xs[j + 1].Time, .int .i64 xs[j + 1].Length, .string xs[j + 1].Target, .int .i64 xs[j + 1].Action, .int .i64 xs[j + 1].Val] 60) := ⟨_, rfl⟩
            have hix : IsX w W1 := hW1 ▸ IsX.alloc ⟨p, rfl⟩ _
            have HIX := hide hix
            have hBk : Blk W1 (xt w p).heap.size 60 #[.string xs[j + 1].Id, .int .i64 xs[j + 1].Time, .int .i64 xs[j + 1].Length, .string xs[j + 1].Target, .int .i64 xs[j + 1].Action, .int .i64 xs[j + 1].Val] := hW1 ▸ Blk.new (xt w p) _ _
            rw [← hW1]
            clear hW1
            have hbk := hBk.lt
            have hsz := hix.size
            have k0 : W1.cell? ⟨(xt w p).heap.size, 0, none⟩ = some (.string xs[j + 1].Id) := hBk.cell 0
            have k1 : W1.cell? ⟨(xt w p).heap.size, 1, none⟩ = some (.int .i64 xs[j + 1].Time) := hBk.cell 1
            have k2 : W1.cell? ⟨(xt w p).heap.size, 2, none⟩ = some (.int .i64 xs[j + 1].Length) := hBk.cell 2
            have k3 : W1.cell? ⟨(xt w p).heap.size, 3, none⟩ = some (.string xs[j + 1].Target) := hBk.cell 3
            have k4 : W1.cell? ⟨(xt w p).heap.size, 4, none⟩ = some (.int .i64 xs[j + 1].Action) := hBk.cell 4
            have k5 : W1.cell? ⟨(xt w p).heap.size, 5, none⟩ = some (.int .i64 xs[j + 1].Val) := hBk.cell 5
            replace d0 := keep hix hb d0
            replace d1 := keep hix hb d1
            replace d2 := keep hix hb d2
            replace d3 := keep hix hb d3
            replace d4 := keep hix hb d4
            replace d5 := keep hix hb d5
            replace hb := Nat.lt_of_lt_of_le hb hsz
            clear hBk hix c0 c1 c2 c3 c4 c5
            generalize (xt w p).heap.size = g at *
            refine wp_region_x (by kernel_rfl) (by kernel_rfl) ?_
            repeat (go_big_quiet_step ((first | (go_at_call 38; exact call_x (cb (c_ValidCue xs[j + 1] _ hs0 hs1) hok)) | (go_at_call 40; exact call_x (FI.out _ (IsX.xt HIX.out _))) | (go_at_call 39; exact call_x (HCC.out _)))))
            refine wpQuiet_nil ?_
            rintro _ ⟨q, rfl⟩
            go_wp2
            go_ret
            exact ⟨by rw [HR.out]; rfl, IsX.xt HIX.out q⟩
          · have HD := hide hdu
            rw [hdu] at hdd
            clear hdu
            go_wp2
            obtain ⟨W1, hW1⟩ : ∃ W1, W1 = (xt w p).alloc (.cells #[.string xs[j + 1].Id, .int .i64 xs[j + 1].Time, .int .i64 xs[j + 1].Length, .string xs[j + 1].Target, .int .i64 xs[j + 1].Action, .int .i64 xs[j + 1].Val] 60) := ⟨_, rfl⟩
            have hix : IsX w W1 := hW1 ▸ IsX.alloc ⟨p, rfl⟩ _
            have HIX := hide hix
            have hBk : Blk W1 (xt w p).heap.size 60 #[.string xs[j + 1].Id, .int .i64 xs[j + 1].Time, .int .i64 xs[j + 1].Length, .string xs[j + 1].Target, .int .i64 xs[j + 1].Action, .int .i64 xs[j + 1].Val] := hW1 ▸ Blk.new (xt w p) _ _
            rw [← hW1]
            clear hW1
            have hbk := hBk.lt
            have hsz := hix.size
            have k0 : W1.cell? ⟨(xt w p).heap.size, 0, none⟩ = some (.string xs[j + 1].Id) := hBk.cell 0
            have k1 : W1.cell? ⟨(xt w p).heap.size, 1, none⟩ = some (.int .i64 xs[j + 1].Time) := hBk.cell 1
            have k2 : W1.cell? ⟨(xt w p).heap.size, 2, none⟩ = some (.int .i64 xs[j + 1].Length) := hBk.cell 2
            have k3 : W1.cell? ⟨(xt w p).heap.size, 3, none⟩ = some (.string xs[j + 1].Target) := hBk.cell 3
            have k4 : W1.cell? ⟨(xt w p).heap.size, 4, none⟩ = some (.int .i64 xs[j + 1].Action) := hBk.cell 4
            have k5 : W1.cell? ⟨(xt w p).heap.size, 5, none⟩ = some (.int .i64 xs[j + 1].Val) := hBk.cell 5
            replace d0 := keep hix hb d0
            replace d1 := keep hix hb d1
            replace d2 := keep hix hb d2
            replace d3 := keep hix hb d3
            replace d4 := keep hix hb d4
            replace d5 := keep hix hb d5
            replace hb := Nat.lt_of_lt_of_le hb hsz
            clear hBk hix c0 c1 c2 c3 c4 c5
            generalize (xt w p).heap.size = g at *
            refine wp_region_x (by kernel_rfl) (by kernel_rfl) ?_
            repeat (go_big_quiet_step ((first | (go_at_call 38; exact call_x (cb (c_ValidCue xs[j + 1] _ hs0 hs1) hok)) | (go_at_call 40; exact call_x (FI.out _ (IsX.xt HIX.out _))) | (go_at_call 39; exact call_x (HCC.out _)))))
            refine wpQuiet_nil ?_
            rintro _ ⟨q, rfl⟩
            go_wp2
            go_roundw
            case rel => exact ⟨j + 1 + 1, by omega, by go_num, hide ⟨good_step HA.out.1 (good_succ HO.out (by simp [CueD.geB, HG.out])), dup_step HA.out.2 HD.out⟩, IsX.xt HIX.out q⟩
            case measure => simp [intOf]; omega
    · obtain rfl : k = n := by omega
      have HR := hide (cues_good (show xs.length ≤ 32 by rw [← HN.out]; omega) (fun i hi => HA.out.1 i (by rw [HN.out]; exact hi)) (fun i hi => HA.out.2 i (by rw [HN.out]; exact hi)))
      go_wp2
      go_ret
      exact ⟨by rw [HR.out]; rfl, ⟨p, rfl⟩⟩

end Go.Proofs.Ytegehdhdlljikaa
