/- A decimal number read: ReadDecimal of the program. Conditions: texts of at most 2^32 bytes; the library's variables as the rows lay them. -/
import Derived.Test.YtmipphgekcdaoaaGreatDoorNumAll
import Derived.Test.YtmipphgekcdaoaaGreatDoorReadLib
import Derived.Test.YtmipphgekcdaoaaGreatDoorNames
namespace Go.Proofs.YtmipphgekcdaoaaGreatDoor
set_option linter.unusedVariables false
open Go.RowKit

/-- what the library's functions ask of the package-level variables -/
def EnvOk (w : World) : Prop :=
  Lib.TabIs Tryz.prog w "internal/strconv.uint64pow10" .u64 Lib.pow10Tab ∧ (∃ tp p, w.var? Tryz.prog "strconv.ErrSyntax" = some #[.iface tp p]) ∧ (∃ tp p, w.var? Tryz.prog "strconv.ErrRange" = some #[.iface tp p]) ∧ (∃ m, w.cell? ⟨0, 0, none⟩ = some (.int .i64 m))
theorem var_x {w w' : World} {s : String} {cs : Array Value} (h : w.var? Tryz.prog s = some cs) (hx : IsX w w') : w'.var? Tryz.prog s = some cs := by
  unfold World.var? at h ⊢
  cases hg : Tryz.prog.globalNamed s with
  | none => simp [hg] at h
  | some g =>
    simp only [hg, Option.bind_some] at h ⊢
    have hlt : g < w.heap.size := by
      rcases Nat.lt_or_ge g w.heap.size with h' | h'
      · exact h'
      · rw [Array.getElem?_eq_none h'] at h; cases h
    rw [hx.below.block g hlt]; exact h
theorem envTab_x {w w' : World} (h : Lib.TabIs Tryz.prog w "internal/strconv.uint64pow10" .u64 Lib.pow10Tab) (hx : IsX w w') : Lib.TabIs Tryz.prog w' "internal/strconv.uint64pow10" .u64 Lib.pow10Tab := by
  unfold Lib.TabIs World.var? at h ⊢
  cases hg : Tryz.prog.globalNamed "internal/strconv.uint64pow10" with
  | none => simp [hg] at h
  | some g =>
    simp only [hg, Option.bind_some] at h ⊢
    have hlt : g < w.heap.size := by
      rcases Nat.lt_or_ge g w.heap.size with h' | h'
      · exact h'
      · rw [Array.getElem?_eq_none h'] at h; cases h
    rw [hx.below.block g hlt]; exact h
theorem cell_lt {w : World} {b : Nat} {v : Value} (h : w.cell? ⟨b, 0, none⟩ = some v) : b < w.heap.size := by
  rcases Nat.lt_or_ge b w.heap.size with h' | h'
  · exact h'
  · simp [World.cell?, Array.getElem?_eq_none h'] at h
theorem EnvOk.x {w w' : World} (h : EnvOk w) (hx : IsX w w') : EnvOk w' := by
  obtain ⟨h0, ⟨t1, p1, h1⟩, ⟨t2, p2, h2⟩, m, h3⟩ := h
  refine ⟨envTab_x h0 hx, ⟨t1, p1, var_x h1 hx⟩, ⟨t2, p2, var_x h2 hx⟩, m, ?_⟩
  have hb := hx.below.block _ (cell_lt h3)
  unfold World.cell? at h3 ⊢
  simp only [hb]
  exact h3
theorem c_DecimalV (z : Int) (w : World) (h0 : -9223372036854775808 ≤ z) (h1 : z ≤ 9223372036854775807) (he : EnvOk w) : Calls Tryz.prog 48 #[.int .i64 z] w fun e w' => e = .returned (.string ⟨(Lib.itoa z).toArray⟩) ∧ IsX w w' := by
  have HT := hide he.1
  clear he
  go_enter Tryz.func48, Tryz.ntmps48
  go_wp2_with fail
  refine (Tryz.strconv_FormatInt_10 z h0 h1 w HT.out).mono ?_
  rintro e w' ⟨rfl, k, os, hw⟩
  have hx : IsX w w' := by rw [hw]; exact ⟨⟨_, os⟩, rfl⟩
  clear hw
  go_wp2_with fail
  go_ret
  exact ⟨rfl, hx⟩
theorem parse_bd {l : List UInt8} {v : Int} (h : Lib.parseIntB 64 l = .ok v) : -9223372036854775808 ≤ v ∧ v ≤ 9223372036854775807 := by
  cases l with
  | nil => cases h
  | cons c r =>
    unfold Lib.parseIntB at h
    simp only at h
    split at h
    · cases h
    · cases h
    · split at h
      · cases h
      · split at h
        · cases h
        · injection h with h
          subst h
          split <;> omega
theorem parse_nil (v : Int) : Lib.parseIntB 64 [] ≠ .ok v := fun h => by cases h
theorem parse_else {l : List UInt8} (h1 : ¬ ∃ v, Lib.parseIntB 64 l = .ok v) (h2 : ¬ Lib.parseIntB 64 l = .range) : Lib.parseIntB 64 l = Lib.parseIntB 64 [] := by
  cases h : Lib.parseIntB 64 l
  · exact absurd ⟨_, h⟩ h1
  · rfl
  · exact absurd h h2
theorem trim_digs (s : ByteArray) : Lib.trimPrefix s.data.toList ((⟨#[45]⟩ : ByteArray)).data.toList = digsOf s.data.toList := by
  unfold Lib.trimPrefix digsOf
  cases hl : s.data.toList with
  | nil => simp
  | cons c r =>
    by_cases e : c = 45
    · subst e; simp [Lib.hasPrefix]
    · simp [Lib.hasPrefix, e, Ne.symm e]
theorem isX_bytes (w : World) (e : TypeId) (t : ByteArray) : IsX w (Lib.bytesWorld w e t) :=
  IsX.of_below (Lib.bytesWorld_below _ _ _)
theorem num_len_bad {l : List UInt8} (h : (digsOf l).length < 1 ∨ 18 < (digsOf l).length) : numOk l = false := by
  unfold numOk
  rcases h with h | h
  · rw [show decide (1 ≤ (digsOf l).length) = false from decide_eq_false (by omega)]; simp
  · rw [show decide ((digsOf l).length ≤ 18) = false from decide_eq_false (by omega)]; simp
set_option maxRecDepth 100000 in
set_option maxHeartbeats 3200000 in
theorem c_ReadDecimal (s : ByteArray) (w : World) (hs : s.size ≤ 4294967296) (he : EnvOk w) :
    Calls Tryz.prog 47 #[.string s] w fun e w' => e = .returned (.tuple #[.int .i64 (numR s.data.toList), .bool (numOk s.data.toList)]) ∧ IsX w w' := by
  have HE := hide he
  clear he
  obtain ⟨D, hD⟩ : ∃ D : ByteArray, D = ⟨(Lib.trimPrefix s.data.toList ((⟨#[45]⟩ : ByteArray)).data.toList).toArray⟩ := ⟨_, rfl⟩
  have hDm : D.size = (digsOf s.data.toList).length := by rw [hD, trim_digs]; rfl
  obtain ⟨m, hm⟩ : ∃ m, m = D.size := ⟨_, rfl⟩
  have HD := hide hD
  rw [← hm] at hDm
  have HM := hide hDm
  have hm2 := hm.symm
  clear hD hDm hm
  by_cases hA : m < 1
  · have g0 : decide ((m : Int) < 1) = true := decide_eq_true (by omega)
    have HF := hide (num_len_bad (.inl (HM.out ▸ hA)))
    go_enter Tryz.func47, Tryz.ntmps47
    go_wp2_with fail
    refine (Tryz.strings_TrimPrefix s ⟨#[45]⟩ w).mono ?_
    rw [← HD.out]
    rintro e w' ⟨rfl, rfl⟩
    go_wp2_with fail
    go_ret2
    exact ⟨by rw [num_r_false HF.out, HF.out]; rfl, IsX.refl _⟩
  have g0 : decide ((m : Int) < 1) = false := decide_eq_false (by omega)
  by_cases hB : 18 < m
  · have g1 : decide ((m : Int) > 18) = true := decide_eq_true (by omega)
    have HF := hide (num_len_bad (.inr (HM.out ▸ hB)))
    go_enter Tryz.func47, Tryz.ntmps47
    go_wp2_with fail
    refine (Tryz.strings_TrimPrefix s ⟨#[45]⟩ w).mono ?_
    rw [← HD.out]
    rintro e w' ⟨rfl, rfl⟩
    go_wp2_with fail
    go_ret2
    exact ⟨by rw [num_r_false HF.out, HF.out]; rfl, IsX.refl _⟩
  have g1 : decide ((m : Int) > 18) = false := decide_eq_false (by omega)
  by_cases hv : ∃ v, Lib.parseIntB 64 s.data.toList = .ok v
  · obtain ⟨v, hP⟩ := hv
    have hv := parse_bd hP
    have HV := hide hv
    have HS := hide (num_same (by have := HM.out; omega) (by have := HM.out; omega) hP)
    have HP := hide hP
    clear hv hP
    go_enter Tryz.func47, Tryz.ntmps47
    go_wp2_with fail
    refine (Tryz.strings_TrimPrefix s ⟨#[45]⟩ w).mono ?_
    rw [← HD.out]
    rintro e w' ⟨rfl, rfl⟩
    go_wp2_with fail
    refine (Tryz.strconv_ParseInt_10_at64_ok s (by omega) v HP.out _).mono ?_
    rintro e w2 ⟨rfl, hw⟩
    have hx : IsX w' w2 := by
      rcases hw with rfl | ⟨t, rfl⟩
      · exact IsX.refl _
      · exact isX_bytes _ _ _
    clear hw
    have HX := hide hx
    clear hx
    by_cases hq : Lib.itoa v = s.data.toList
    · have hT := HS.out.1.1 hq
      have hbs : ((⟨(Lib.itoa v).toArray⟩ : ByteArray)) = s := by rw [hq]
      have HR := hide (show numR s.data.toList = v by unfold numR; rw [if_pos hT]; exact (HS.out.2 hT).symm)
      have HT := hide hT
      clear hT hq
      go_wp2_with (go_at_call 48; refine (c_DecimalV v _ HV.out.1 HV.out.2 (HE.out.x HX.out)).mono ?_; rintro e w3 ⟨rfl, hx3⟩; have HX3 := hide (HX.out.trans hx3); clear hx3; rw [hbs])
      go_ret2
      exact ⟨by rw [HR.out, HT.out]; rfl, HX3.out⟩
    · have hF : numOk s.data.toList = false := by
        cases hk : numOk s.data.toList
        · rfl
        · exact absurd (HS.out.1.2 hk) hq
      have HF := hide hF
      obtain ⟨B, hB2⟩ : ∃ B : ByteArray, B = ⟨(Lib.itoa v).toArray⟩ := ⟨_, rfl⟩
      have hne : ¬ B = s := fun e => hq (by rw [← e, hB2])
      have hbs : (B.toList == s.toList) = false := by
        rw [beq_eq_false_iff_ne, Lib.toList_data, Lib.toList_data]
        intro e
        exact hne (ByteArray.ext (Array.toList_inj.1 e))
      have HB := hide (show ∀ W, EnvOk W → Calls Tryz.prog 48 #[.int .i64 v] W fun e w' => e = .returned (.string B) ∧ IsX W w' from fun W hW => by rw [hB2]; exact c_DecimalV v W HV.out.1 HV.out.2 hW)
      clear hF hq hne hB2
      go_wp2_with (go_at_call 48; refine (HB.out _ (HE.out.x HX.out)).mono ?_; rintro e w3 ⟨rfl, hx3⟩; have HX3 := hide (HX.out.trans hx3); clear hx3)
      go_ret2
      exact ⟨by rw [num_r_false HF.out, HF.out]; rfl, HX3.out⟩
  by_cases hP : Lib.parseIntB 64 s.data.toList = .range
  · clear hv
    have HP := hide hP
    have HF := hide (num_bad (l := s.data.toList) (fun v hv => by rw [HP.out] at hv; cases hv))
    clear hP
    obtain ⟨tp, pv, hvar⟩ := HE.out.2.2.1
    go_enter Tryz.func47, Tryz.ntmps47
    go_wp2_with fail
    refine (Tryz.strings_TrimPrefix s ⟨#[45]⟩ w).mono ?_
    rw [← HD.out]
    rintro e w' ⟨rfl, rfl⟩
    go_wp2_with fail
    refine (Tryz.strconv_ParseInt_10_at64_range_var s (by omega) HP.out tp pv _ hvar).mono ?_
    rintro e w2 ⟨N, rfl, hN, hcell, hbel⟩
    have hx := IsX.of_below hbel
    clear hcell hbel hvar hN
    go_wp2_with fail
    go_ret2
    exact ⟨by rw [num_r_false HF.out, HF.out]; rfl, hx⟩
  have hP : Lib.parseIntB 64 s.data.toList = Lib.parseIntB 64 [] := parse_else hv hP
  · clear hv
    have HP := hide hP
    have HF := hide (num_bad (l := s.data.toList) (fun v hv => by rw [HP.out] at hv; exact parse_nil v hv))
    clear hP
    obtain ⟨tp, pv, hvar⟩ := HE.out.2.1
    go_enter Tryz.func47, Tryz.ntmps47
    go_wp2_with fail
    refine (Tryz.strings_TrimPrefix s ⟨#[45]⟩ w).mono ?_
    rw [← HD.out]
    rintro e w' ⟨rfl, rfl⟩
    go_wp2_with fail
    refine (Tryz.strconv_ParseInt_10_at64_syntax_var s (by omega) HP.out tp pv _ hvar).mono ?_
    rintro e w2 ⟨N, rfl, hN, hcell, hbel⟩
    have hx := IsX.of_below hbel
    clear hcell hbel hvar hN
    go_wp2_with fail
    go_ret2
    exact ⟨by rw [num_r_false HF.out, HF.out]; rfl, hx⟩
end Go.Proofs.YtmipphgekcdaoaaGreatDoor
