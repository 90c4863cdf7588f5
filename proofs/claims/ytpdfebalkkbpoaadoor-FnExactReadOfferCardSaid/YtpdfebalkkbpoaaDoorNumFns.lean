/- A decimal number read: l01Number of the reference. Conditions: texts of at most 2^32 bytes. -/
import Derived.Test.YtpdfebalkkbpoaaDoorNumLaw
import Derived.Test.YtpdfebalkkbpoaaDoorSplitFns
namespace Go.Proofs.YtpdfebalkkbpoaaDoor
set_option linter.unusedVariables false
open Go.RowKit

def numR (l : List UInt8) : Int := if numOk l = true then numV l else 0
def decTo (l : List UInt8) (a i : Nat) : List UInt8 := (l.take i).drop a
theorem decTo_succ {l : List UInt8} {a i : Nat} (ha : a ≤ i) (hi : i < l.length) : decTo l a (i + 1) = decTo l a i ++ [l[i]] := by
  unfold decTo
  rw [List.take_succ_eq_append_getElem hi, List.drop_append_of_le_length (by rw [List.length_take]; omega)]
theorem decTo_end (l : List UInt8) (a : Nat) : decTo l a l.length = l.drop a := by simp [decTo]
theorem decTo_len {l : List UInt8} {a i : Nat} (hi : i ≤ l.length) : (decTo l a i).length = i - a := by simp [decTo]; omega
theorem decTo_mem {l : List UInt8} {a i : Nat} (ha : a ≤ i) (hi : i < l.length) : l[i] ∈ l.drop a := by
  rw [List.mem_drop_iff_getElem]
  exact ⟨i - a, by omega, by congr 1; omega⟩
theorem digs_at {l : List UInt8} : digsOf l = l.drop (if l.head? = some 45 then 1 else 0) := by
  unfold digsOf
  split <;> simp
theorem numOk_at (l : List UInt8) (a : Nat) (h : digsOf l = l.drop a) : numOk l = (decide (1 ≤ l.length - a) && decide (l.length - a ≤ 18) && !(l[a]? == some 48 && decide (1 < l.length)) && (l.drop a).all isDig) := by
  unfold numOk
  rw [h, List.length_drop, List.head?_drop]
theorem num_r_false {l : List UInt8} (h : numOk l = false) : numR l = 0 := by simp [numR, h]
theorem dec_step (n : Nat) (c : UInt8) (h : isDig c = true) : 10 * (n : Int) + ((c.toNat : Int) - 48) = ((n * 10 + (c.toNat - 48) : Nat) : Int) := by
  simp only [isDig, Bool.and_eq_true, decide_eq_true_eq] at h
  omega
set_option maxHeartbeats 800000 in
theorem c_l01Digit (c : UInt8) (w : World) : Calls Tryd.prog 29 #[.int .u8 c.toNat] w fun e w' => e = .returned (.bool (isDig c)) ∧ w = w' := by
  by_cases h1 : 48 ≤ c.toNat
  · by_cases h2 : c.toNat ≤ 57
    · have g0 : decide ((c.toNat : Int) ≥ 48) = true := decide_eq_true (by omega)
      have g1 : decide ((c.toNat : Int) ≤ 57) = true := decide_eq_true (by omega)
      have hr : isDig c = true := by simp [isDig, h1, h2]
      rw [hr]
      go_enter Tryd.func29, Tryd.ntmps29
      go_wp2_with fail
      go_ret
      exact ⟨rfl, rfl⟩
    · have g0 : decide ((c.toNat : Int) ≥ 48) = true := decide_eq_true (by omega)
      have g1 : decide ((c.toNat : Int) ≤ 57) = false := decide_eq_false (by omega)
      have hr : isDig c = false := by simp [isDig, h1, h2]
      rw [hr]
      go_enter Tryd.func29, Tryd.ntmps29
      go_wp2_with fail
      go_ret
      exact ⟨rfl, rfl⟩
  · have g0 : decide ((c.toNat : Int) ≥ 48) = false := decide_eq_false (by omega)
    have hr : isDig c = false := by simp [isDig]; omega
    rw [hr]
    go_enter Tryd.func29, Tryd.ntmps29
    go_wp2_with fail
    go_ret
    exact ⟨rfl, rfl⟩

set_option maxRecDepth 100000 in
set_option maxHeartbeats 6400000 in
theorem c_l01Number (s : ByteArray) (w : World) (hs : s.size ≤ 4294967296) :
    Calls Tryd.prog 20 #[.string s] w fun e w' => e = .returned (.tuple #[.int .i64 (numR s.data.toList), .bool (numOk s.data.toList)]) ∧ IsX w w' := by
  have HSZ := hide (show s.data.toList.length = s.size from rfl)
  obtain ⟨n, hn⟩ : ∃ n, n = s.size := ⟨_, rfl⟩
  rw [← hn] at hs
  by_cases hh : s.data.toList.head? = some 45
  · have hp : 0 < n := by
      rcases Nat.eq_zero_or_pos n with h0 | h0
      · exfalso
        have : s.data.toList = [] := List.eq_nil_of_length_eq_zero (by rw [HSZ.out, ← hn, h0])
        rw [this] at hh; cases hh
      · exact h0
    have g0 : decide ((n : Int) > 0) = true := decide_eq_true (by omega)
    have hs0 : 0 < s.size := by omega
    have hm : (((s[0]'hs0).toNat : Int) == 45) = true := by
      rw [List.head?_eq_getElem?, List.getElem?_eq_getElem (by rw [HSZ.out]; exact hs0)] at hh
      rw [show s[0]'hs0 = 45 from Option.some.inj hh]; rfl
    have hdg : digsOf s.data.toList = s.data.toList.drop 1 := by rw [digs_at, if_pos hh]
    by_cases hA : n = 1
    · have g1 : ((n : Int) == 1) = true := by rw [hA]; rfl
      have hF : numOk s.data.toList = false := by
        rw [numOk_at _ 1 hdg, HSZ.out, ← hn]
        rw [hA]; simp
      have HF := hide hF
      clear hF hA
      have hsz := hn.symm
      have HN := hide hn
      clear hn
      go_enter Tryd.func20, Tryd.ntmps20
      go_wp2_with fail
      go_ret2
      exact ⟨by rw [num_r_false HF.out, HF.out]; rfl, IsX.refl _⟩
    have g1 : ((n : Int) == 1) = false := by simp; omega
    by_cases hB : 18 < n - 1
    · have g2 : decide ((n : Int) - 1 > 18) = true := decide_eq_true (by omega)
      have hF : numOk s.data.toList = false := by
        rw [numOk_at _ 1 hdg, HSZ.out, ← hn]
        rw [show decide (n - 1 ≤ 18) = false from decide_eq_false (by omega)]; simp
      have HF := hide hF
      clear hF
      have hsz := hn.symm
      have HN := hide hn
      clear hn
      go_enter Tryd.func20, Tryd.ntmps20
      go_wp2_with fail
      go_ret2
      exact ⟨by rw [num_r_false HF.out, HF.out]; rfl, IsX.refl _⟩
    have g2 : decide ((n : Int) - 1 > 18) = false := decide_eq_false (by omega)
    have hsA : 1 < s.size := by omega
    have hgA : s.data.toList[1]? = some (s[1]'hsA) := List.getElem?_eq_getElem _
    by_cases hC : (s[1]'hsA).toNat = 48
    · have g3 : (((s[1]'hsA).toNat : Int) == 48) = true := by rw [hC]; rfl
      have hce : s[1]'hsA = 48 := UInt8.toNat_inj.1 hC
      by_cases hD : 1 < n
      · have g4 : decide ((n : Int) > 1) = true := decide_eq_true (by omega)
        have hF : numOk s.data.toList = false := by
          rw [numOk_at _ 1 hdg, HSZ.out, ← hn]
          rw [hgA, hce, show decide (1 < n) = true from decide_eq_true hD]; simp
        have HF := hide hF
        clear hF
        have hsz := hn.symm
        have HN := hide hn
        clear hn
        go_enter Tryd.func20, Tryd.ntmps20
        go_wp2_with fail
        go_ret2
        exact ⟨by rw [num_r_false HF.out, HF.out]; rfl, IsX.refl _⟩
      · omega
    · have g3 : (((s[1]'hsA).toNat : Int) == 48) = false := by simp; omega
      have hce : s[1]'hsA ≠ 48 := fun e => hC (by rw [e]; rfl)
      have HNO : Hid (numOk s.data.toList = (s.data.toList.drop 1).all isDig) := hide (by
        rw [numOk_at _ 1 hdg, HSZ.out, ← hn]
        rw [show decide (1 ≤ n - 1) = true from decide_eq_true (by omega), show decide (n - 1 ≤ 18) = true from decide_eq_true (by omega), hgA]; simp [hce])
      have HDG := hide hdg
      clear hdg
      have HN := hide hn
      have hsz := hn.symm
      clear hn
      go_enter Tryd.func20, Tryd.ntmps20
      go_wp2_with fail
      obtain ⟨y0, hy0⟩ : ∃ y, numR s.data.toList = y := ⟨_, rfl⟩
      go_loopw [5, 6] (fun nv iv wr => ∃ i : Nat, 1 ≤ i ∧ i ≤ n ∧ nv = .int .i64 ((valD 0 (decTo s.data.toList 1 i) : Nat) : Int) ∧ iv = .int .i64 i ∧ Hid ((decTo s.data.toList 1 i).all isDig = true) ∧ IsX w wr) (fun _ iv _ => n - (intOf iv).toNat)
      case atStart => exact ⟨1, Nat.le_refl _, by omega, by simp [decTo, valD], rfl, hide (by simp [decTo]), IsX.refl _⟩
      case round =>
        obtain ⟨i, hai, hi, rfl, rfl, HAL, p, rfl⟩ := hrel
        by_cases hlt : i < n
        · have hix : i < s.data.toList.length := by have := HN.out; have := HSZ.out; omega
          have hsn : i < s.size := by have := HN.out; omega
          have hsz := HN.out.symm
          cases hd : isDig (s[i]'hsn)
          · have hF : numOk s.data.toList = false := by
              have hq : (s.data.toList.drop 1).all isDig = false := by
                cases hh : (s.data.toList.drop 1).all isDig
                · rfl
                · have := List.all_eq_true.1 hh _ (decTo_mem hai hix)
                  rw [show s.data.toList[i] = s[i]'hsn from rfl, hd] at this
                  cases this
              rw [HNO.out, hq]
            have HF := hide hF
            clear hF hy0
            generalize valD 0 (decTo s.data.toList 1 i) = acc
            go_wp2_with (go_at_call 29; refine (cb (c_l01Digit (s[i]'hsn) _) hd).mono ?_; rintro e w' ⟨rfl, rfl⟩)
            go_ret2
            exact ⟨by rw [num_r_false HF.out, HF.out]; rfl, ⟨p, rfl⟩⟩
          · have hdl : decTo s.data.toList 1 (i + 1) = decTo s.data.toList 1 i ++ [s[i]'hsn] := decTo_succ hai hix
            have hall : (decTo s.data.toList 1 (i + 1)).all isDig = true := by rw [hdl, List.all_append, HAL.out]; simp [hd]
            have hlt1 : valD 0 (decTo s.data.toList 1 (i + 1)) < 1000000000000000000 := lt18 hall (by rw [decTo_len (by omega)]; omega)
            have hge : valD 0 (decTo s.data.toList 1 (i + 1)) = valD 0 (decTo s.data.toList 1 i) * 10 + ((s[i]'hsn).toNat - 48) := by rw [hdl, valD_snoc]
            have hb : 48 ≤ (s[i]'hsn).toNat ∧ (s[i]'hsn).toNat ≤ 57 := by simpa [isDig] using hd
            have HALL := hide hall
            have HGE := hide hge
            clear hdl hall hy0
            rw [hge] at hlt1
            clear hge
            generalize valD 0 (decTo s.data.toList 1 i) = acc at *
            obtain ⟨hb0, hb1⟩ := hb
            go_wp2_with (go_at_call 29; refine (cb (c_l01Digit (s[i]'hsn) _) hd).mono ?_; rintro e w' ⟨rfl, rfl⟩)
            go_roundw
            case rel => exact ⟨i + 1, by omega, by omega, by rw [HGE.out]; go_num, by go_num, HALL, ⟨p, rfl⟩⟩
            case measure => simp [intOf]; omega
        · obtain rfl : i = n := by omega
          have e : i = s.data.toList.length := by rw [HSZ.out]; exact HN.out
          have hT : numOk s.data.toList = true := by
            rw [HNO.out]
            have := HAL.out
            rw [e, decTo_end] at this
            rw [this]
          have hR : numR s.data.toList = -((valD 0 (decTo s.data.toList 1 i) : Nat) : Int) := by
            unfold numR numV
            rw [if_pos hT, HDG.out, e, decTo_end, if_pos hh]
          have hvb : valD 0 (decTo s.data.toList 1 i) < 1000000000000000000 := lt18 HAL.out (by rw [decTo_len (by omega)]; omega)
          have HT := hide hT
          have HR := hide hR
          clear hT hR e
          have hsz := HN.out.symm
          generalize valD 0 (decTo s.data.toList 1 i) = acc at *
          clear hy0
          go_wp2_with fail
          go_ret2
          exact ⟨by rw [HR.out, HT.out]; first | rfl | go_num, ⟨p, rfl⟩⟩
  · by_cases hp : 0 < n
    · have g0 : decide ((n : Int) > 0) = true := decide_eq_true (by omega)
      have hs0 : 0 < s.size := by omega
      have hm : (((s[0]'hs0).toNat : Int) == 45) = false := by
        cases hb : (((s[0]'hs0).toNat : Int) == 45)
        · rfl
        · exfalso
          refine hh ?_
          rw [List.head?_eq_getElem?, List.getElem?_eq_getElem (by rw [HSZ.out]; exact hs0)]
          exact congrArg some (UInt8.toNat_inj.1 (show (s[0]'hs0).toNat = 45 by have := eq_of_beq hb; omega))
      have hdg : digsOf s.data.toList = s.data.toList.drop 0 := by rw [digs_at, if_neg hh]
      by_cases hA : n = 0
      · have g1 : ((n : Int) == 0) = true := by rw [hA]; rfl
        have hF : numOk s.data.toList = false := by
          rw [numOk_at _ 0 hdg, HSZ.out, ← hn]
          rw [hA]; simp
        have HF := hide hF
        clear hF hA
        have hsz := hn.symm
        have HN := hide hn
        clear hn
        go_enter Tryd.func20, Tryd.ntmps20
        go_wp2_with fail
        go_ret2
        exact ⟨by rw [num_r_false HF.out, HF.out]; rfl, IsX.refl _⟩
      have g1 : ((n : Int) == 0) = false := by simp; omega
      by_cases hB : 18 < n - 0
      · have g2 : decide ((n : Int) - 0 > 18) = true := decide_eq_true (by omega)
        have hF : numOk s.data.toList = false := by
          rw [numOk_at _ 0 hdg, HSZ.out, ← hn]
          rw [show decide (n - 0 ≤ 18) = false from decide_eq_false (by omega)]; simp
        have HF := hide hF
        clear hF
        have hsz := hn.symm
        have HN := hide hn
        clear hn
        go_enter Tryd.func20, Tryd.ntmps20
        go_wp2_with fail
        go_ret2
        exact ⟨by rw [num_r_false HF.out, HF.out]; rfl, IsX.refl _⟩
      have g2 : decide ((n : Int) - 0 > 18) = false := decide_eq_false (by omega)
      have hsA : 0 < s.size := by omega
      have hgA : s.data.toList[0]? = some (s[0]'hsA) := List.getElem?_eq_getElem _
      by_cases hC : (s[0]'hsA).toNat = 48
      · have g3 : (((s[0]'hsA).toNat : Int) == 48) = true := by rw [hC]; rfl
        have hce : s[0]'hsA = 48 := UInt8.toNat_inj.1 hC
        by_cases hD : 1 < n
        · have g4 : decide ((n : Int) > 1) = true := decide_eq_true (by omega)
          have hF : numOk s.data.toList = false := by
            rw [numOk_at _ 0 hdg, HSZ.out, ← hn]
            rw [hgA, hce, show decide (1 < n) = true from decide_eq_true hD]; simp
          have HF := hide hF
          clear hF
          have hsz := hn.symm
          have HN := hide hn
          clear hn
          go_enter Tryd.func20, Tryd.ntmps20
          go_wp2_with fail
          go_ret2
          exact ⟨by rw [num_r_false HF.out, HF.out]; rfl, IsX.refl _⟩
        · have g4 : decide ((n : Int) > 1) = false := decide_eq_false (by omega)
          have HNO : Hid (numOk s.data.toList = (s.data.toList.drop 0).all isDig) := hide (by
            rw [numOk_at _ 0 hdg, HSZ.out, ← hn]
            rw [show decide (1 ≤ n - 0) = true from decide_eq_true (by omega), show decide (n - 0 ≤ 18) = true from decide_eq_true (by omega), show decide (1 < n) = false from decide_eq_false hD]; simp)
          have HDG := hide hdg
          clear hdg
          have HN := hide hn
          have hsz := hn.symm
          clear hn
          go_enter Tryd.func20, Tryd.ntmps20
          go_wp2_with fail
          obtain ⟨y0, hy0⟩ : ∃ y, numR s.data.toList = y := ⟨_, rfl⟩
          go_loopw [5, 6] (fun nv iv wr => ∃ i : Nat, 0 ≤ i ∧ i ≤ n ∧ nv = .int .i64 ((valD 0 (decTo s.data.toList 0 i) : Nat) : Int) ∧ iv = .int .i64 i ∧ Hid ((decTo s.data.toList 0 i).all isDig = true) ∧ IsX w wr) (fun _ iv _ => n - (intOf iv).toNat)
          case atStart => exact ⟨0, Nat.le_refl _, by omega, by simp [decTo, valD], rfl, hide (by simp [decTo]), IsX.refl _⟩
          case round =>
            obtain ⟨i, hai, hi, rfl, rfl, HAL, p, rfl⟩ := hrel
            by_cases hlt : i < n
            · have hix : i < s.data.toList.length := by have := HN.out; have := HSZ.out; omega
              have hsn : i < s.size := by have := HN.out; omega
              have hsz := HN.out.symm
              cases hd : isDig (s[i]'hsn)
              · have hF : numOk s.data.toList = false := by
                  have hq : (s.data.toList.drop 0).all isDig = false := by
                    cases hh : (s.data.toList.drop 0).all isDig
                    · rfl
                    · have := List.all_eq_true.1 hh _ (decTo_mem hai hix)
                      rw [show s.data.toList[i] = s[i]'hsn from rfl, hd] at this
                      cases this
                  rw [HNO.out, hq]
                have HF := hide hF
                clear hF hy0
                generalize valD 0 (decTo s.data.toList 0 i) = acc
                go_wp2_with (go_at_call 29; refine (cb (c_l01Digit (s[i]'hsn) _) hd).mono ?_; rintro e w' ⟨rfl, rfl⟩)
                go_ret2
                exact ⟨by rw [num_r_false HF.out, HF.out]; rfl, ⟨p, rfl⟩⟩
              · have hdl : decTo s.data.toList 0 (i + 1) = decTo s.data.toList 0 i ++ [s[i]'hsn] := decTo_succ hai hix
                have hall : (decTo s.data.toList 0 (i + 1)).all isDig = true := by rw [hdl, List.all_append, HAL.out]; simp [hd]
                have hlt1 : valD 0 (decTo s.data.toList 0 (i + 1)) < 1000000000000000000 := lt18 hall (by rw [decTo_len (by omega)]; omega)
                have hge : valD 0 (decTo s.data.toList 0 (i + 1)) = valD 0 (decTo s.data.toList 0 i) * 10 + ((s[i]'hsn).toNat - 48) := by rw [hdl, valD_snoc]
                have hb : 48 ≤ (s[i]'hsn).toNat ∧ (s[i]'hsn).toNat ≤ 57 := by simpa [isDig] using hd
                have HALL := hide hall
                have HGE := hide hge
                clear hdl hall hy0
                rw [hge] at hlt1
                clear hge
                generalize valD 0 (decTo s.data.toList 0 i) = acc at *
                obtain ⟨hb0, hb1⟩ := hb
                go_wp2_with (go_at_call 29; refine (cb (c_l01Digit (s[i]'hsn) _) hd).mono ?_; rintro e w' ⟨rfl, rfl⟩)
                go_roundw
                case rel => exact ⟨i + 1, by omega, by omega, by rw [HGE.out]; go_num, by go_num, HALL, ⟨p, rfl⟩⟩
                case measure => simp [intOf]; omega
            · obtain rfl : i = n := by omega
              have e : i = s.data.toList.length := by rw [HSZ.out]; exact HN.out
              have hT : numOk s.data.toList = true := by
                rw [HNO.out]
                have := HAL.out
                rw [e, decTo_end] at this
                rw [this]
              have hR : numR s.data.toList = ((valD 0 (decTo s.data.toList 0 i) : Nat) : Int) := by
                unfold numR numV
                rw [if_pos hT, HDG.out, e, decTo_end, if_neg hh]
              have hvb : valD 0 (decTo s.data.toList 0 i) < 1000000000000000000 := lt18 HAL.out (by rw [decTo_len (by omega)]; omega)
              have HT := hide hT
              have HR := hide hR
              clear hT hR e
              have hsz := HN.out.symm
              generalize valD 0 (decTo s.data.toList 0 i) = acc at *
              clear hy0
              go_wp2_with fail
              go_ret2
              exact ⟨by rw [HR.out, HT.out]; first | rfl | go_num, ⟨p, rfl⟩⟩
      · have g3 : (((s[0]'hsA).toNat : Int) == 48) = false := by simp; omega
        have hce : s[0]'hsA ≠ 48 := fun e => hC (by rw [e]; rfl)
        have HNO : Hid (numOk s.data.toList = (s.data.toList.drop 0).all isDig) := hide (by
          rw [numOk_at _ 0 hdg, HSZ.out, ← hn]
          rw [show decide (1 ≤ n - 0) = true from decide_eq_true (by omega), show decide (n - 0 ≤ 18) = true from decide_eq_true (by omega), hgA]; simp [hce])
        have HDG := hide hdg
        clear hdg
        have HN := hide hn
        have hsz := hn.symm
        clear hn
        go_enter Tryd.func20, Tryd.ntmps20
        go_wp2_with fail
        obtain ⟨y0, hy0⟩ : ∃ y, numR s.data.toList = y := ⟨_, rfl⟩
        go_loopw [5, 6] (fun nv iv wr => ∃ i : Nat, 0 ≤ i ∧ i ≤ n ∧ nv = .int .i64 ((valD 0 (decTo s.data.toList 0 i) : Nat) : Int) ∧ iv = .int .i64 i ∧ Hid ((decTo s.data.toList 0 i).all isDig = true) ∧ IsX w wr) (fun _ iv _ => n - (intOf iv).toNat)
        case atStart => exact ⟨0, Nat.le_refl _, by omega, by simp [decTo, valD], rfl, hide (by simp [decTo]), IsX.refl _⟩
        case round =>
          obtain ⟨i, hai, hi, rfl, rfl, HAL, p, rfl⟩ := hrel
          by_cases hlt : i < n
          · have hix : i < s.data.toList.length := by have := HN.out; have := HSZ.out; omega
            have hsn : i < s.size := by have := HN.out; omega
            have hsz := HN.out.symm
            cases hd : isDig (s[i]'hsn)
            · have hF : numOk s.data.toList = false := by
                have hq : (s.data.toList.drop 0).all isDig = false := by
                  cases hh : (s.data.toList.drop 0).all isDig
                  · rfl
                  · have := List.all_eq_true.1 hh _ (decTo_mem hai hix)
                    rw [show s.data.toList[i] = s[i]'hsn from rfl, hd] at this
                    cases this
                rw [HNO.out, hq]
              have HF := hide hF
              clear hF hy0
              generalize valD 0 (decTo s.data.toList 0 i) = acc
              go_wp2_with (go_at_call 29; refine (cb (c_l01Digit (s[i]'hsn) _) hd).mono ?_; rintro e w' ⟨rfl, rfl⟩)
              go_ret2
              exact ⟨by rw [num_r_false HF.out, HF.out]; rfl, ⟨p, rfl⟩⟩
            · have hdl : decTo s.data.toList 0 (i + 1) = decTo s.data.toList 0 i ++ [s[i]'hsn] := decTo_succ hai hix
              have hall : (decTo s.data.toList 0 (i + 1)).all isDig = true := by rw [hdl, List.all_append, HAL.out]; simp [hd]
              have hlt1 : valD 0 (decTo s.data.toList 0 (i + 1)) < 1000000000000000000 := lt18 hall (by rw [decTo_len (by omega)]; omega)
              have hge : valD 0 (decTo s.data.toList 0 (i + 1)) = valD 0 (decTo s.data.toList 0 i) * 10 + ((s[i]'hsn).toNat - 48) := by rw [hdl, valD_snoc]
              have hb : 48 ≤ (s[i]'hsn).toNat ∧ (s[i]'hsn).toNat ≤ 57 := by simpa [isDig] using hd
              have HALL := hide hall
              have HGE := hide hge
              clear hdl hall hy0
              rw [hge] at hlt1
              clear hge
              generalize valD 0 (decTo s.data.toList 0 i) = acc at *
              obtain ⟨hb0, hb1⟩ := hb
              go_wp2_with (go_at_call 29; refine (cb (c_l01Digit (s[i]'hsn) _) hd).mono ?_; rintro e w' ⟨rfl, rfl⟩)
              go_roundw
              case rel => exact ⟨i + 1, by omega, by omega, by rw [HGE.out]; go_num, by go_num, HALL, ⟨p, rfl⟩⟩
              case measure => simp [intOf]; omega
          · obtain rfl : i = n := by omega
            have e : i = s.data.toList.length := by rw [HSZ.out]; exact HN.out
            have hT : numOk s.data.toList = true := by
              rw [HNO.out]
              have := HAL.out
              rw [e, decTo_end] at this
              rw [this]
            have hR : numR s.data.toList = ((valD 0 (decTo s.data.toList 0 i) : Nat) : Int) := by
              unfold numR numV
              rw [if_pos hT, HDG.out, e, decTo_end, if_neg hh]
            have hvb : valD 0 (decTo s.data.toList 0 i) < 1000000000000000000 := lt18 HAL.out (by rw [decTo_len (by omega)]; omega)
            have HT := hide hT
            have HR := hide hR
            clear hT hR e
            have hsz := HN.out.symm
            generalize valD 0 (decTo s.data.toList 0 i) = acc at *
            clear hy0
            go_wp2_with fail
            go_ret2
            exact ⟨by rw [HR.out, HT.out]; first | rfl | go_num, ⟨p, rfl⟩⟩
    · have g0 : decide ((n : Int) > 0) = false := decide_eq_false (by omega)
      have hA : n = 0 := by omega
      have hdg : digsOf s.data.toList = s.data.toList.drop 0 := by rw [digs_at, if_neg hh]
      have g1 : ((n : Int) == 0) = true := by rw [hA]; rfl
      have hF : numOk s.data.toList = false := by
        rw [numOk_at _ 0 hdg, HSZ.out, ← hn]
        rw [hA]; simp
      have HF := hide hF
      clear hF hA
      have hsz := hn.symm
      have HN := hide hn
      clear hn
      go_enter Tryd.func20, Tryd.ntmps20
      go_wp2_with fail
      go_ret2
      exact ⟨by rw [num_r_false HF.out, HF.out]; rfl, IsX.refl _⟩
end Go.Proofs.YtpdfebalkkbpoaaDoor
