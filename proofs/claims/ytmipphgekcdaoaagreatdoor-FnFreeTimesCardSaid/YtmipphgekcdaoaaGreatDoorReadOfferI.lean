/- An offer read: ReadOffer of the program. Conditions: texts of at most 2^31 bytes; the library's variables as the rows lay them. -/
import Derived.Test.YtmipphgekcdaoaaGreatDoorOfferLaw
import Derived.RegionTactic
import Derived.ChangeAlike
import Derived.BigRegion
namespace Go.Proofs.YtmipphgekcdaoaaGreatDoor
set_option linter.unusedVariables false
open Go.RowKit

set_option maxRecDepth 100000 in
set_option maxHeartbeats 6400000 in
theorem i_ReadOffer (s : ByteArray) (w : World) (hs : s.size ≤ 2147483648) (he : EnvOk w) :
    Calls Tryz.prog 11 #[.string s] w fun e w' => e = .returned (.tuple #[offerW (offerZI s), .bool (offerI s)]) ∧ IsX w w' := by
  have hx0 : IsX w (w.alloc (.cells #[.string ⟨#[]⟩, .string ⟨#[]⟩, .int .i64 0, .int .i64 0, .int .i64 0] 33)) := (IsX.refl w).alloc _
  have hB0 : Blk (w.alloc (.cells #[.string ⟨#[]⟩, .string ⟨#[]⟩, .int .i64 0, .int .i64 0, .int .i64 0] 33)) w.heap.size 33 #[.string ⟨#[]⟩, .string ⟨#[]⟩, .int .i64 0, .int .i64 0, .int .i64 0] := Blk.new _ _ _
  have hLs : ∀ p ∈ (wordsOf (splitS 32 s)), p.size ≤ s.size := fun p hp => splitS_size 32 s p (List.mem_filter.1 hp).1
  obtain ⟨L, hL⟩ : ∃ L, L = (wordsOf (splitS 32 s)) := ⟨_, rfl⟩
  have HLC : Hid (∀ W, IsX w W → Calls Tryz.prog 31 #[.string s] W fun e w' => ∃ A' c', e = .returned (.slice A' L.length c') ∧ w'.ownsRow W.heap.size 9 1 (.slice A' L.length c') L.length (L.flatMap strC) ∧ IsX W w') := hide (by rw [hL]; exact fun W hW => c_SplitWords s W (by omega) (he.x hW))
  have HLL : Hid (∀ p W, p.size ≤ s.size → IsX w W → Calls Tryz.prog 32 #[.string p] W (LPost W p)) := hide (fun p W hp hW => i_ReadList p W (by omega) (he.x hW))
  rw [← hL] at hLs
  have HL0 := hide hL
  clear hL
  go_enter Tryz.func11, Tryz.ntmps11
  go_wp2_with fail
  generalize w.alloc (.cells #[.string ⟨#[]⟩, .string ⟨#[]⟩, .int .i64 0, .int .i64 0, .int .i64 0] 33) = w0 at *
  refine (HLC.out _ hx0).mono ?_
  clear HLC
  rintro e ws ⟨A, cap, rfl, hO, hx1⟩
  have HB := hB0.x hx1
  have HX := hx0.trans hx1
  by_cases h3 : L.length = 3
  case neg =>
    have HB0 := hide (offerI_no (HL0.out ▸ three_len h3))
    obtain ⟨n, hn⟩ : ∃ n, n = L.length := ⟨_, rfl⟩
    rw [← hn] at h3 ⊢
    have g : ((n : Int) != 3) = true := by rw [bne_iff_ne]; omega
    clear hO hn
    have f0 := HB.cell 0
    have f1 := HB.cell 1
    have f2 := HB.cell 2
    have f3 := HB.cell 3
    have f4 := HB.cell 4
    have z0 := HB.frozen 0
    have z1 := HB.frozen 1
    have z2 := HB.frozen 2
    have z3 := HB.frozen 3
    have z4 := HB.frozen 4
    have hlt5 := HB.lt
    simp at f0 f1 f2 f3 f4
    go_wp2_with fail
    have hX6 : IsX w (((((ws.setCell ⟨w.heap.size, 0, none⟩ (.string ⟨#[]⟩)).setCell ⟨w.heap.size, 1, none⟩ (.string ⟨#[]⟩)).setCell ⟨w.heap.size, 2, none⟩ (.int .i64 0)).setCell ⟨w.heap.size, 3, none⟩ (.int .i64 0)).setCell ⟨w.heap.size, 4, none⟩ (.int .i64 0)) := (IsX.setCell (a := ⟨w.heap.size, 4, none⟩) (IsX.setCell (a := ⟨w.heap.size, 3, none⟩) (IsX.setCell (a := ⟨w.heap.size, 2, none⟩) (IsX.setCell (a := ⟨w.heap.size, 1, none⟩) (IsX.setCell (a := ⟨w.heap.size, 0, none⟩) HX (Nat.le_refl _) _) (Nat.le_refl _) _) (Nat.le_refl _) _) (Nat.le_refl _) _) (Nat.le_refl _) _)
    have hB6 := (((((HB.set_ 0 (.string ⟨#[]⟩)).set_ 1 (.string ⟨#[]⟩)).set_ 2 (.int .i64 0)).set_ 3 (.int .i64 0)).set_ 4 (.int .i64 0))
    clear f0 f1 f2 f3 f4 z0 z1 z2 z3 z4
    generalize (((((ws.setCell ⟨w.heap.size, 0, none⟩ (.string ⟨#[]⟩)).setCell ⟨w.heap.size, 1, none⟩ (.string ⟨#[]⟩)).setCell ⟨w.heap.size, 2, none⟩ (.int .i64 0)).setCell ⟨w.heap.size, 3, none⟩ (.int .i64 0)).setCell ⟨w.heap.size, 4, none⟩ (.int .i64 0)) = V6 at *
    have r0 := hB6.cell 0
    have r1 := hB6.cell 1
    have r2 := hB6.cell 2
    have r3 := hB6.cell 3
    have r4 := hB6.cell 4
    simp at r0 r1 r2 r3 r4

    rw [HB0.out.1, HB0.out.2]
    exact bodyPost_ret (v := .tuple #[offerW zeroOfferW, .bool false]) (by simp [results, Tryz.results11, go_sem, r0, r1, r2, r3, r4, offerW, zeroOfferW]) rfl ⟨rfl, hX6⟩
  have HR : Hid (Rd strC 1 ws A L) := hide (Rd.of_own (by omega) strC_len hO)
  rw [h3]
  clear hO
  obtain ⟨a, b, c, rfl⟩ : ∃ a b c, L = [a, b, c] := by
    match L, h3 with
    | [a, b, c], _ => exact ⟨a, b, c, rfl⟩
  clear h3
  have ha := hLs a (by simp)
  have hb' := hLs b (by simp)
  have hc' := hLs c (by simp)
  have HWF := hide (show ∀ x0 x1 x2 : Int, a.size ≤ maxLen ∧ b.size ≤ maxLen from fun _ _ _ => ⟨by simp only [maxLen]; omega, by simp only [maxLen]; omega⟩)
  obtain ⟨g0, o0, rfl, hb, c2⟩ := str_rd HR.out (show ([a, b, c] : List ByteArray)[2]? = some c from rfl)
  go_wp2_with fail
  refine (HLL.out c ws hc' HX).mono ?_
  clear HLL
  rintro e w2 ⟨A2, cap2, rfl, hO2, hx2⟩
  have HR2 := hide (HR.out.x hx2)
  replace HB := HB.x hx2
  replace HX := HX.trans hx2
  clear c2 hb HR hLs
  cases hk : listOk c
  · have HB0 := hide (offerI_no (HL0.out ▸ three_list hk))
    clear hO2 hk
    have f0 := HB.cell 0
    have f1 := HB.cell 1
    have f2 := HB.cell 2
    have f3 := HB.cell 3
    have f4 := HB.cell 4
    have z0 := HB.frozen 0
    have z1 := HB.frozen 1
    have z2 := HB.frozen 2
    have z3 := HB.frozen 3
    have z4 := HB.frozen 4
    have hlt5 := HB.lt
    simp at f0 f1 f2 f3 f4
    go_wp2_with fail
    have hX6 : IsX w (((((w2.setCell ⟨w.heap.size, 0, none⟩ (.string ⟨#[]⟩)).setCell ⟨w.heap.size, 1, none⟩ (.string ⟨#[]⟩)).setCell ⟨w.heap.size, 2, none⟩ (.int .i64 0)).setCell ⟨w.heap.size, 3, none⟩ (.int .i64 0)).setCell ⟨w.heap.size, 4, none⟩ (.int .i64 0)) := (IsX.setCell (a := ⟨w.heap.size, 4, none⟩) (IsX.setCell (a := ⟨w.heap.size, 3, none⟩) (IsX.setCell (a := ⟨w.heap.size, 2, none⟩) (IsX.setCell (a := ⟨w.heap.size, 1, none⟩) (IsX.setCell (a := ⟨w.heap.size, 0, none⟩) HX (Nat.le_refl _) _) (Nat.le_refl _) _) (Nat.le_refl _) _) (Nat.le_refl _) _) (Nat.le_refl _) _)
    have hB6 := (((((HB.set_ 0 (.string ⟨#[]⟩)).set_ 1 (.string ⟨#[]⟩)).set_ 2 (.int .i64 0)).set_ 3 (.int .i64 0)).set_ 4 (.int .i64 0))
    clear f0 f1 f2 f3 f4 z0 z1 z2 z3 z4
    generalize (((((w2.setCell ⟨w.heap.size, 0, none⟩ (.string ⟨#[]⟩)).setCell ⟨w.heap.size, 1, none⟩ (.string ⟨#[]⟩)).setCell ⟨w.heap.size, 2, none⟩ (.int .i64 0)).setCell ⟨w.heap.size, 3, none⟩ (.int .i64 0)).setCell ⟨w.heap.size, 4, none⟩ (.int .i64 0)) = V6 at *
    have r0 := hB6.cell 0
    have r1 := hB6.cell 1
    have r2 := hB6.cell 2
    have r3 := hB6.cell 3
    have r4 := hB6.cell 4
    simp at r0 r1 r2 r3 r4

    rw [HB0.out.1, HB0.out.2]
    exact bodyPost_ret (v := .tuple #[offerW zeroOfferW, .bool false]) (by simp [results, Tryz.results11, go_sem, r0, r1, r2, r3, r4, offerW, zeroOfferW]) rfl ⟨rfl, hX6⟩
  by_cases h5 : (listZ c).length = 3
  case neg =>
    have HB0 := hide (offerI_no (HL0.out ▸ three_nums h5))
    obtain ⟨n, hn⟩ : ∃ n, n = (listZ c).length := ⟨_, rfl⟩
    rw [← hn] at h5 ⊢
    have g : ((n : Int) != 3) = true := by rw [bne_iff_ne]; omega
    clear hO2 hn hk
    have f0 := HB.cell 0
    have f1 := HB.cell 1
    have f2 := HB.cell 2
    have f3 := HB.cell 3
    have f4 := HB.cell 4
    have z0 := HB.frozen 0
    have z1 := HB.frozen 1
    have z2 := HB.frozen 2
    have z3 := HB.frozen 3
    have z4 := HB.frozen 4
    have hlt5 := HB.lt
    simp at f0 f1 f2 f3 f4
    go_wp2_with fail
    have hX6 : IsX w (((((w2.setCell ⟨w.heap.size, 0, none⟩ (.string ⟨#[]⟩)).setCell ⟨w.heap.size, 1, none⟩ (.string ⟨#[]⟩)).setCell ⟨w.heap.size, 2, none⟩ (.int .i64 0)).setCell ⟨w.heap.size, 3, none⟩ (.int .i64 0)).setCell ⟨w.heap.size, 4, none⟩ (.int .i64 0)) := (IsX.setCell (a := ⟨w.heap.size, 4, none⟩) (IsX.setCell (a := ⟨w.heap.size, 3, none⟩) (IsX.setCell (a := ⟨w.heap.size, 2, none⟩) (IsX.setCell (a := ⟨w.heap.size, 1, none⟩) (IsX.setCell (a := ⟨w.heap.size, 0, none⟩) HX (Nat.le_refl _) _) (Nat.le_refl _) _) (Nat.le_refl _) _) (Nat.le_refl _) _) (Nat.le_refl _) _)
    have hB6 := (((((HB.set_ 0 (.string ⟨#[]⟩)).set_ 1 (.string ⟨#[]⟩)).set_ 2 (.int .i64 0)).set_ 3 (.int .i64 0)).set_ 4 (.int .i64 0))
    clear f0 f1 f2 f3 f4 z0 z1 z2 z3 z4
    generalize (((((w2.setCell ⟨w.heap.size, 0, none⟩ (.string ⟨#[]⟩)).setCell ⟨w.heap.size, 1, none⟩ (.string ⟨#[]⟩)).setCell ⟨w.heap.size, 2, none⟩ (.int .i64 0)).setCell ⟨w.heap.size, 3, none⟩ (.int .i64 0)).setCell ⟨w.heap.size, 4, none⟩ (.int .i64 0)) = V6 at *
    have r0 := hB6.cell 0
    have r1 := hB6.cell 1
    have r2 := hB6.cell 2
    have r3 := hB6.cell 3
    have r4 := hB6.cell 4
    simp at r0 r1 r2 r3 r4

    rw [HB0.out.1, HB0.out.2]
    exact bodyPost_ret (v := .tuple #[offerW zeroOfferW, .bool false]) (by simp [results, Tryz.results11, go_sem, r0, r1, r2, r3, r4, offerW, zeroOfferW]) rfl ⟨rfl, hX6⟩
  have HRN : Hid (Rd intC 1 w2 A2 (listZ c)) := hide (Rd.of_own (by omega) intC_len hO2)
  rw [h5]
  clear hO2
  obtain ⟨x0, x1, x2, hN⟩ : ∃ x0 x1 x2, listZ c = [x0, x1, x2] := by
    match h : listZ c, h5 with
    | [x0, x1, x2], _ => exact ⟨x0, x1, x2, rfl⟩
  have HT0 := three_val (a := a) (b := b) hk hN
  have HE := hide HT0.1
  have HTH := hide HT0.2
  rw [hN] at HRN
  clear hN h5 hk HT0
  have p0 := str_at HR2.out (show ([a, b, c] : List ByteArray)[0]? = some a from rfl)
  have hbs := str_lt HR2.out (show ([a, b, c] : List ByteArray)[0]? = some a from rfl)
  have p1 := str_at HR2.out (show ([a, b, c] : List ByteArray)[1]? = some b from rfl)
  obtain ⟨g1, o1, rfl, hb, c0⟩ := int_rd HRN.out (show ([x0, x1, x2] : List Int)[0]? = some x0 from rfl)
  have c1 := int_at HRN.out (show ([x0, x1, x2] : List Int)[1]? = some x1 from rfl)
  have c2 := int_at HRN.out (show ([x0, x1, x2] : List Int)[2]? = some x2 from rfl)
  rw [Nat.add_zero] at c0 p0
  go_wp2_with fail
  go_region
  have HX2 : IsX w (w2.alloc (.cells #[.string a, .string b, .int .i64 x0, .int .i64 x1, .int .i64 x2] 33)).drew := (HX.alloc _).drew
  have HB2 : Blk (w2.alloc (.cells #[.string a, .string b, .int .i64 x0, .int .i64 x1, .int .i64 x2] 33)).drew w2.heap.size 33 #[.string a, .string b, .int .i64 x0, .int .i64 x1, .int .i64 x2] := (Blk.new w2 33 _).x (IsX.drew (IsX.refl _))
  have HB3 := HB.x (IsX.drew (IsX.alloc (IsX.refl w2) (.cells #[.string a, .string b, .int .i64 x0, .int .i64 x1, .int .i64 x2] 33)))
  have hlt6 := HB.lt
  generalize (w2.alloc (.cells #[.string a, .string b, .int .i64 x0, .int .i64 x1, .int .i64 x2] 33)).drew = V at *
  obtain ⟨b6, hb6⟩ : ∃ b6, b6 = w2.heap.size := ⟨_, rfl⟩
  rw [← hb6] at HB2 hlt6 ⊢
  clear hb6 c0 c1 c2 p0 p1 hb hbs HR2 HRN HB
  have d0 := HB2.cell 0
  have d1 := HB2.cell 1
  have d2 := HB2.cell 2
  have d3 := HB2.cell 3
  have d4 := HB2.cell 4
  have hl2 := HB2.lt
  simp at d0 d1 d2 d3 d4
  have HC : Hid (Calls Tryz.prog 25 #[.agg #[.string a, .string b, .int .i64 x0, .int .i64 x1, .int .i64 x2]] V fun e w' => e = .returned (.bool (⟨a, b, x0, x1, x2⟩ : OfferD).okB) ∧ IsX V w') := hide (c_validOffer ⟨a, b, x0, x1, x2⟩ V (HWF.out 0 0 0).1 (HWF.out 0 0 0).2)
  cases hq : (⟨a, b, x0, x1, x2⟩ : OfferD).okB
  · rw [hq] at HTH HC
    have HB0 := hide (offerI_no (HL0.out ▸ HTH.out))
    go_wp2_with (go_at_call 25; refine HC.out.mono ?_; rintro e V1 ⟨rfl, hxv⟩; have HB4 := HB3.x hxv; have HX4 := HX2.trans hxv; have HB5 := HB2.x hxv; clear d0 d1 d2 d3 d4; have f0 := HB4.cell 0; have f1 := HB4.cell 1; have f2 := HB4.cell 2; have f3 := HB4.cell 3; have f4 := HB4.cell 4; have z0 := HB4.frozen 0; have z1 := HB4.frozen 1; have z2 := HB4.frozen 2; have z3 := HB4.frozen 3; have z4 := HB4.frozen 4; have hlt5 := HB4.lt; have d0 := HB5.cell 0; have d1 := HB5.cell 1; have d2 := HB5.cell 2; have d3 := HB5.cell 3; have d4 := HB5.cell 4; have hl5 := HB5.lt; simp at f0 f1 f2 f3 f4 d0 d1 d2 d3 d4)
    have hX6 : IsX w (((((V1.setCell ⟨w.heap.size, 0, none⟩ (.string ⟨#[]⟩)).setCell ⟨w.heap.size, 1, none⟩ (.string ⟨#[]⟩)).setCell ⟨w.heap.size, 2, none⟩ (.int .i64 0)).setCell ⟨w.heap.size, 3, none⟩ (.int .i64 0)).setCell ⟨w.heap.size, 4, none⟩ (.int .i64 0)) := (IsX.setCell (a := ⟨w.heap.size, 4, none⟩) (IsX.setCell (a := ⟨w.heap.size, 3, none⟩) (IsX.setCell (a := ⟨w.heap.size, 2, none⟩) (IsX.setCell (a := ⟨w.heap.size, 1, none⟩) (IsX.setCell (a := ⟨w.heap.size, 0, none⟩) HX4 (Nat.le_refl _) _) (Nat.le_refl _) _) (Nat.le_refl _) _) (Nat.le_refl _) _) (Nat.le_refl _) _)
    have hB6 := (((((HB4.set_ 0 (.string ⟨#[]⟩)).set_ 1 (.string ⟨#[]⟩)).set_ 2 (.int .i64 0)).set_ 3 (.int .i64 0)).set_ 4 (.int .i64 0))
    clear f0 f1 f2 f3 f4 z0 z1 z2 z3 z4
    generalize (((((V1.setCell ⟨w.heap.size, 0, none⟩ (.string ⟨#[]⟩)).setCell ⟨w.heap.size, 1, none⟩ (.string ⟨#[]⟩)).setCell ⟨w.heap.size, 2, none⟩ (.int .i64 0)).setCell ⟨w.heap.size, 3, none⟩ (.int .i64 0)).setCell ⟨w.heap.size, 4, none⟩ (.int .i64 0)) = V6 at *
    have r0 := hB6.cell 0
    have r1 := hB6.cell 1
    have r2 := hB6.cell 2
    have r3 := hB6.cell 3
    have r4 := hB6.cell 4
    simp at r0 r1 r2 r3 r4

    rw [HB0.out.1, HB0.out.2]
    exact bodyPost_ret (v := .tuple #[offerW zeroOfferW, .bool false]) (by simp [results, Tryz.results11, go_sem, r0, r1, r2, r3, r4, offerW, zeroOfferW]) rfl ⟨rfl, hX6⟩
  · rw [hq] at HTH HC
    have HTX : Hid (∀ W, IsX V W → Calls Tryz.prog 12 #[.agg #[.string a, .string b, .int .i64 x0, .int .i64 x1, .int .i64 x2]] W fun e w' => e = .returned (.string (⟨a, b, x0, x1, x2⟩ : OfferD).text) ∧ IsX W w') := hide (fun W hW => by
      have h := i_OfferText ⟨a, b, x0, x1, x2⟩ W (by have k0 := numsOffer_ok hq x0 (by simp [OfferD.nums]); have k1 := numsOffer_ok hq x1 (by simp [OfferD.nums]); have k2 := numsOffer_ok hq x2 (by simp [OfferD.nums]); exact ⟨(HWF.out 0 0 0).1, (HWF.out 0 0 0).2, by show _ ≤ x0 ∧ x0 ≤ _; omega, by show _ ≤ x1 ∧ x1 ≤ _; omega, by show _ ≤ x2 ∧ x2 ≤ _; omega⟩) (he.x (HX2.trans hW))
      rw [show textOfferZ ⟨a, b, x0, x1, x2⟩ = (⟨a, b, x0, x1, x2⟩ : OfferD).text by unfold textOfferZ; rw [if_pos hq]] at h
      exact h)
    obtain ⟨T, hT⟩ : ∃ T, T = (⟨a, b, x0, x1, x2⟩ : OfferD).text := ⟨_, rfl⟩
    rw [← hT] at HTX
    have HTT := hide hT
    clear hT
    cases ht : (T.toList == s.toList)
    · have HB0 := hide (offerI_text (s := s) (by rw [← HL0.out, HE.out, ← HTT.out]; exact ht))
      go_wp2_with first | (go_at_call 25; refine HC.out.mono ?_; rintro e V0 ⟨rfl, hxv0⟩; have HB5 := HB2.x hxv0; have HXV := hide hxv0; clear d0 d1 d2 d3 d4 hxv0; have d0 := HB5.cell 0; have d1 := HB5.cell 1; have d2 := HB5.cell 2; have d3 := HB5.cell 3; have d4 := HB5.cell 4; have hl5 := HB5.lt; clear HB5; simp at d0 d1 d2 d3 d4) | (go_at_call 12; refine (HTX.out _ HXV.out).mono ?_; rintro e V1 ⟨rfl, hxt⟩; have hxv := HXV.out.trans hxt; have HB4 := HB3.x hxv; have HX4 := HX2.trans hxv; have HB5 := HB2.x hxv; clear d0 d1 d2 d3 d4; have f0 := HB4.cell 0; have f1 := HB4.cell 1; have f2 := HB4.cell 2; have f3 := HB4.cell 3; have f4 := HB4.cell 4; have z0 := HB4.frozen 0; have z1 := HB4.frozen 1; have z2 := HB4.frozen 2; have z3 := HB4.frozen 3; have z4 := HB4.frozen 4; have hlt5 := HB4.lt; have d0 := HB5.cell 0; have d1 := HB5.cell 1; have d2 := HB5.cell 2; have d3 := HB5.cell 3; have d4 := HB5.cell 4; have hl5 := HB5.lt; simp at f0 f1 f2 f3 f4 d0 d1 d2 d3 d4)
      have hX6 : IsX w (((((V1.setCell ⟨w.heap.size, 0, none⟩ (.string ⟨#[]⟩)).setCell ⟨w.heap.size, 1, none⟩ (.string ⟨#[]⟩)).setCell ⟨w.heap.size, 2, none⟩ (.int .i64 0)).setCell ⟨w.heap.size, 3, none⟩ (.int .i64 0)).setCell ⟨w.heap.size, 4, none⟩ (.int .i64 0)) := (IsX.setCell (a := ⟨w.heap.size, 4, none⟩) (IsX.setCell (a := ⟨w.heap.size, 3, none⟩) (IsX.setCell (a := ⟨w.heap.size, 2, none⟩) (IsX.setCell (a := ⟨w.heap.size, 1, none⟩) (IsX.setCell (a := ⟨w.heap.size, 0, none⟩) HX4 (Nat.le_refl _) _) (Nat.le_refl _) _) (Nat.le_refl _) _) (Nat.le_refl _) _) (Nat.le_refl _) _)
      have hB6 := (((((HB4.set_ 0 (.string ⟨#[]⟩)).set_ 1 (.string ⟨#[]⟩)).set_ 2 (.int .i64 0)).set_ 3 (.int .i64 0)).set_ 4 (.int .i64 0))
      clear f0 f1 f2 f3 f4 z0 z1 z2 z3 z4
      generalize (((((V1.setCell ⟨w.heap.size, 0, none⟩ (.string ⟨#[]⟩)).setCell ⟨w.heap.size, 1, none⟩ (.string ⟨#[]⟩)).setCell ⟨w.heap.size, 2, none⟩ (.int .i64 0)).setCell ⟨w.heap.size, 3, none⟩ (.int .i64 0)).setCell ⟨w.heap.size, 4, none⟩ (.int .i64 0)) = V6 at *
      have r0 := hB6.cell 0
      have r1 := hB6.cell 1
      have r2 := hB6.cell 2
      have r3 := hB6.cell 3
      have r4 := hB6.cell 4
      simp at r0 r1 r2 r3 r4

      rw [HB0.out.1, HB0.out.2]
      exact bodyPost_ret (v := .tuple #[offerW zeroOfferW, .bool false]) (by simp [results, Tryz.results11, go_sem, r0, r1, r2, r3, r4, offerW, zeroOfferW]) rfl ⟨rfl, hX6⟩
    · have HB0 := hide (offerI_ok (s := s) (by rw [← HL0.out]; exact HTH.out) (by rw [← HL0.out, HE.out, ← HTT.out]; exact ht))
      rw [← HL0.out] at HB0
      go_wp2_with first | (go_at_call 25; refine HC.out.mono ?_; rintro e V0 ⟨rfl, hxv0⟩; have HB5 := HB2.x hxv0; have HXV := hide hxv0; clear d0 d1 d2 d3 d4 hxv0; have d0 := HB5.cell 0; have d1 := HB5.cell 1; have d2 := HB5.cell 2; have d3 := HB5.cell 3; have d4 := HB5.cell 4; have hl5 := HB5.lt; clear HB5; simp at d0 d1 d2 d3 d4) | (go_at_call 12; refine (HTX.out _ HXV.out).mono ?_; rintro e V1 ⟨rfl, hxt⟩; have hxv := HXV.out.trans hxt; have HB4 := HB3.x hxv; have HX4 := HX2.trans hxv; have HB5 := HB2.x hxv; clear d0 d1 d2 d3 d4; have f0 := HB4.cell 0; have f1 := HB4.cell 1; have f2 := HB4.cell 2; have f3 := HB4.cell 3; have f4 := HB4.cell 4; have z0 := HB4.frozen 0; have z1 := HB4.frozen 1; have z2 := HB4.frozen 2; have z3 := HB4.frozen 3; have z4 := HB4.frozen 4; have hlt5 := HB4.lt; have d0 := HB5.cell 0; have d1 := HB5.cell 1; have d2 := HB5.cell 2; have d3 := HB5.cell 3; have d4 := HB5.cell 4; have hl5 := HB5.lt; simp at f0 f1 f2 f3 f4 d0 d1 d2 d3 d4)
      have hX6 : IsX w (((((V1.setCell ⟨w.heap.size, 0, none⟩ (.string a)).setCell ⟨w.heap.size, 1, none⟩ (.string b)).setCell ⟨w.heap.size, 2, none⟩ (.int .i64 x0)).setCell ⟨w.heap.size, 3, none⟩ (.int .i64 x1)).setCell ⟨w.heap.size, 4, none⟩ (.int .i64 x2)) := (IsX.setCell (a := ⟨w.heap.size, 4, none⟩) (IsX.setCell (a := ⟨w.heap.size, 3, none⟩) (IsX.setCell (a := ⟨w.heap.size, 2, none⟩) (IsX.setCell (a := ⟨w.heap.size, 1, none⟩) (IsX.setCell (a := ⟨w.heap.size, 0, none⟩) HX4 (Nat.le_refl _) _) (Nat.le_refl _) _) (Nat.le_refl _) _) (Nat.le_refl _) _) (Nat.le_refl _) _)
      have hB6 := (((((HB4.set_ 0 (.string a)).set_ 1 (.string b)).set_ 2 (.int .i64 x0)).set_ 3 (.int .i64 x1)).set_ 4 (.int .i64 x2))
      clear f0 f1 f2 f3 f4 z0 z1 z2 z3 z4
      generalize (((((V1.setCell ⟨w.heap.size, 0, none⟩ (.string a)).setCell ⟨w.heap.size, 1, none⟩ (.string b)).setCell ⟨w.heap.size, 2, none⟩ (.int .i64 x0)).setCell ⟨w.heap.size, 3, none⟩ (.int .i64 x1)).setCell ⟨w.heap.size, 4, none⟩ (.int .i64 x2)) = V6 at *
      have r0 := hB6.cell 0
      have r1 := hB6.cell 1
      have r2 := hB6.cell 2
      have r3 := hB6.cell 3
      have r4 := hB6.cell 4
      simp at r0 r1 r2 r3 r4

      rw [HB0.out.1, HB0.out.2, HE.out]
      exact bodyPost_ret (v := .tuple #[offerW ⟨a, b, x0, x1, x2⟩, .bool true]) (by simp [results, Tryz.results11, go_sem, r0, r1, r2, r3, r4, offerW]) rfl ⟨rfl, hX6⟩
end Go.Proofs.YtmipphgekcdaoaaGreatDoor
