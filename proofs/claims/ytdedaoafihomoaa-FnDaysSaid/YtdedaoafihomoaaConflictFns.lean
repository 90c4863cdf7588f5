/- Offers that conflict, as pairs of indices: Conflicts of the reference and of the program. Conditions: lists no longer than 2^40. -/
import Derived.Test.YtdedaoafihomoaaIsDay
import Derived.Test.YtdedaoafihomoaaPairs
import Derived.Test.YtdedaoafihomoaaOpenSeatsFns
namespace Go.Proofs.Ytdedaoafihomoaa
set_option linter.unusedVariables false
open Go.RowKit

def clashN (xs : List OfferD) (ch : Int) (i k : Nat) : Bool := match xs[i]?, xs[k]? with | some a, some b => clashB a b ch | _, _ => false
theorem clashN_at {xs : List OfferD} {ch : Int} {i k : Nat} (hi : i < xs.length) (hk : k < xs.length) : clashN xs ch i k = clashB xs[i] xs[k] ch := by simp only [clashN, List.getElem?_eq_getElem hi, List.getElem?_eq_getElem hk]
def confRow (xs : List OfferD) (ch : Int) (i : Nat) : Nat → List (Int × Int)
  | 0 => []
  | k + 1 => if i < k ∧ clashN xs ch i k = true then confRow xs ch i k ++ [((i : Int), (k : Int))] else confRow xs ch i k
def confTo (xs : List OfferD) (ch : Int) : Nat → List (Int × Int)
  | 0 => []
  | i + 1 => confTo xs ch i ++ confRow xs ch i xs.length
section
variable {xs : List OfferD} {ch : Int} {i k : Nat}
theorem confRow_yes (h : i < k) (hc : clashN xs ch i k = true) : confRow xs ch i (k + 1) = confRow xs ch i k ++ [((i : Int), (k : Int))] := by simp [confRow, h, hc]
theorem confRow_no (hc : clashN xs ch i k = false) : confRow xs ch i (k + 1) = confRow xs ch i k := by simp [confRow, hc]
theorem confRow_nil (xs : List OfferD) (ch : Int) (i : Nat) : ∀ k, k ≤ i + 1 → confRow xs ch i k = []
  | 0, _ => rfl
  | k + 1, h => by
    have := confRow_nil xs ch i k (by omega)
    simp only [confRow, this]
    rw [if_neg (fun h2 => by omega)]
theorem confRow_len (xs : List OfferD) (ch : Int) (i : Nat) : ∀ k, (confRow xs ch i k).length ≤ k
  | 0 => by simp [confRow]
  | k + 1 => by
    have := confRow_len xs ch i k
    simp only [confRow]
    split <;> simp <;> omega
theorem confTo_len (xs : List OfferD) (ch : Int) (hx : xs.length ≤ 16) : ∀ i, (confTo xs ch i).length ≤ i * 16
  | 0 => by simp [confTo]
  | i + 1 => by
    have h1 := confTo_len xs ch hx i
    have h2 := confRow_len xs ch i xs.length
    simp only [confTo, List.length_append]; omega
end
def confC (xs : List OfferD) (ch : Int) : Int := if offersB xs = true then (if inB ch 0 240 = true then 0 else 2) else 1
def confZ (xs : List OfferD) (ch : Int) : List (Int × Int) := if confC xs ch = 0 then confTo xs ch xs.length else []
theorem conf_bad {xs : List OfferD} {ch : Int} (h : offersB xs = false) : confZ xs ch = [] ∧ confC xs ch = 1 := by simp [confZ, confC, h]
theorem conf_range {xs : List OfferD} {ch : Int} (h : offersB xs = true) (h2 : inB ch 0 240 = false) : confZ xs ch = [] ∧ confC xs ch = 2 := by simp [confZ, confC, h, h2]
theorem conf_ok {xs : List OfferD} {ch : Int} (h : offersB xs = true) (h2 : inB ch 0 240 = true) : confZ xs ch = confTo xs ch xs.length ∧ confC xs ch = 0 := by simp [confZ, confC, h, h2]
theorem confZ_len (xs : List OfferD) (ch : Int) : (confZ xs ch).length ≤ 1048576 := by
  unfold confZ
  split
  · rename_i h
    have hv : offersB xs = true := by
      cases h1 : offersB xs
      · rw [(conf_bad h1).2] at h; omega
      · rfl
    have h1 := offers_len hv
    have h2 := confTo_len xs ch h1 xs.length
    omega
  · simp

set_option maxRecDepth 100000 in
set_option maxHeartbeats 6400000 in
theorem i_Conflicts (A0 : Option Addr) (c0 : Nat) (xs0 : List OfferD) (n1 : Int) (w : World) (hn0 : xs0.length ≤ 1099511627776) (hw0 : ∀ x ∈ xs0, x.wf) (hA0 : Rd OfferD.cells 5 w A0 xs0) (hb1 : intWf n1) : Calls Try.prog 8 #[.slice A0 xs0.length c0, .int .i64 n1] w (PrPost w (confZ xs0 n1) (confC xs0 n1)) := by
  have HIS := hide (info_parts PairS_info)
  cases hv : offersB xs0
  · have HB := hide (conf_bad (ch := n1) hv)
    go_enter Try.func8, Try.ntmps8
    go_wp2_with fail
    refine (cb (c_ValidOffers A0 c0 xs0 w hn0 hw0 hA0) hv).mono ?_
    rintro e w1 ⟨rfl, hx⟩
    go_wp2_with fail
    go_ret2
    exact ⟨none, 0, [], by rw [HB.out.1, HB.out.2]; rfl, by rw [HB.out.1]; exact PairRow.nil _ _, hx⟩
  cases hi : inB n1 0 240
  · have HB := hide (conf_range hv hi)
    go_enter Try.func8, Try.ntmps8
    go_wp2_with fail
    refine (cb (c_ValidOffers A0 c0 xs0 w hn0 hw0 hA0) hv).mono ?_
    rintro e w1 ⟨rfl, hx⟩
    go_wp2_with fail
    refine (cb (c_isChange n1 _) hi).mono ?_
    rintro e wu ⟨rfl, rfl⟩
    go_wp2_with fail
    go_ret2
    exact ⟨none, 0, [], by rw [HB.out.1, HB.out.2]; rfl, by rw [HB.out.1]; exact PairRow.nil _ _, hx⟩
  have HB := hide (conf_ok hv hi)
  have hch := inB_true.1 hi
  go_enter Try.func8, Try.ntmps8
  go_wp2_with fail
  refine (cb (c_ValidOffers A0 c0 xs0 w hn0 hw0 hA0) hv).mono ?_
  rintro e w1 ⟨rfl, hx⟩
  go_wp2_with fail
  refine (cb (c_isChange n1 _) hi).mono ?_
  rintro e wu ⟨rfl, rfl⟩
  clear hi
  have HP0 : Hid (PairRow w1 w.heap.size (.slice none 0 0) [] []) := hide (PairRow.nil _ _)
  have HX0 := hide hx
  have HO := hide (offers_small hv)
  have hn16 := offers_len hv
  obtain ⟨n, hnn⟩ : ∃ n, n = xs0.length := ⟨_, rfl⟩
  have HN := hide hnn
  have HA0 := hide hA0
  have HC := hide hch
  rw [← hnn] at hn16
  rw [← hnn]
  clear hnn hv hA0 hw0 hn0 hx hch
  go_wp2_with fail
  go_loopw [6, 17] (fun ov iv wr => ∃ (i : Nat) (L : List (Int × Int)) (gs : List Nat), i ≤ n ∧ iv = .int .i64 i ∧ (∃ A c, ov = .slice A L.length c) ∧ Hid (L = confTo xs0 n1 i) ∧ L.length ≤ i * 16 ∧ Hid (PairRow wr w.heap.size ov L gs) ∧ IsX w wr) (fun _ iv _ => n - (intOf iv).toNat)
  case atStart => exact ⟨0, [], [], Nat.zero_le _, rfl, ⟨_, _, rfl⟩, hide rfl, Nat.zero_le _, HP0, HX0.out⟩
  case round =>
    clear HP0 HX0
    obtain ⟨i, L, gs, hi, rfl, ⟨Ao, co, rfl⟩, HL, hLi, HP, p, rfl⟩ := hrel
    by_cases hlt : i < n
    · have hix : i < xs0.length := HN.out ▸ hlt
      have HSTART := hide (show L = confTo xs0 n1 i ++ confRow xs0 n1 i (i + 1) by rw [confRow_nil xs0 n1 i (i + 1) (Nat.le_refl _), List.append_nil]; exact HL.out)
      clear HL
      go_wp2_with fail
      go_loopw [6, 8] (fun ov kv wr => ∃ (k : Nat) (L : List (Int × Int)) (gs : List Nat), i < k ∧ k ≤ n ∧ kv = .int .i64 k ∧ (∃ A c, ov = .slice A L.length c) ∧ Hid (L = confTo xs0 n1 i ++ confRow xs0 n1 i k) ∧ L.length ≤ i * 16 + k ∧ Hid (PairRow wr w.heap.size ov L gs) ∧ IsX w wr) (fun _ kv _ => n - (intOf kv).toNat)
      case atStart => exact ⟨i + 1, L, gs, by omega, by omega, by first | rfl | go_num, ⟨_, _, rfl⟩, HSTART, by omega, HP, ⟨p, rfl⟩⟩
      case round =>
        clear HSTART HP
        clear hLi
        obtain ⟨k, L, gs, hik, hk, rfl, ⟨Ao, co, rfl⟩, HL, hLi, HP, p, rfl⟩ := hrel
        by_cases hkn : k < n
        · have hkx : k < xs0.length := HN.out ▸ hkn
          obtain ⟨b, off, rfl, hb, a0, a1, a2, a3, a4⟩ := OfferD.rd HA0.out (show xs0[i]? = some xs0[i] from List.getElem?_eq_getElem _)
          obtain ⟨b', off', e, hb', f0, f1, f2, f3, f4⟩ := OfferD.rd HA0.out (show xs0[k]? = some xs0[k] from List.getElem?_eq_getElem _)
          injection e with e
          injection e with e1 e2
          subst e1 e2
          have HOi := hide (HO.out _ (List.getElem_mem hix))
          have HOk := hide (HO.out _ (List.getElem_mem hkx))
          have HE := hide (clashN_at (ch := n1) hix hkx)
          cases hcl : clashB xs0[i] xs0[k] n1
          · have HR := hide (confRow_no (xs := xs0) (ch := n1) (i := i) (k := k) (by rw [HE.out]; exact hcl))
            go_wp2_with fail
            refine wp_region_x (by kernel_rfl) (by kernel_rfl) ?_
            repeat (go_big_quiet_step ((go_at_call 25; exact call_x (cb (c_offersConflict xs0[i] xs0[k] n1 _ HOi.out HOk.out HC.out) hcl))))
            refine wpQuiet_nil ?_
            rintro _ ⟨q, rfl⟩
            replace HP := hide (HP.out.x (w' := xt (xt w p) q) ⟨q, rfl⟩)
            go_wp2_with fail
            go_roundw
            case rel => exact ⟨k + 1, L, gs, by omega, by omega, by go_num, ⟨_, _, rfl⟩, hide (by rw [HR.out]; exact HL.out), by omega, HP, IsX.xt ⟨p, rfl⟩ q⟩
            case measure => simp [intOf]; omega
          · have HR := hide (confRow_yes (xs := xs0) (ch := n1) hik (by rw [HE.out]; exact hcl))
            go_wp2_with fail
            refine wp_region_x (by kernel_rfl) (by kernel_rfl) ?_
            repeat (go_big_quiet_step ((go_at_call 25; exact call_x (cb (c_offersConflict xs0[i] xs0[k] n1 _ HOi.out HOk.out HC.out) hcl))))
            refine wpQuiet_nil ?_
            rintro _ ⟨q, rfl⟩
            replace HP := hide (HP.out.x (w' := xt (xt w p) q) ⟨q, rfl⟩)
            obtain ⟨p2, hp2⟩ : IsX w (xt (xt w p) q) := IsX.xt ⟨p, rfl⟩ q
            rw [hp2] at HP ⊢
            clear hp2
            go_wp2_with (at_builtin; obtain ⟨i0, hi0, hz0, hz1, hz2⟩ := HIS.out; refine wpList_append_any _ rfl (.tmp 38) (.tmp 42) _ rfl w.heap.size 27 i0 _ 1 24 Try.underlying32 hi0 hz0 hz1 hz2 rfl (by omega) _ L.length (gs.map pairV) rfl ((HP.out.row.alloc _).alloc _) _ (some ⟨(xt w p2).heap.size + 1, 0, none⟩) 1 1 [pairV (xt w p2).heap.size] rfl (pair_reads (xt w p2) _ _ _) (pair_one _) (by simp only [maxLen]; omega) (by omega) (by have := size_xt w p2; simp; omega) ?_; clear hi0 hz0 hz1 hz2; intro v1 w1 hown1 hg1 hat1; have HP1 : Hid (PairRow w1 w.heap.size v1 (L ++ [((i : Int), (k : Int))]) (gs ++ [(xt w p2).heap.size])) := hide (HP.out.push (z := ((i : Int), (k : Int))) (size_xt w p2) hown1 hg1 hat1); have hx1 : IsX w w1 := IsX.grown ((IsX.alloc (w' := xt w p2) ⟨p2, rfl⟩ _).alloc _) hg1 (by intro z hz; exact (HP.out.row.lt z hz).1); clear hown1 hg1 hat1; obtain ⟨p3, rfl⟩ := hx1)
            go_roundw
            case rel => exact ⟨k + 1, _, _, by omega, by omega, by go_num, ⟨_, _, (row_slice HP1.out.row).choose_spec.choose_spec⟩, hide (by rw [HR.out, ← List.append_assoc, ← HL.out]), by simp; omega, HP1, ⟨p3, rfl⟩⟩
            case measure => simp [intOf]; omega
        · obtain rfl : k = n := by omega
          have HL' := hide (show L = confTo xs0 n1 (i + 1) by rw [confTo, ← HN.out]; exact HL.out)
          go_wp2_with fail
          go_roundw
          case rel => exact ⟨i + 1, L, gs, by omega, by go_num, ⟨_, _, rfl⟩, HL', by omega, HP, ⟨p, rfl⟩⟩
          case measure => simp [intOf]; omega
    · obtain rfl : i = n := by omega
      have HZ' := hide (show confZ xs0 n1 = L by rw [HB.out.1, ← HN.out]; exact HL.out.symm)
      go_wp2_with fail
      go_ret2
      refine ⟨Ao, co, gs, by rw [HZ'.out, HB.out.2]; rfl, ?_, ⟨p, rfl⟩⟩
      rw [HZ'.out]
      exact HP.out

end Go.Proofs.Ytdedaoafihomoaa
