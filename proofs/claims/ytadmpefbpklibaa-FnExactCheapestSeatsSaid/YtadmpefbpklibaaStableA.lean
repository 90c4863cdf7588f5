/- The library's stable sort of a row of numbers, piece by piece: swapping ranges, rotating, the insertion sort. Conditions: the row is the call's own; the comparing closure answers as told and leaves what was there. -/
import Derived.Test.YtadmpefbpklibaaStableLaw
import Derived.Test.YtadmpefbpklibaaOpenSeatsFns
import Derived.BigRegion
namespace Go.Proofs.Ytadmpefbpklibaa
set_option linter.unusedVariables false
open Go.RowKit Go.Sort

theorem flat_nums (zs : List Int) : zs.flatMap intC = zs.map (Value.int .i64) := by
  induction zs with
  | nil => rfl
  | cons z zs ih => simp only [List.flatMap_cons, List.map_cons, ih]; rfl
/-- a row of the call's own, and the old blocks as they were -/
def RowAt (g n c : Nat) (w0 w : World) (L : List Int) : Prop := IsX w0 w ∧ w0.heap.size ≤ g ∧ w.ownsRow w0.heap.size 2 1 (.slice (some ⟨g, 0, none⟩) n c) n (L.map (Value.int .i64))
section
variable {g n c : Nat} {w0 w w' : World} {L : List Int}
theorem RowAt.len (h : RowAt g n c w0 w L) : L.length = n := by have := h.2.2.1; simpa using this
theorem RowAt.rd (h : RowAt g n c w0 w L) : Rd intC 1 w (some ⟨g, 0, none⟩) L := by
  have h2 := h.2.2
  rw [← flat_nums] at h2
  exact Rd.of_own (by omega) intC_len h2
theorem RowAt.cell (h : RowAt g n c w0 w L) {k : Nat} {x : Int} (hk : L[k]? = some x) : w.cell? ⟨g, k, none⟩ = some (.int .i64 x) := by
  obtain ⟨b, off, e, hb, hc⟩ := int_rd h.rd hk
  injection e with e
  injection e with e1 e2
  subst e1 e2
  simpa using hc
theorem RowAt.fz (h : RowAt g n c w0 w L) (k : Nat) : w.frozen? ⟨g, k, none⟩ = false := own_frozen h.2.2
theorem RowAt.lt (h : RowAt g n c w0 w L) : g < w.heap.size := (h.2.2.lt g rfl).2
theorem RowAt.x (h : RowAt g n c w0 w L) (hx : IsX w w') : RowAt g n c w0 w' L := ⟨h.1.trans hx, h.2.1, own_x h.2.2 hx⟩
theorem RowAt.set (h : RowAt g n c w0 w L) {k : Nat} (hk : k < n) (y : Int) : RowAt g n c w0 (w.setCell ⟨g, k, none⟩ (.int .i64 y)) (L.set k y) := by
  refine ⟨h.1.setCell (a := ⟨g, k, none⟩) h.2.1 _, h.2.1, ?_⟩
  rw [List.map_set]
  exact own_set h.2.2 (by have := h.len; simp; omega) _
theorem RowAt.swap {P M S : List Int} {x y : Int} {k l : Nat} (h : RowAt g n c w0 w (P ++ x :: (M ++ y :: S))) (hk : k = P.length) (hl : l = P.length + 1 + M.length) :
    RowAt g n c w0 ((w.setCell ⟨g, k, none⟩ (.int .i64 y)).setCell ⟨g, l, none⟩ (.int .i64 x)) (P ++ y :: (M ++ x :: S)) := by
  have hn := h.len
  simp at hn
  have := (h.set (k := k) (by omega) y).set (k := l) (by omega) x
  rwa [swap_mid hk hl] at this
theorem RowAt.swap' {P S : List Int} {x y : Int} {k l : Nat} (h : RowAt g n c w0 w (P ++ x :: y :: S)) (hk : k = P.length) (hl : l = P.length + 1) :
    RowAt g n c w0 ((w.setCell ⟨g, l, none⟩ (.int .i64 x)).setCell ⟨g, k, none⟩ (.int .i64 y)) (P ++ y :: x :: S) := by
  have hn := h.len
  simp at hn
  have := (h.set (k := l) (by omega) x).set (k := k) (by omega) y
  have e : ((P ++ x :: y :: S).set l x).set k y = P ++ y :: x :: S := by
    rw [show P ++ x :: y :: S = (P ++ [x]) ++ y :: S by simp, set_mid (by simp; omega), show (P ++ [x]) ++ x :: S = P ++ x :: x :: S by simp, set_mid hk]
  rwa [e] at this
end

set_option maxHeartbeats 3200000 in
set_option maxRecDepth 100000 in
theorem c_swapRange (F : Value) (P A M B S : List Int) (a b n N c g : Nat) (w0 w : World) (hA : A.length = n) (hB : B.length = n) (ha : a = P.length) (hb : b = P.length + n + M.length) (hN : N ≤ 1099511627776)
    (h : RowAt g N c w0 w (P ++ (A ++ (M ++ (B ++ S))))) :
    Calls Try.prog 68 #[.slice (some ⟨g, 0, none⟩) N c, .int .i64 (a : Int), .int .i64 (b : Int), .int .i64 (n : Int), F] w fun e w' => e = .returned (.tuple #[]) ∧ RowAt g N c w0 w' (P ++ (B ++ (M ++ (A ++ S)))) := by
  have HL := hide h.len
  have HST : Hid (RowAt g N c w0 w (swp P A M B S 0)) := hide (by rw [swp_zero]; exact h)
  have hfit : b + n ≤ N := by have := HL.out; simp at this; omega
  have hfit0 : a + n ≤ b := by omega
  have HPL := hide ha
  have HBL := hide hb
  have HAL := hide hA
  have HBB := hide hB
  clear h ha hb hA hB
  go_enter Try.func68, Try.ntmps68
  go_wp2_with fail
  go_loopw [10] (fun iv wr => ∃ i : Nat, i ≤ n ∧ iv = .int .i64 (i : Int) ∧ Hid (RowAt g N c w0 wr (swp P A M B S i))) (fun iv _ => n - (intOf iv).toNat)
  case atStart => exact ⟨0, Nat.zero_le _, rfl, HST⟩
  case round =>
    clear HST
    obtain ⟨i, hi, rfl, HR⟩ := hrel
    by_cases hlt : i < n
    · obtain ⟨Q, M', T, x, y, e1, e2, e3, e4⟩ := swp_at HAL.out HBB.out hlt (P := P) (M := M) (S := S)
      have HR1 := hide (e1 ▸ HR.out)
      have HE2 := hide e2
      have HQ := hide (show a + i = Q.length by rw [e3, ← HPL.out])
      have HM := hide (show b + i = Q.length + 1 + M'.length by have := HBL.out; omega)
      have c0 := HR1.out.cell (k := a + i) (get_mid HQ.out)
      have c1 := HR1.out.cell (k := b + i) (get_mid2 HM.out)
      have z0 := HR1.out.fz (a + i)
      have z1 := HR1.out.fz (b + i)
      have hlg := HR1.out.lt
      obtain ⟨ja, hja⟩ : ∃ ja, ja = a + i := ⟨_, rfl⟩
      obtain ⟨jb, hjb⟩ : ∃ jb, jb = b + i := ⟨_, rfl⟩
      have ta : ((a : Int) + (i : Int)) = (ja : Int) := by omega
      have tb : ((b : Int) + (i : Int)) = (jb : Int) := by omega
      rw [← hja] at c0 z0 HQ
      rw [← hjb] at c1 z1 HM
      have ba : ja < N := by omega
      have bb : jb < N := by omega
      have hne : ja ≠ jb := by omega
      have HTA := hide ta
      have HTB := hide tb
      clear e1 e2 e3 e4 hja hjb
      go_wp2_with fail
      go_region
      have HR2 := hide (HE2.out ▸ (HR1.out.x (IsX.drew (IsX.refl wr))).swap HQ.out HM.out)
      clear c0 c1 z0 z1 hlg HR1 HR
      go_wp2_with fail
      go_roundw
      case rel => exact ⟨i + 1, by omega, by go_num, HR2⟩
      case measure => simp [intOf]; omega
    · obtain rfl : i = n := by omega
      have HF := hide (swp_all HAL.out HBB.out ▸ HR.out)
      go_wp2_with fail
      go_end0
      exact ⟨rfl, HF.out⟩

set_option maxHeartbeats 3200000 in
set_option maxRecDepth 100000 in
theorem c_rotate (F : Value) (P U V S : List Int) (a m b N c g : Nat) (w0 w : World) (ha : a = P.length) (hm : m = P.length + U.length) (hb : b = P.length + U.length + V.length) (hU : 0 < U.length) (hV : 0 < V.length) (hN : N ≤ 1099511627776)
    (h : RowAt g N c w0 w (P ++ (U ++ (V ++ S)))) :
    Calls Try.prog 61 #[.slice (some ⟨g, 0, none⟩) N c, .int .i64 (a : Int), .int .i64 (m : Int), .int .i64 (b : Int), F] w fun e w' => e = .returned (.tuple #[]) ∧ RowAt g N c w0 w' (P ++ (V ++ (U ++ S))) := by
  have HFIT : Hid (b ≤ N) := hide (by have := h.len; simp at this; omega)
  obtain ⟨W, hW⟩ : ∃ W, W = P ++ (V ++ (U ++ S)) := ⟨_, rfl⟩
  obtain ⟨i0, hi0⟩ : ∃ i, i = U.length := ⟨_, rfl⟩
  obtain ⟨j0, hj0⟩ : ∃ j, j = V.length := ⟨_, rfl⟩
  have e1 : (m : Int) - (a : Int) = (i0 : Int) := by omega
  have e2 : (b : Int) - (m : Int) = (j0 : Int) := by omega
  have hbN := HFIT.out
  have hmj : m + j0 ≤ N := by omega
  have him : i0 ≤ m := by omega
  have him1 : 0 < i0 := by omega
  have hjm1 : 0 < j0 := by omega
  have HST : Hid (∃ P' U' V' S' : List Int, P'.length + i0 = m ∧ U'.length = i0 ∧ V'.length = j0 ∧ P' ++ (V' ++ (U' ++ S')) = W ∧ RowAt g N c w0 w (P' ++ (U' ++ (V' ++ S')))) := hide ⟨P, U, V, S, by omega, hi0.symm, hj0.symm, hW.symm, h⟩
  rw [← hW]
  have HW := hide hW
  have hbm : b ≤ 1099511627776 := by omega
  have ham : a ≤ b := by omega
  have hmb : m ≤ b := by omega
  clear h ha hm hb hU hV hi0 hj0 HW hW HFIT
  go_enter Try.func61, Try.ntmps61
  go_wp2_with fail
  clear e1 e2
  go_loopw [10, 11] (fun iv jv wr => ∃ i j : Nat, 0 < i ∧ 0 < j ∧ i ≤ m ∧ m + j ≤ N ∧ iv = .int .i64 (i : Int) ∧ jv = .int .i64 (j : Int) ∧ Hid (∃ P' U' V' S' : List Int, P'.length + i = m ∧ U'.length = i ∧ V'.length = j ∧ P' ++ (V' ++ (U' ++ S')) = W ∧ RowAt g N c w0 wr (P' ++ (U' ++ (V' ++ S'))))) (fun iv jv _ => (intOf iv).toNat + (intOf jv).toNat)
  case atStart => exact ⟨i0, j0, him1, hjm1, him, hmj, rfl, rfl, HST⟩
  case round =>
    clear HST him hmj him1 hjm1
    obtain ⟨i, j, hi1, hj1, him, hjN, rfl, rfl, HS⟩ := hrel
    obtain ⟨P', U', V', S', hP, hU, hV, hW, hr⟩ := HS.out
    by_cases heq : i = j
    · subst heq
      have HR := hide hr
      have hmi : (m : Int) - (i : Int) = ((m - i : Nat) : Int) := by omega
      have HC := hide (fun wr (h : RowAt g N c w0 wr (P' ++ (U' ++ (V' ++ S')))) => c_swapRange F P' U' [] V' S' (m - i) m i N c g w0 wr hU hV (by omega) (by simp; omega) hN (by simpa using h))
      have HWW := hide hW
      clear hr hW hP hU hV
      have hne : ((i : Int) != (i : Int)) = false := by simp
      go_wp2_with (go_at_call 68; refine (HC.out wr HR.out).mono ?_; rintro e w2 ⟨rfl, hr2⟩; have HR2 := hide hr2; clear hr2)
      go_end0
      exact ⟨rfl, by have := HR2.out; rw [← HWW.out]; simpa using this⟩
    · have hne : ((i : Int) != (j : Int)) = true := by simp; omega
      by_cases hij : j < i
      · have hgt : (i : Int) > (j : Int) := by omega
        obtain ⟨U1, U2, rfl, hU1⟩ : ∃ U1 U2, U' = U1 ++ U2 ∧ U1.length = j := ⟨U'.take j, U'.drop j, (List.take_append_drop j U').symm, by simp; omega⟩
        have HR := hide hr
        have hU2 : U2.length = i - j := by simp at hU; omega
        have hmi : (m : Int) - (i : Int) = ((m - i : Nat) : Int) := by omega
        have HC := hide (fun wr (h : RowAt g N c w0 wr (P' ++ ((U1 ++ U2) ++ (V' ++ S')))) => c_swapRange F P' U1 U2 V' S' (m - i) m j N c g w0 wr hU1 hV (by omega) (by omega) hN (by simpa using h))
        have hs : (i : Int) - (j : Int) = ((i - j : Nat) : Int) := by omega
        have HST := hide (fun wr (h : RowAt g N c w0 wr (P' ++ (V' ++ (U2 ++ (U1 ++ S'))))) => (show ∃ P' U' V' S' : List Int, P'.length + (i - j) = m ∧ U'.length = i - j ∧ V'.length = j ∧ P' ++ (V' ++ (U' ++ S')) = W ∧ RowAt g N c w0 wr (P' ++ (U' ++ (V' ++ S'))) from
          ⟨P' ++ V', U2, U1, S', by simp; omega, hU2, hU1, by rw [← hW]; simp, by simpa using h⟩))
        clear hr hW hP hU hV hU1 hU2
        go_wp2_with (go_at_call 68; refine (HC.out wr HR.out).mono ?_; rintro e w2 ⟨rfl, hr2⟩; have HR2 := hide hr2; clear hr2)
        go_roundw
        case rel => exact ⟨i - j, j, by omega, hj1, by omega, hjN, rfl, rfl, hide (HST.out _ HR2.out)⟩
        case measure => simp [intOf]; omega
      · have hgt : ¬ (i : Int) > (j : Int) := by omega
        obtain ⟨V1, V2, rfl, hV1⟩ : ∃ V1 V2, V' = V1 ++ V2 ∧ V1.length = j - i := ⟨V'.take (j - i), V'.drop (j - i), (List.take_append_drop (j - i) V').symm, by simp; omega⟩
        have HR := hide hr
        have hV2 : V2.length = i := by simp at hV; omega
        have hmi : (m : Int) - (i : Int) = ((m - i : Nat) : Int) := by omega
        have hmj : (m : Int) + (j : Int) - (i : Int) = ((m + j - i : Nat) : Int) := by omega
        have HC := hide (fun wr (h : RowAt g N c w0 wr (P' ++ (U' ++ ((V1 ++ V2) ++ S')))) => c_swapRange F P' U' V1 V2 S' (m - i) (m + j - i) i N c g w0 wr hU hV2 (by omega) (by omega) hN (by simpa using h))
        have hs : (j : Int) - (i : Int) = ((j - i : Nat) : Int) := by omega
        have HST := hide (fun wr (h : RowAt g N c w0 wr (P' ++ (V2 ++ (V1 ++ (U' ++ S'))))) => (show ∃ P' U' V' S' : List Int, P'.length + i = m ∧ U'.length = i ∧ V'.length = j - i ∧ P' ++ (V' ++ (U' ++ S')) = W ∧ RowAt g N c w0 wr (P' ++ (U' ++ (V' ++ S'))) from
          ⟨P', V2, V1, U' ++ S', hP, hV2, hV1, by rw [← hW]; simp, by simpa using h⟩))
        clear hr hW hP hU hV hV1 hV2
        go_wp2_with (go_at_call 68; refine (HC.out wr HR.out).mono ?_; rintro e w2 ⟨rfl, hr2⟩; have HR2 := hide hr2; clear hr2)
        go_roundw
        case rel => exact ⟨i, j - i, hi1, by omega, him, by omega, rfl, rfl, hide (HST.out _ HR2.out)⟩
        case measure => simp [intOf]; omega

end Go.Proofs.Ytadmpefbpklibaa
