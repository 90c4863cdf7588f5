/- The words of a text: SplitWords of the program. Conditions: texts of at most 2^31 bytes; the library's variables as the rows lay them. -/
import Derived.Test.YtmipphgekcdaoaaGreatDoorReadText
namespace Go.Proofs.YtmipphgekcdaoaaGreatDoor
set_option linter.unusedVariables false
open Go.RowKit

theorem words_yes {L : List ByteArray} {i : Nat} (h : i < L.length) (e : isWord L[i] = true) : wordsOf (L.take (i + 1)) = wordsOf (L.take i) ++ [L[i]] := by
  rw [List.take_succ_eq_append_getElem h, wordsOf, wordsOf, List.filter_append, List.filter_cons, if_pos e]; rfl
theorem words_no {L : List ByteArray} {i : Nat} (h : i < L.length) (e : isWord L[i] = false) : wordsOf (L.take (i + 1)) = wordsOf (L.take i) := by
  rw [List.take_succ_eq_append_getElem h, wordsOf, wordsOf, List.filter_append, List.filter_cons, if_neg (by rw [e]; exact Bool.false_ne_true)]; exact List.append_nil _
theorem words_len (L : List ByteArray) : (wordsOf L).length ≤ L.length := List.length_filter_le _ _
set_option maxRecDepth 100000 in
set_option maxHeartbeats 3200000 in
theorem c_SplitWords (s : ByteArray) (w : World) (hs : s.size ≤ 2147483648) (he : EnvOk w) :
    Calls Tryz.prog 31 #[.string s] w fun e w' => ∃ A' c', e = .returned (.slice A' (wordsOf (splitS 32 s)).length c') ∧ w'.ownsRow w.heap.size 9 1 (.slice A' (wordsOf (splitS 32 s)).length c') (wordsOf (splitS 32 s)).length ((wordsOf (splitS 32 s)).flatMap strC) ∧ IsX w w' := by
  have HI := hide (info_parts spString_info)
  have HC := hide (c_SplitRd s 32 w hs he)
  have hll := splitS_len 32 s
  generalize splitS 32 s = L at *
  obtain ⟨n, hn⟩ : ∃ n, n = L.length := ⟨_, rfl⟩
  have HN := hide hn
  rw [← hn] at HC hll
  clear he hn
  go_enter Tryz.func31, Tryz.ntmps31
  go_wp2_with (go_at_call 46; refine HC.out.mono ?_; rintro e ws ⟨g, rfl, hR, hx⟩; have HR := hide hR; have HX := hide hx; clear hR hx)
  clear HC
  have HO : Hid (ws.ownsRow ws.heap.size 9 1 (.slice none 0 0) 0 []) := hide ⟨rfl, .inl ⟨rfl, rfl⟩⟩
  go_loopw [3, 9] (fun ov iv wr => ∃ (i l co : Nat) (B : Option Addr), i ≤ n ∧ l ≤ i ∧ Hid (l = (wordsOf (L.take i)).length) ∧ ov = .slice B l co ∧ iv = .int .i64 i ∧ Hid (wr.ownsRow ws.heap.size 9 1 (.slice B l co) l ((wordsOf (L.take i)).flatMap strC)) ∧ IsX ws wr) (fun _ iv _ => n - (intOf iv).toNat)
  case atStart => exact ⟨0, 0, _, _, Nat.zero_le _, Nat.le_refl _, hide rfl, rfl, rfl, HO, IsX.refl _⟩
  case round =>
    clear HO
    obtain ⟨i, l, co, B, hi, hli, HLL, rfl, rfl, HO, p, rfl⟩ := hrel
    by_cases hlt : i < n
    · have hix : i < L.length := HN.out ▸ hlt
      obtain ⟨b, off, hAe, hb, ci⟩ := str_rd (HR.out.x ⟨p, rfl⟩) (show L[i]? = some L[i] from List.getElem?_eq_getElem _)
      injection hAe with hAe
      injection hAe with e1 e2
      subst e1 e2
      rw [Nat.zero_add] at ci
      have hwd : isWord L[i] = !(L[i].toList == []) := rfl
      have HY := hide (fun e => words_yes hix e)
      have HNO := hide (fun e => words_no hix e)
      generalize L[i] = x at *
      cases hq : (x.toList == [])
      · rw [hq] at hwd
        have HW := hide (HY.out hwd)
        clear hwd
        go_wp2_with (at_builtin; obtain ⟨i0, hi0, hz0, hz1, hz2⟩ := HI.out; refine wpList_append_any _ rfl (.tmp 15) (.tmp 17) _ rfl ws.heap.size 9 i0 _ 1 16 Tryz.underlying54 hi0 hz0 hz1 hz2 rfl (by omega) _ l ((wordsOf (L.take i)).flatMap strC) rfl (HO.out.alloc _) _ (some ⟨(xt ws p).heap.size, 0, none⟩) 1 1 [.string x] rfl (sp_reads (xt ws p) 9 x) (sp_one x) (by simp only [maxLen]; omega) (by omega) (by have := size_xt ws p; simp; omega) ?_; clear hi0 hz0 hz1 hz2; intro v1 w1 hown1 hg1 hat1; have HO3 := hide hown1; have hx1 : IsX ws w1 := IsX.grown (IsX.alloc (w' := xt ws p) ⟨p, rfl⟩ _) hg1 (by intro z hz; exact (HO.out.lt z hz).1); clear hown1 hg1 hat1; obtain ⟨p3, rfl⟩ := hx1)
        obtain ⟨B1, c1, rfl⟩ := row_slice HO3.out
        have HO4 : Hid (World.ownsRow (xt ws p3) ws.heap.size 9 1 (.slice B1 (l + 1) c1) (l + 1) ((wordsOf (L.take (i + 1))).flatMap strC)) := hide (by rw [HW.out, List.flatMap_append]; exact HO3.out)
        go_roundw
        case rel => exact ⟨i + 1, l + 1, c1, B1, by omega, by omega, hide (by rw [HW.out, List.length_append, ← HLL.out]; rfl), rfl, by go_num, HO4, ⟨p3, rfl⟩⟩
        case measure => simp [intOf]; omega
      · rw [hq] at hwd
        have HW := hide (HNO.out hwd)
        clear hwd
        go_wp2_with fail
        go_roundw
        case rel => exact ⟨i + 1, l, co, B, by omega, by omega, hide (by rw [HW.out]; exact HLL.out), rfl, by go_num, hide (by rw [HW.out]; exact HO.out), ⟨p, rfl⟩⟩
        case measure => simp [intOf]; omega
    · obtain rfl : i = n := by omega
      have hT : L.take i = L := by rw [HN.out]; exact List.take_length
      rw [hT] at HLL HO
      have HX2 : Hid (IsX ws (xt ws p)) := hide ⟨p, rfl⟩
      clear hT
      go_wp2_with fail
      go_ret
      refine ⟨B, co, by rw [← HLL.out]; rfl, ?_, HX.out.trans HX2.out⟩
      rw [← HLL.out]
      exact row_le HO.out HX.out.size
end Go.Proofs.YtmipphgekcdaoaaGreatDoor
