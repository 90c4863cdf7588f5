/- A text cut at a byte: l01Split of the reference. Conditions: texts of at most 2^32 bytes. -/
import Derived.Test.YtpdfebalkkbpoaaDoorSplitLaw
import Derived.Test.YtpdfebalkkbpoaaDoorOpenSeatsFns
import Derived.Test.YtpdfebalkkbpoaaDoorLString
namespace Go.Proofs.YtpdfebalkkbpoaaDoor
set_option linter.unusedVariables false
open Go.RowKit

theorem spString_info : (Tryd.prog.info? 9).map (fun i => (i.zero, i.size, i.bytes)) = some (some (.string ByteArray.empty), 1, 16) := by kernel_rfl
theorem sp_one (x : ByteArray) : ∀ u ∈ [Value.string x], u.oneCell' = true := by
  intro u hu
  simp only [List.mem_singleton] at hu
  subst hu; rfl
theorem sp_reads (w : World) (t : Nat) (u : ByteArray) : Reads (w.alloc (.cells #[.string u] t)) (w.alloc (.cells #[.string u] t)).heap.size 1 (some ⟨w.heap.size, 0, none⟩) 1 [.string u] :=
  Rd.reads (cells := strC) (xs := [u]) (by omega) strC_len (Blk.rd (cells := strC) (xs := [u]) (t := t) strC_len (Blk.new w t #[.string u]))
def partOf (s : ByteArray) (f i : Nat) : List UInt8 := (s.data.toList.take i).drop f
theorem part_eq (s : ByteArray) (f i : Nat) : s.extract f i = ⟨(partOf s f i).toArray⟩ := by
  apply ByteArray.ext
  apply Array.ext'
  rw [ByteArray.data_extract, Array.toList_extract]
  simp [partOf, List.extract_eq_take_drop, List.drop_take]
def SplitAt (c : UInt8) (s : ByteArray) (O : List ByteArray) (f i : Nat) : Prop := splitS c s = O ++ (splitO c (partOf s f i) (s.data.toList.drop i)).map fun l => ⟨l.toArray⟩
theorem splitAt_start (c : UInt8) (s : ByteArray) : SplitAt c s [] 0 0 := by simp [SplitAt, splitS, partOf]
theorem splitAt_hit {c : UInt8} {s : ByteArray} {O : List ByteArray} {f i : Nat} (h : SplitAt c s O f i) (hi : i < s.data.toList.length) (e : s.data.toList[i] = c) : SplitAt c s (O ++ [⟨(partOf s f i).toArray⟩]) (i + 1) (i + 1) := by
  unfold SplitAt at h ⊢
  rw [List.drop_eq_getElem_cons hi, e, splitO_hit] at h
  rw [h, List.append_assoc]
  congr 1
  simp only [List.map_cons, List.singleton_append]
  congr 3
  simp [partOf]
theorem splitAt_miss {c : UInt8} {s : ByteArray} {O : List ByteArray} {f i : Nat} (h : SplitAt c s O f i) (hf : f ≤ i) (hi : i < s.data.toList.length) (e : s.data.toList[i] ≠ c) : SplitAt c s O f (i + 1) := by
  unfold SplitAt at h ⊢
  rw [List.drop_eq_getElem_cons hi, splitO_miss e] at h
  rw [h]
  congr 3
  unfold partOf
  rw [List.take_succ_eq_append_getElem hi, List.drop_append_of_le_length (by rw [List.length_take]; omega)]
theorem splitAt_end {c : UInt8} {s : ByteArray} {O : List ByteArray} {f : Nat} (h : SplitAt c s O f s.data.toList.length) : splitS c s = O ++ [⟨(partOf s f s.data.toList.length).toArray⟩] := by
  unfold SplitAt at h
  rw [h, List.drop_length]
  simp [splitO]
theorem splitAt_len {c : UInt8} {s : ByteArray} {O : List ByteArray} {f i : Nat} (h : SplitAt c s O f i) : O.length ≤ s.size + 1 := by
  have h1 := splitS_len c s
  unfold SplitAt at h
  rw [h, List.length_append] at h1
  omega

set_option maxRecDepth 100000 in
set_option maxHeartbeats 3200000 in
theorem c_l01Split (s : ByteArray) (c : UInt8) (w : World) (hs : s.size ≤ 4294967296) :
    Calls Tryd.prog 19 #[.string s, .int .u8 c.toNat] w fun e w' => ∃ A' c', e = .returned (.slice A' (splitS c s).length c') ∧ w'.ownsRow w.heap.size 9 1 (.slice A' (splitS c s).length c') (splitS c s).length ((splitS c s).flatMap strC) ∧ IsX w w' := by
  have HI := hide (info_parts spString_info)
  have HSZ := hide (show s.data.toList.length = s.size from rfl)
  obtain ⟨n, hn⟩ : ∃ n, n = s.size := ⟨_, rfl⟩
  have HN := hide hn
  rw [← hn] at hs
  clear hn
  go_enter Tryd.func19, Tryd.ntmps19
  go_wp2_with fail
  have HO : Hid ((w.alloc (.cells #[] 9)).ownsRow w.heap.size 9 1 (.slice (some ⟨w.heap.size, 0, none⟩) 0 0) 0 []) := hide (World.ownsRow_made w #[] 0 (Nat.le_refl _) (by simp [maxLen]) rfl)
  go_loopw [5, 6, 7] (fun ov fv iv wr => ∃ (O : List ByteArray) (A : Option Addr) (l f i co : Nat), f ≤ i ∧ i ≤ n ∧ l ≤ n + 1 ∧ Hid (l = O.length) ∧ ov = .slice A l co ∧ fv = .int .i64 f ∧ iv = .int .i64 i ∧ Hid (SplitAt c s O f i) ∧ Hid (wr.ownsRow w.heap.size 9 1 (.slice A l co) l (O.flatMap strC)) ∧ IsX w wr) (fun _ _ iv _ => n - (intOf iv).toNat)
  case atStart => exact ⟨[], _, 0, 0, 0, _, Nat.le_refl _, Nat.zero_le _, Nat.zero_le _, hide rfl, rfl, rfl, rfl, hide (splitAt_start c s), HO, (IsX.refl w).alloc _⟩
  case round =>
    clear HO
    obtain ⟨O, A, l, f, i, co, hfi, hi, hl, HLO, rfl, rfl, rfl, HSA, HO, p, rfl⟩ := hrel
    by_cases hlt : i < n
    · have hix : i < s.data.toList.length := by have := HN.out; have := HSZ.out; omega
      have hsn : i < s.size := by have := HN.out; omega
      have hpart : s.extract f i = ⟨(partOf s f i).toArray⟩ := part_eq s f i
      by_cases he : s.data.toList[i] = c
      · have hb : (((s[i]'hsn).toNat : Int) == (c.toNat : Int)) = true := by
          rw [show s[i]'hsn = c from he]; simp
        have HSA1 := hide (splitAt_hit HSA.out hix he)
        rw [← hpart] at HSA1
        obtain ⟨x, hx⟩ : ∃ x, x = s.extract f i := ⟨_, rfl⟩
        rw [← hx] at HSA1
        have HX := hide hx
        clear he hpart hx
        have hsz := HN.out.symm
        go_wp2_with (at_builtin; obtain ⟨i0, hi0, hz0, hz1, hz2⟩ := HI.out; refine wpList_append_any _ rfl (.tmp 20) (.tmp 25) _ rfl w.heap.size 9 i0 _ 1 16 Tryd.underlying39 hi0 hz0 hz1 hz2 rfl (by omega) _ l (O.flatMap strC) rfl (HO.out.alloc _) _ (some ⟨(xt w p).heap.size, 0, none⟩) 1 1 [.string (s.extract f i)] rfl (sp_reads (xt w p) 9 (s.extract f i)) (sp_one (s.extract f i)) (by simp only [maxLen]; omega) (by omega) (by have := size_xt w p; simp; omega) ?_; clear hi0 hz0 hz1 hz2; intro v1 w1 hown1 hg1 hat1; have HO1 := hide hown1; have hx1 : IsX w w1 := IsX.grown (IsX.alloc (w' := xt w p) ⟨p, rfl⟩ _) hg1 (by intro z hz; exact (HO.out.lt z hz).1); clear hown1 hg1 hat1; obtain ⟨p1, rfl⟩ := hx1)
        obtain ⟨A1, c1, rfl⟩ := row_slice HO1.out
        have HO2 : Hid (World.ownsRow (xt w p1) w.heap.size 9 1 (.slice A1 (l + 1) c1) (l + 1) ((O ++ [x]).flatMap strC)) := hide (by
          have h := HO1.out
          rw [HX.out, List.flatMap_append]
          exact h)
        clear hsz
        go_roundw
        case rel => exact ⟨O ++ [x], A1, l + 1, i + 1, i + 1, c1, Nat.le_refl _, by omega, by have := splitAt_len HSA1.out; have := HN.out; rw [List.length_append, List.length_singleton] at *; have := HLO.out; omega, hide (by rw [List.length_append, HLO.out]; rfl), rfl, by go_num, by go_num, HSA1, HO2, ⟨p1, rfl⟩⟩
        case measure => simp [intOf]; omega
      · have hb : (((s[i]'hsn).toNat : Int) == (c.toNat : Int)) = false := by
          cases hbb : (((s[i]'hsn).toNat : Int) == (c.toNat : Int))
          · rfl
          · exact absurd (show s[i]'hsn = c from UInt8.toNat_inj.1 (by have := eq_of_beq hbb; omega)) he
        have HSA1 := hide (splitAt_miss HSA.out hfi hix he)
        have hsz := HN.out.symm
        clear he hpart
        go_wp2_with fail
        clear hsz
        go_roundw
        case rel => exact ⟨O, A, l, f, i + 1, co, by omega, by omega, hl, HLO, rfl, rfl, by go_num, HSA1, HO, ⟨p, rfl⟩⟩
        case measure => simp [intOf]; omega
    · obtain rfl : i = n := by omega
      have hE : splitS c s = O ++ [s.extract f i] := by
        rw [part_eq]
        have h := HSA.out
        have e : i = s.data.toList.length := by rw [HSZ.out]; exact HN.out
        rw [e] at h ⊢
        exact splitAt_end h
      have HE := hide hE
      clear hE
      have hsz := HN.out.symm
      obtain ⟨x, hx⟩ : ∃ x, x = s.extract f i := ⟨_, rfl⟩
      rw [← hx] at HE
      have HX := hide hx
      clear hx
      go_wp2_with (at_builtin; obtain ⟨i0, hi0, hz0, hz1, hz2⟩ := HI.out; refine wpList_append_any _ rfl (.tmp 29) (.tmp 33) _ rfl w.heap.size 9 i0 _ 1 16 Tryd.underlying39 hi0 hz0 hz1 hz2 rfl (by omega) _ l (O.flatMap strC) rfl (HO.out.alloc _) _ (some ⟨(xt w p).heap.size, 0, none⟩) 1 1 [.string (s.extract f i)] rfl (sp_reads (xt w p) 9 (s.extract f i)) (sp_one (s.extract f i)) (by simp only [maxLen]; omega) (by omega) (by have := size_xt w p; simp; omega) ?_; clear hi0 hz0 hz1 hz2; intro v1 w1 hown1 hg1 hat1; have HO1 := hide hown1; have hx1 : IsX w w1 := IsX.grown (IsX.alloc (w' := xt w p) ⟨p, rfl⟩ _) hg1 (by intro z hz; exact (HO.out.lt z hz).1); clear hown1 hg1 hat1; obtain ⟨p1, rfl⟩ := hx1)
      obtain ⟨A1, c1, rfl⟩ := row_slice HO1.out
      have hlen : (splitS c s).length = l + 1 := by rw [HE.out, List.length_append, HLO.out]; rfl
      go_ret
      refine ⟨A1, c1, by rw [hlen]; rfl, ?_, ⟨p1, rfl⟩⟩
      rw [hlen, HE.out, List.flatMap_append, HX.out]
      exact HO1.out
end Go.Proofs.YtpdfebalkkbpoaaDoor
