/- A list of numbers read: ReadList of the reference and of the program. Conditions: texts of at most 2^31 bytes; the library's variables as the rows lay them. -/
import Derived.Test.YtmipphgekcdaoaaGreatDoorReadDec
import Derived.Test.YtmipphgekcdaoaaGreatDoorOpenSeatsFns
namespace Go.Proofs.YtmipphgekcdaoaaGreatDoor
set_option linter.unusedVariables false
open Go.RowKit

def elemOk (p : ByteArray) : Bool := numOk p.data.toList && inB (numR p.data.toList) (-1000000000000) 1000000000000
def elemV (p : ByteArray) : Int := numR p.data.toList
def partsOk (L : List ByteArray) : Bool := decide (L.length ≤ 64) && L.all elemOk
def isDash (s : ByteArray) : Bool := s.toList == [45]
def listOk (s : ByteArray) : Bool := isDash s || partsOk (splitS 44 s)
def listZ (s : ByteArray) : List Int := if isDash s = true then [] else if partsOk (splitS 44 s) = true then (splitS 44 s).map elemV else []
theorem list_dash {s : ByteArray} (h : isDash s = true) : listOk s = true ∧ listZ s = [] := by simp [listOk, listZ, h]
theorem list_bad {s : ByteArray} (h : isDash s = false) (h2 : partsOk (splitS 44 s) = false) : listOk s = false ∧ listZ s = [] := by simp [listOk, listZ, h, h2]
theorem list_good {s : ByteArray} (h : isDash s = false) (h2 : partsOk (splitS 44 s) = true) : listOk s = true ∧ listZ s = (splitS 44 s).map elemV := by simp [listOk, listZ, h, h2]
theorem parts_long {L : List ByteArray} (h : 64 < L.length) : partsOk L = false := by simp [partsOk]; omega
theorem parts_elem {L : List ByteArray} {i : Nat} (h : i < L.length) (e : elemOk L[i] = false) : partsOk L = false := by
  unfold partsOk
  cases hh : L.all elemOk
  · simp
  · have := List.all_eq_true.1 hh _ (List.getElem_mem h)
    rw [e] at this; cases this
theorem parts_all {L : List ByteArray} (h : L.length ≤ 64) (e : (L.take L.length).all elemOk = true) : partsOk L = true := by
  rw [List.take_length] at e
  simp [partsOk, h, e]
theorem take_all {L : List ByteArray} {i : Nat} (h : i < L.length) (e : elemOk L[i] = true) (ha : (L.take i).all elemOk = true) : (L.take (i + 1)).all elemOk = true := by
  rw [List.take_succ_eq_append_getElem h, List.all_append, ha]
  simp [e]
theorem take_map {L : List ByteArray} {i : Nat} (h : i < L.length) : ((L.take (i + 1)).map elemV).flatMap intC = ((L.take i).map elemV).flatMap intC ++ [.int .i64 (numR L[i].data.toList)] := by
  rw [List.take_succ_eq_append_getElem h, List.map_append, List.flatMap_append]; rfl
theorem splitO_count (c : UInt8) (s : List UInt8) : ∀ cur, (splitO c cur s).length = s.count c + 1 := by
  induction s with
  | nil => intro cur; simp [splitO]
  | cons x xs ih =>
    intro cur
    simp only [splitO]
    split
    · rename_i h
      subst h
      simp [ih]
    · rename_i h
      rw [ih, List.count_cons_of_ne (by simpa using h)]
theorem splitS_count (c : UInt8) (s : ByteArray) : (splitS c s).length = Lib.countB s ⟨#[c]⟩ + 1 := by
  unfold splitS
  rw [List.length_map, splitO_count, show Lib.countB s ⟨#[c]⟩ = s.data.toList.count c from Lib.count_one c s.data.toList]
/-- a list of numbers and whether it is one -/
def LPost (w : World) (s : ByteArray) (e : Ending) (w' : World) : Prop :=
  ∃ A c, e = .returned (.tuple #[.slice A (listZ s).length c, .bool (listOk s)]) ∧ w'.ownsRow w.heap.size 2 1 (.slice A (listZ s).length c) (listZ s).length ((listZ s).flatMap intC) ∧ IsX w w'
theorem LPost.none {w w' : World} {s : ByteArray} {b : Bool} (h : listOk s = b) (hz : listZ s = []) (hx : IsX w w') : LPost w s (.returned (.tuple #[.slice none 0 0, .bool b])) w' := by
  refine ⟨Option.none, 0, by rw [h, hz]; rfl, ?_, hx⟩
  rw [hz]
  exact ⟨rfl, .inl ⟨rfl, rfl⟩⟩

theorem strC_map (L : List ByteArray) : L.map Value.string = L.flatMap strC := by
  induction L with
  | nil => rfl
  | cons x xs ih => rw [List.map_cons, List.flatMap_cons, ih]; rfl
/-- strings.Split as rows of strings -/
theorem c_SplitRd (s : ByteArray) (c : UInt8) (w : World) (hs : s.size ≤ 2147483648) (he : EnvOk w) :
    Calls Tryz.prog 46 #[.string s, .string ⟨#[c]⟩] w fun e w' => ∃ g, e = .returned (.slice (some ⟨g, 0, none⟩) (splitS c s).length (splitS c s).length) ∧ Rd strC 1 w' (some ⟨g, 0, none⟩) (splitS c s) ∧ IsX w w' := by
  obtain ⟨_, _, _, m, hm⟩ := he
  refine (Tryz.strings_Split s ⟨#[c]⟩ m w (by omega) hm (Nat.le_refl _)).mono ?_
  rintro e w' ⟨rfl, rfl⟩
  rw [split_lib, ← splitS_count]
  exact ⟨_, rfl, Blk.rd (cells := strC) (t := 9) strC_len (by rw [← strC_map]; exact Blk.new w 9 _), (IsX.refl w).alloc _⟩
set_option maxRecDepth 100000 in
set_option maxHeartbeats 3200000 in
theorem i_ReadList (s : ByteArray) (w : World) (hs : s.size ≤ 2147483648) (he : EnvOk w) : Calls Tryz.prog 32 #[.string s] w (LPost w s) := by
  have HI := hide (info_parts Int64_info)
  cases hd : isDash s
  · have hd2 : (s.toList == [45]) = false := hd
    have HD := hide hd
    clear hd
    obtain ⟨L, hL⟩ : ∃ L, L = splitS 44 s := ⟨_, rfl⟩
    have hsz : ∀ p ∈ L, p.size ≤ s.size := by rw [hL]; exact splitS_size 44 s
    have hll : L.length ≤ s.size + 1 := by rw [hL]; exact splitS_len 44 s
    have HC := hide (c_SplitRd s 44 w hs he)
    have HE := hide he
    rw [← hL] at HC
    have HL := hide hL
    have HSZ := hide hsz
    obtain ⟨n, hn⟩ : ∃ n, n = L.length := ⟨_, rfl⟩
    rw [← hn] at HC hll
    have HN := hide hn
    clear hL hsz hn he
    go_enter Tryz.func32, Tryz.ntmps32
    go_wp2_with (go_at_call 46; refine HC.out.mono ?_; rintro e ws ⟨g, rfl, hR, hx⟩; have HR := hide hR; have HX := hide hx; clear hR hx)
    clear HC
    have HO : Hid (ws.ownsRow ws.heap.size 2 1 (.slice none 0 0) 0 []) := hide ⟨rfl, .inl ⟨rfl, rfl⟩⟩
    go_loopw [4, 14] (fun ov iv wr => ∃ (i co : Nat) (B : Option Addr), i ≤ n ∧ i ≤ 64 ∧ ov = .slice B i co ∧ iv = .int .i64 i ∧ Hid (wr.ownsRow ws.heap.size 2 1 (.slice B i co) i (((L.take i).map elemV).flatMap intC)) ∧ Hid ((L.take i).all elemOk = true) ∧ IsX ws wr) (fun _ iv _ => n - (intOf iv).toNat)
    case atStart => exact ⟨0, _, _, Nat.zero_le _, Nat.zero_le _, rfl, rfl, HO, hide (by simp), IsX.refl _⟩
    case round =>
      clear HO
      obtain ⟨i, co, B, hi, hi64, rfl, rfl, HO, HAL, hx2⟩ := hrel
      by_cases hlt : i < n
      · have hix : i < L.length := HN.out ▸ hlt
        obtain ⟨b, off, hAe, hb, ci⟩ := str_rd (HR.out.x hx2) (show L[i]? = some L[i] from List.getElem?_eq_getElem _)
        injection hAe with hAe
        injection hAe with e1 e2
        subst e1 e2
        rw [Nat.zero_add] at ci
        have hps : L[i].size ≤ 4294967296 := by have := HSZ.out _ (List.getElem_mem hix); omega
        have HX2 := hide hx2
        clear hx2
        have HCN : Hid (∀ W, IsX ws W → Calls Tryz.prog 47 #[.string L[i]] W fun e w' => e = .returned (.tuple #[.int .i64 (numR L[i].data.toList), .bool (numOk L[i].data.toList)]) ∧ IsX W w') := hide (fun W hW => c_ReadDecimal L[i] W hps (HE.out.x (HX.out.trans hW)))
        have HTM := hide (take_map hix)
        have HTA := hide (fun e => take_all hix e HAL.out)
        have HTF := hide (fun e => parts_elem hix e)
        have HEO := hide (show elemOk L[i] = (numOk L[i].data.toList && inB (numR L[i].data.toList) (-1000000000000) 1000000000000) from rfl)
        cases hk : numOk L[i].data.toList
        · have HB := hide (list_bad HD.out (HL.out ▸ HTF.out (by rw [HEO.out, hk]; rfl)))
          rw [hk] at HCN
          go_wp2_with (go_at_call 47; refine (HCN.out _ HX2.out).mono ?_; rintro e w3 ⟨rfl, hx3⟩; have HX3 := hide (HX2.out.trans hx3); clear hx3)
          go_ret2
          exact LPost.none HB.out.1 HB.out.2 (HX.out.trans HX3.out)
        · rw [hk] at HCN
          cases hin : inB (numR L[i].data.toList) (-1000000000000) 1000000000000
          · have HB := hide (list_bad HD.out (HL.out ▸ HTF.out (by rw [HEO.out, hk, hin]; rfl)))
            go_wp2_with first | (go_at_call 47; refine (HCN.out _ HX2.out).mono ?_; rintro e w3 ⟨rfl, hx3⟩; have HX3 := hide (HX2.out.trans hx3); clear hx3) | (go_at_call 38; refine (cb (c_within _ _ _ _) hin).mono ?_; rintro e w' ⟨rfl, rfl⟩)
            go_ret2
            exact LPost.none HB.out.1 HB.out.2 (HX.out.trans HX3.out)
          · by_cases h64 : i = 64
            · have g : ((i : Int) == 64) = true := by rw [h64]; rfl
              have HB := hide (list_bad HD.out (HL.out ▸ parts_long (by omega)))
              clear h64
              go_wp2_with first | (go_at_call 47; refine (HCN.out _ HX2.out).mono ?_; rintro e w3 ⟨rfl, hx3⟩; have HX3 := hide (HX2.out.trans hx3); clear hx3) | (go_at_call 38; refine (cb (c_within _ _ _ _) hin).mono ?_; rintro e w' ⟨rfl, rfl⟩)
              go_ret2
              exact LPost.none HB.out.1 HB.out.2 (HX.out.trans HX3.out)
            · have g : ((i : Int) == 64) = false := by simp; omega
              have HE2 := hide (HTA.out (by rw [HEO.out, hk, hin]; rfl))
              go_wp2_with first | (go_at_call 47; refine (HCN.out _ HX2.out).mono ?_; rintro e w3 ⟨rfl, hx3⟩; have HX3 := hide (HX2.out.trans hx3); have HO2 := hide (own_x HO.out hx3); obtain ⟨p2, rfl⟩ := HX3.out; clear hx3) | (go_at_call 38; refine (cb (c_within _ _ _ _) hin).mono ?_; rintro e w' ⟨rfl, rfl⟩) | (at_builtin; obtain ⟨i0, hi0, hz0, hz1, hz2⟩ := HI.out; refine wpList_append_any _ rfl (.tmp 35) (.tmp 37) _ rfl ws.heap.size 2 i0 _ 1 8 Tryz.underlying25 hi0 hz0 hz1 hz2 rfl (by omega) _ i (((L.take i).map elemV).flatMap intC) rfl (HO2.out.alloc _) _ (some ⟨(xt ws p2).heap.size, 0, none⟩) 1 1 [.int .i64 (numR L[i].data.toList)] rfl (one_reads' (xt ws p2) 2 (numR L[i].data.toList)) (one_one' (numR L[i].data.toList)) (by simp only [maxLen]; omega) (by omega) (by have := size_xt ws p2; simp; omega) ?_; clear hi0 hz0 hz1 hz2; intro v1 w1 hown1 hg1 hat1; have HO3 := hide hown1; have hx1 : IsX ws w1 := IsX.grown (IsX.alloc (w' := xt ws p2) ⟨p2, rfl⟩ _) hg1 (by intro z hz; exact (HO2.out.lt z hz).1); clear hown1 hg1 hat1; obtain ⟨p3, rfl⟩ := hx1)
              obtain ⟨B1, c1, rfl⟩ := row_slice HO3.out
              have HO4 : Hid (World.ownsRow (xt ws p3) ws.heap.size 2 1 (.slice B1 (i + 1) c1) (i + 1) (((L.take (i + 1)).map elemV).flatMap intC)) := hide (by rw [HTM.out]; exact HO3.out)
              go_roundw
              case rel => exact ⟨i + 1, c1, B1, by omega, by omega, rfl, by go_num, HO4, HE2, ⟨p3, rfl⟩⟩
              case measure => simp [intOf]; omega
      · obtain rfl : i = n := by omega
        have HB := hide (list_good HD.out (HL.out ▸ parts_all (by have := HN.out; omega) (by rw [← HN.out]; exact HAL.out)))
        have HZ : Hid (listZ s = (L.take i).map elemV) := hide (by rw [HB.out.2, ← HL.out, show i = L.length from HN.out, List.take_length])
        have hzl : (listZ s).length = i := by rw [HB.out.2, ← HL.out, List.length_map]; exact HN.out.symm
        have HZL := hide hzl
        have HX2 := hide hx2
        clear hx2 hzl
        go_wp2_with fail
        go_ret2
        refine ⟨B, co, by rw [HB.out.1, HZL.out]; rfl, ?_, HX.out.trans HX2.out⟩
        rw [HZL.out, HZ.out]
        exact row_le HO.out HX.out.size
  · have hd2 : (s.toList == [45]) = true := hd
    have HB := hide (list_dash hd)
    clear hd
    go_enter Tryz.func32, Tryz.ntmps32
    go_wp2_with fail
    go_ret2
    exact LPost.none HB.out.1 HB.out.2 (IsX.refl w)
end Go.Proofs.YtmipphgekcdaoaaGreatDoor
