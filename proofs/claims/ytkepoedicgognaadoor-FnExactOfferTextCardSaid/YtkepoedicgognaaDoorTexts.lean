/- Numbers as text, with the library's table: what the reference and the program compute. Conditions: from -1 to 2^40; the table as the program's text lays it. -/
import Derived.Test.YtkepoedicgognaaDoorDec
import Derived.Test.YtkepoedicgognaaDoorFmt
import Derived.Test.YtkepoedicgognaaDoorGroups
import Derived.Test.YtkepoedicgognaaDoorRings
import Derived.Test.YtkepoedicgognaaDoorOffers
import Derived.Test.YtkepoedicgognaaDoorLInt64
import Derived.Test.YtkepoedicgognaaDoorLString
import Derived.Lib.LaidTab
import Derived.Lib.Join
import Derived.StillTailTactics
namespace Go.Proofs.YtkepoedicgognaaDoor
set_option linter.unusedVariables false
open Go.RowKit

theorem tab_x {w w' : World} (h : Lib.TabIs Tryd.prog w "internal/strconv.uint64pow10" .u64 Lib.pow10Tab) (hx : IsX w w') : Lib.TabIs Tryd.prog w' "internal/strconv.uint64pow10" .u64 Lib.pow10Tab := by
  unfold Lib.TabIs World.var? at h ⊢
  cases hg : Tryd.prog.globalNamed "internal/strconv.uint64pow10" with
  | none => simp [hg] at h
  | some g =>
    simp only [hg, Option.bind_some] at h ⊢
    have hlt : g < w.heap.size := by
      rcases Nat.lt_or_ge g w.heap.size with h' | h'
      · exact h'
      · rw [Array.getElem?_eq_none h'] at h; cases h
    rw [hx.below.block g hlt]; exact h
def decI (z : Int) : ByteArray := ⟨(Lib.itoa z).toArray⟩
theorem decI_nn {z : Int} (h : 0 ≤ z) : decI z = decText z.toNat := by
  unfold decI decText Lib.itoa
  rw [if_neg (by omega)]
theorem decI_neg : decI (-1) = minusText := by
  unfold decI minusText minusOne Lib.itoa
  rw [if_pos (by omega), show (-1 : Int).natAbs = 1 from rfl, Lib.decDigits_one (by omega)]; rfl
theorem decI_size {z : Int} (h : -1 ≤ z) (h1 : z ≤ 1099511627776) : (decI z).size ≤ 1099511627780 := by
  by_cases h0 : 0 ≤ z
  · rw [decI_nn h0]; have := decText_size z.toNat; omega
  · obtain rfl : z = -1 := by omega
    rw [decI_neg]; show 2 ≤ _; omega
theorem c_decI (z : Int) (w : World) (h0 : -1 ≤ z) (h1 : z ≤ 1099511627776) : Calls Tryd.prog 64 #[.int .i64 z] w fun e w' => e = .returned (.string (decI z)) ∧ IsX w w' := by
  by_cases h : 0 ≤ z
  · rw [decI_nn h]
    obtain ⟨n, rfl⟩ := Int.eq_ofNat_of_zero_le h
    exact c_l01Dec n w (by omega)
  · obtain rfl : z = -1 := by omega
    rw [decI_neg]; exact c_l01Dec_neg w
theorem c_DecimalI (z : Int) (w : World) (h0 : -1 ≤ z) (h1 : z ≤ 1099511627776) (ht : Lib.TabIs Tryd.prog w "internal/strconv.uint64pow10" .u64 Lib.pow10Tab) : Calls Tryd.prog 38 #[.int .i64 z] w fun e w' => e = .returned (.string (decI z)) ∧ IsX w w' := by
  go_enter Tryd.func38, Tryd.ntmps38
  go_wp2_with fail
  refine (Tryd.strconv_FormatInt_10 z (by omega) (by omega) w ht).mono ?_
  rintro e w' ⟨rfl, k, os, hw⟩
  have hx : IsX w w' := by rw [hw]; exact ⟨⟨_, os⟩, rfl⟩
  clear hw
  go_wp2_with fail
  go_ret
  exact ⟨rfl, hx⟩

def GroupD.text (x : GroupD) : ByteArray := x.Name ++ ⟨#[32]⟩ ++ decI x.Persons ++ ⟨#[32]⟩ ++ decI x.Wish
def groupZ (x : GroupD) : ByteArray := if x.okB = true then x.text else ⟨#[]⟩
theorem group_ok {x : GroupD} (h : x.okB = true) : (1 ≤ x.Name.size ∧ x.Name.size ≤ 10) ∧ 1 ≤ x.Persons ∧ x.Persons ≤ 40 ∧ -1 ≤ x.Wish ∧ x.Wish ≤ 9 := by
  simp only [GroupD.okB, Bool.and_eq_true] at h
  have h1 := name_size h.1.1
  have h2 := inB_true.1 h.1.2
  have h3 := inB_true.1 h.2
  omega
theorem group_sizes {x : GroupD} (h : x.okB = true) : (x.Name ++ (⟨#[32]⟩ : ByteArray)).size ≤ 11 ∧ (decI x.Persons).size ≤ 1099511627780 ∧ (decI x.Wish).size ≤ 1099511627780 ∧ (x.Name ++ (⟨#[32]⟩ : ByteArray) ++ decI x.Persons).size ≤ 1099511627800 ∧ (x.Name ++ (⟨#[32]⟩ : ByteArray) ++ decI x.Persons ++ (⟨#[32]⟩ : ByteArray)).size ≤ 1099511627801 ∧ (⟨#[32]⟩ : ByteArray).size = 1 ∧ x.Name.size ≤ 10 := by
  have h0 := group_ok h
  have z1 := decI_size (z := x.Persons) (by omega) (by omega)
  have z2 := decI_size (z := x.Wish) (by omega) (by omega)
  have z0 : (⟨#[32]⟩ : ByteArray).size = 1 := rfl
  refine ⟨?_, ?_, ?_, ?_, ?_, ?_, ?_⟩ <;> (try simp only [ByteArray.size_append, z0]) <;> omega
set_option maxHeartbeats 1600000 in
theorem c_l24Text (x : GroupD) (b off : Nat) (w : World) (hok : x.okB = true) (hb : b < w.heap.size) (c0 : w.cell? ⟨b, off, none⟩ = some (.string x.Name)) (c1 : w.cell? ⟨b, off + 1, none⟩ = some (.int .i64 x.Persons)) (c2 : w.cell? ⟨b, off + 2, none⟩ = some (.int .i64 x.Wish)) :
    Calls Tryd.prog 36 #[.pointer (some ⟨b, off, none⟩)] w fun e w' => e = .returned (.string x.text) ∧ IsX w w' := by
  have HT := hide (show x.text = x.Name ++ ⟨#[32]⟩ ++ decI x.Persons ++ ⟨#[32]⟩ ++ decI x.Wish from rfl)
  obtain ⟨z0, z1, z2, z3, z4, z5, z6⟩ := group_sizes hok
  have HK := hide (group_ok hok)
  clear hok
  go_enter Tryd.func36, Tryd.ntmps36
  go_wp2
  refine wp_region_x (by kernel_rfl) (by kernel_rfl) ?_
  repeat (first | go_big_quiet_step ((go_at_call 64; first | (with_reducible exact call_x (c_decI x.Persons _ (by have := HK.out; omega) (by have := HK.out; omega))) | (with_reducible exact call_x (c_decI x.Wish _ (by have := HK.out; omega) (by have := HK.out; omega))))) | quiet_step (fail))
  refine wpQuiet_nil ?_
  rintro _ ⟨q, rfl⟩
  go_wp2
  go_ret
  exact ⟨by rw [HT.out]; rfl, ⟨q, rfl⟩⟩
theorem s_GroupText (x0 : GroupD) (w : World) (hx0 : x0.wf) : Calls Tryd.prog 16 #[.agg #[.string x0.Name, .int .i64 x0.Persons, .int .i64 x0.Wish]] w fun e w' => e = .returned (.string (groupZ x0)) ∧ IsX w w' := by
  have hs0 : x0.Name.size ≤ maxLen := by have := hx0; simp only [GroupD.wf] at this; omega
  cases hok : x0.okB
  · have HR := hide (show groupZ x0 = ⟨#[]⟩ by simp [groupZ, hok])
    go_enter Tryd.func16, Tryd.ntmps16
    go_wp2_with fail
    obtain ⟨W, hW⟩ : ∃ W, W = w.alloc (.cells #[.string x0.Name, .int .i64 x0.Persons, .int .i64 x0.Wish] 37) := ⟨_, rfl⟩
    have hx : IsX w W := hW ▸ (IsX.refl w).alloc _
    have hB : Blk W w.heap.size 37 #[.string x0.Name, .int .i64 x0.Persons, .int .i64 x0.Wish] := hW ▸ Blk.new w _ _
    rw [← hW]
    clear hW
    refine (cb (c_l24One x0 w.heap.size 0 W hs0 (hB.cell 0) (hB.cell 1) (hB.cell 2)) hok).mono ?_
    rintro e w' ⟨rfl, rfl⟩
    go_wp2_with fail
    go_ret
    exact ⟨by rw [HR.out]; rfl, hx⟩
  have HR := hide (show groupZ x0 = x0.text by simp [groupZ, hok])
  have HOK := hide hok
  go_enter Tryd.func16, Tryd.ntmps16
  go_wp2_with fail
  obtain ⟨W, hW⟩ : ∃ W, W = w.alloc (.cells #[.string x0.Name, .int .i64 x0.Persons, .int .i64 x0.Wish] 37) := ⟨_, rfl⟩
  have hx : IsX w W := hW ▸ (IsX.refl w).alloc _
  have hB : Blk W w.heap.size 37 #[.string x0.Name, .int .i64 x0.Persons, .int .i64 x0.Wish] := hW ▸ Blk.new w _ _
  rw [← hW]
  clear hW
  refine (cb (c_l24One x0 w.heap.size 0 W hs0 (hB.cell 0) (hB.cell 1) (hB.cell 2)) hok).mono ?_
  rintro e w' ⟨rfl, rfl⟩
  go_wp2_with fail
  refine (c_l24Text x0 w.heap.size 0 W HOK.out hB.lt (hB.cell 0) (hB.cell 1) (hB.cell 2)).mono ?_
  rintro e w2 ⟨rfl, hx2⟩
  go_wp2_with fail
  go_ret
  exact ⟨by rw [HR.out]; rfl, hx.trans hx2⟩
set_option maxHeartbeats 1600000 in
theorem i_GroupText (x0 : GroupD) (w : World) (hx0 : x0.wf) (ht : Lib.TabIs Tryd.prog w "internal/strconv.uint64pow10" .u64 Lib.pow10Tab) : Calls Tryd.prog 18 #[.agg #[.string x0.Name, .int .i64 x0.Persons, .int .i64 x0.Wish]] w fun e w' => e = .returned (.string (groupZ x0)) ∧ IsX w w' := by
  have hs0 : x0.Name.size ≤ maxLen := by have := hx0; simp only [GroupD.wf] at this; omega
  have HTB := hide ht
  clear ht
  cases hok : x0.okB
  · have HR := hide (show groupZ x0 = ⟨#[]⟩ by simp [groupZ, hok])
    go_enter Tryd.func18, Tryd.ntmps18
    go_wp2_with fail
    refine (cb (c_validGroup x0 _ hs0) hok).mono ?_
    rintro e w' ⟨rfl, hx⟩
    go_wp2_with fail
    go_ret
    exact ⟨by rw [HR.out]; rfl, IsX.trans ((IsX.refl w).alloc _) hx⟩
  have HR := hide (show groupZ x0 = x0.Name ++ ⟨#[32]⟩ ++ decI x0.Persons ++ ⟨#[32]⟩ ++ decI x0.Wish by simp [groupZ, hok, GroupD.text])
  obtain ⟨z0, z1, z2, z3, z4, z5, z6⟩ := group_sizes hok
  have HK := hide (group_ok hok)
  go_enter Tryd.func18, Tryd.ntmps18
  go_wp2_with fail
  obtain ⟨W, hW⟩ : ∃ W, W = w.alloc (.cells #[.string x0.Name, .int .i64 x0.Persons, .int .i64 x0.Wish] 37) := ⟨_, rfl⟩
  have hx : IsX w W := hW ▸ (IsX.refl w).alloc _
  have hB : Blk W w.heap.size 37 #[.string x0.Name, .int .i64 x0.Persons, .int .i64 x0.Wish] := hW ▸ Blk.new w _ _
  rw [← hW]
  clear hW
  refine (cb (c_validGroup x0 W hs0) hok).mono ?_
  rintro e w1 ⟨rfl, hx1⟩
  replace hB := hB.x hx1
  have HX := hide (hx.trans hx1)
  obtain ⟨bx, hbx⟩ : ∃ bx, bx = w.heap.size := ⟨_, rfl⟩
  rw [← hbx] at hB ⊢
  have d0 := hB.cell 0
  have d1 := hB.cell 1
  have d2 := hB.cell 2
  simp at d0 d1 d2
  have hlb := hB.lt
  have HTW := hide (show ∀ p : Regrown, Lib.TabIs Tryd.prog (xt w1 p) "internal/strconv.uint64pow10" .u64 Lib.pow10Tab from fun p => tab_x HTB.out (IsX.xt (hx.trans hx1) p))
  clear hB hx hx1 hok hbx
  go_wp2
  refine wp_region_x (by kernel_rfl) (by kernel_rfl) ?_
  repeat (first | go_big_quiet_step ((go_at_call 38; first | (with_reducible exact call_x (c_DecimalI x0.Persons _ (by have := HK.out; omega) (by have := HK.out; omega) (HTW.out _))) | (with_reducible exact call_x (c_DecimalI x0.Wish _ (by have := HK.out; omega) (by have := HK.out; omega) (HTW.out _))))) | quiet_step (fail))
  refine wpQuiet_nil ?_
  rintro _ ⟨q, rfl⟩
  go_wp2
  go_ret
  exact ⟨by rw [HR.out]; rfl, HX.out.trans ⟨q, rfl⟩⟩

def listT (xs : List Int) : ByteArray := ⟨(Lib.join (xs.map Lib.itoa) [44]).toArray⟩
theorem bytes_app (a b : List UInt8) : (⟨a.toArray⟩ : ByteArray) ++ ⟨b.toArray⟩ = ⟨(a ++ b).toArray⟩ := by
  apply ByteArray.ext
  simp
theorem list_one {xs : List Int} (h : 0 < xs.length) : (⟨#[]⟩ : ByteArray) ++ decI xs[0] = listT (xs.take 1) := by
  have e : xs.take 1 = [xs[0]] := by
    cases xs with
    | nil => simp at h
    | cons y ys => rfl
  rw [e]
  unfold listT decI
  rw [List.map_cons, List.map_nil, Lib.join_one]
  exact (bytes_app [] _).trans (by rw [List.nil_append])
theorem list_more {xs : List Int} {j : Nat} (h : j + 1 < xs.length) : listT (xs.take (j + 1)) ++ ⟨#[44]⟩ ++ decI xs[j + 1] = listT (xs.take (j + 1 + 1)) := by
  obtain ⟨x, r, rfl⟩ : ∃ x r, xs = x :: r := by
    cases xs with
    | nil => simp at h
    | cons y ys => exact ⟨y, ys, rfl⟩
  have hj : j < r.length := by simpa using h
  have hy : (r.map Lib.itoa)[j]? = some (Lib.itoa r[j]) := by rw [List.getElem?_map, List.getElem?_eq_getElem hj]; rfl
  unfold listT decI
  rw [List.take_succ_cons, List.take_succ_cons, List.map_cons, List.map_cons, Lib.join_cons, Lib.join_cons, List.map_take, List.map_take, Lib.joinTail_take_succ _ _ _ _ hy, List.getElem_cons_succ]
  rw [show (⟨#[44]⟩ : ByteArray) = ⟨[44].toArray⟩ from rfl, bytes_app, bytes_app]
  simp only [List.append_assoc]
theorem list_zero (xs : List Int) : listT (xs.take 0) = ⟨#[]⟩ := rfl
set_option maxHeartbeats 1600000 in
theorem c_l01List (A : Option Addr) (c : Nat) (xs : List Int) (w : World) (h1 : 0 < xs.length) (hn : xs.length ≤ 64) (hb : ∀ z ∈ xs, 0 ≤ z ∧ z ≤ 1000000) (hA : Rd intC 1 w A xs) :
    Calls Tryd.prog 68 #[.slice A xs.length c] w fun e w' => e = .returned (.string (listT xs)) ∧ IsX w w' ∧ (listT xs).size ≤ 1099511627790 * 64 := by
  obtain ⟨n, hnn⟩ : ∃ n, n = xs.length := ⟨_, rfl⟩
  have HN := hide hnn
  rw [← hnn] at hn h1 ⊢
  clear hnn
  have HB := hide hb
  have hnb : ((n : Int) == 0) = false := by rw [beq_eq_false_iff_ne]; omega
  clear hb
  go_enter Tryd.func68, Tryd.ntmps68
  go_wp2_with fail
  clear hnb
  have z6 : (⟨#[44]⟩ : ByteArray).size = 1 := rfl
  have z7 : (⟨#[]⟩ : ByteArray).size = 0 := rfl
  go_loopw [3, 4] (fun s i wr => ∃ k : Nat, k ≤ n ∧ i = .int .i64 k ∧ s = .string (listT (xs.take k)) ∧ (listT (xs.take k)).size ≤ 1099511627790 * k ∧ IsX w wr) (fun _ i _ => n - (intOf i).toNat)
  case atStart => exact ⟨0, Nat.zero_le _, rfl, rfl, Nat.zero_le _, IsX.refl _⟩
  case round =>
    obtain ⟨k, hk, rfl, rfl, hsz, p, rfl⟩ := hrel
    by_cases hlt : k < n
    · have hltx : k < xs.length := HN.out ▸ hlt
      obtain ⟨b, off, rfl, hbb, c0⟩ := int_rd hA (show xs[k]? = some xs[k] from List.getElem?_eq_getElem _)
      have HZ := hide (HB.out _ (List.getElem_mem hltx))
      have z1 := decI_size (z := xs[k]) (by have := HZ.out; omega) (by have := HZ.out; omega)
      clear hA
      cases k with
      | zero =>
        rw [show (((0 : Nat) : Int)) = 0 from rfl]
        rw [list_zero]
        simp only [Nat.add_zero] at c0
        have HE := hide (list_one hltx)
        have hz2 : ((⟨#[]⟩ : ByteArray) ++ decI xs[0]).size ≤ 1099511627790 * 1 := by rw [ByteArray.size_append]; omega
        rw [HE.out] at hz2
        clear hsz
        go_wp2_with (go_at_call 64; refine (c_decI xs[0] _ (by have := HZ.out; omega) (by have := HZ.out; omega)).mono ?_; rintro e w1 ⟨rfl, q, rfl⟩)
        go_roundw
        case rel => exact ⟨1, by omega, by go_num, by rw [← HE.out], hz2, IsX.xt ⟨p, rfl⟩ q⟩
        case measure => simp [intOf]; omega
      | succ j =>
        have HE := hide (list_more hltx)
        have z3 : (listT (xs.take (j + 1)) ++ (⟨#[44]⟩ : ByteArray)).size ≤ 1099511627790 * (j + 1) + 1 := by rw [ByteArray.size_append]; omega
        have hz2 : (listT (xs.take (j + 1)) ++ (⟨#[44]⟩ : ByteArray) ++ decI xs[j + 1]).size ≤ 1099511627790 * (j + 1 + 1) := by rw [ByteArray.size_append]; omega
        rw [HE.out] at hz2
        rw [show (((j + 1 : Nat) : Int)) = (j : Int) + 1 from rfl]
        have hjn : j < 64 := by omega
        go_wp2_with (go_at_call 64; refine (c_decI xs[j + 1] _ (by have := HZ.out; omega) (by have := HZ.out; omega)).mono ?_; rintro e w1 ⟨rfl, q, rfl⟩)
        go_roundw
        case rel => exact ⟨j + 1 + 1, by omega, by go_num, by rw [← HE.out], hz2, IsX.xt ⟨p, rfl⟩ q⟩
        case measure => simp [intOf]; omega
    · obtain rfl : k = n := by omega
      have HT := hide (show xs.take k = xs by rw [HN.out]; exact List.take_length)
      rw [HT.out] at hsz ⊢
      go_wp2_with fail
      go_ret
      exact ⟨rfl, ⟨p, rfl⟩, Nat.le_trans hsz (Nat.mul_le_mul_left _ hn)⟩

theorem TString_info : (Tryd.prog.info? 9).map (fun i => (i.zero, i.size, i.bytes)) = some (some (.string ByteArray.empty), 1, 16) := by kernel_rfl
theorem list_size {xs : List Int} (hb : ∀ z ∈ xs, 0 ≤ z ∧ z ≤ 1000000) : ∀ k, k ≤ xs.length → (listT (xs.take k)).size ≤ 1099511627790 * k
  | 0, _ => by rw [list_zero]; exact Nat.zero_le _
  | 1, h => by
    have z1 := decI_size (z := xs[0]) (by have := hb _ (List.getElem_mem h); omega) (by have := hb _ (List.getElem_mem h); omega)
    rw [← list_one h, ByteArray.size_append]
    have : (⟨#[]⟩ : ByteArray).size = 0 := rfl
    omega
  | j + 1 + 1, h => by
    have ih := list_size hb (j + 1) (by omega)
    have z1 := decI_size (z := xs[j + 1]) (by have := hb _ (List.getElem_mem h); omega) (by have := hb _ (List.getElem_mem h); omega)
    rw [← list_more h, ByteArray.size_append, ByteArray.size_append]
    have : (⟨#[44]⟩ : ByteArray).size = 1 := rfl
    omega
theorem list_join (xs : List Int) : (⟨(Lib.join ((xs.map decI).map (·.data.toList)) (⟨#[44]⟩ : ByteArray).data.toList).toArray⟩ : ByteArray) = listT xs := by
  unfold listT
  rw [List.map_map]
  have e : ((fun x : ByteArray => x.data.toList) ∘ decI) = Lib.itoa := by
    funext z; simp [decI]
  rw [e]
set_option maxHeartbeats 1600000 in
theorem c_ListText (A : Option Addr) (c : Nat) (xs : List Int) (w : World) (h1 : 0 < xs.length) (hn : xs.length ≤ 64) (hb : ∀ z ∈ xs, 0 ≤ z ∧ z ≤ 1000000) (hA : Rd intC 1 w A xs) (ht : Lib.TabIs Tryd.prog w "internal/strconv.uint64pow10" .u64 Lib.pow10Tab) :
    Calls Tryd.prog 42 #[.slice A xs.length c] w fun e w' => e = .returned (.string (listT xs)) ∧ IsX w w' ∧ (listT xs).size ≤ 1099511627790 * 64 := by
  have HTB := hide ht
  have hlz := list_size hb xs.length (Nat.le_refl _)
  rw [List.take_length] at hlz
  have HLZ := hide (Nat.le_trans hlz (Nat.mul_le_mul_left _ hn))
  have HJ := hide (list_join xs)
  clear ht hlz
  obtain ⟨i0, hi0, hz0, hz1, hz2⟩ := info_parts TString_info
  obtain ⟨n, hnn⟩ : ∃ n, n = xs.length := ⟨_, rfl⟩
  have HN := hide hnn
  rw [← hnn] at hn h1 ⊢
  clear hnn
  have HB := hide hb
  have hnb : ((n : Int) == 0) = false := by rw [beq_eq_false_iff_ne]; omega
  clear hb
  have hmk := fun W => run_make_rowN (P := Tryd.prog) 87 9 i0 _ Tryd.underlying87 hi0 hz0 .i64 .i64 n n (Nat.le_refl _) (by rw [hz2]; omega) (by omega) W
  rw [hz1] at hmk
  clear hz0 hz1 hz2 hi0
  go_enter Tryd.func42, Tryd.ntmps42
  go_wp2_with fail
  clear hnb
  go_loopw [17] (fun i wr => ∃ k : Nat, k ≤ n ∧ i = .int .i64 k ∧ Filled strC 1 9 w wr w.heap.size (xs.map decI) k) (fun i _ => n - (intOf i).toNat)
  case atStart => exact ⟨0, Nat.zero_le _, rfl, Filled.start w (IsX.refl _) _ (by rw [List.length_map, ← HN.out]; first | exact size_madeCells _ _ | (rw [Nat.mul_one]; exact size_madeCells _ _))⟩
  case round =>
    obtain ⟨k, hk, rfl, hrel⟩ := hrel
    obtain ⟨⟨p, rfl⟩, cur, hB, hcs, hcur⟩ := hrel
    have HCUR := hide hcur
    clear hcur
    by_cases hlt : k < n
    · have hltx : k < xs.length := HN.out ▸ hlt
      obtain ⟨b, off, rfl, hbb, c0⟩ := int_rd hA (show xs[k]? = some xs[k] from List.getElem?_eq_getElem _)
      have HZ := hide (HB.out _ (List.getElem_mem hltx))
      have hin : inB xs[k] (-1000000000000) 1000000000000 = true := inB_true.2 (by have := HZ.out; omega)
      have hcs' : cur.size = n := by rw [hcs, List.length_map, Nat.mul_one, ← HN.out]
      have hmz : (xs.map decI)[k]? = some (decI xs[k]) := by rw [List.getElem?_map, List.getElem?_eq_getElem hltx]; rfl
      have HMZ := hide hmz
      have HCS := hide hcs
      clear hA hmz hcs
      go_wp2_with first | (go_at_call 58; refine (cb (c_within xs[k] _ _ _) hin).mono ?_; rintro e w' ⟨rfl, rfl⟩) | (go_at_call 38; refine (c_DecimalI xs[k] _ (by have := HZ.out; omega) (by have := HZ.out; omega) (tab_x HTB.out ⟨p, rfl⟩)).mono ?_; rintro e w1 ⟨rfl, hx1⟩; have hB1 := hB.x hx1; obtain ⟨v0, s0⟩ := hB1.has (i := k) (by rw [hcs']; exact hlt); have z0 := hB1.frozen k; have hlb := hB1.lt; have HX1 := hide (IsX.trans ⟨p, rfl⟩ hx1); have HB1 := hide hB1; clear hB hB1 hx1)
      have hst := Filled.step (cells := strC) (x := decI xs[k]) HB1.out HCS.out HCUR.out HMZ.out strC_len HX1.out (Nat.le_refl _)
      rw [Nat.mul_one] at hst
      have HST := hide hst
      clear hst
      go_roundw
      case rel => exact ⟨k + 1, by omega, by go_num, HST.out⟩
      case measure => simp [intOf]; omega
    · obtain rfl : k = n := by omega
      have hfd := Filled.done (cells := strC) (xs := xs.map decI) (w := w) (wr := xt w p) (g := w.heap.size) (by rw [List.length_map, ← HN.out]; exact ⟨⟨p, rfl⟩, cur, hB, hcs, HCUR.out⟩) strC_len
      have hrd := hfd.1.rd (cells := strC) strC_len
      have HC := hide (show ∀ (j : Nat) x, (xs.map decI)[j]? = some x → (xt w p).cell? ⟨w.heap.size, 0 + j, none⟩ = some (.string x) from fun j x hj => by
        obtain ⟨b3, off3, e3, _, c3⟩ := str_rd hrd hj
        injection e3 with e3
        injection e3 with e4 e5
        subst e4 e5
        exact c3)
      have hlt2 := hfd.1.lt
      have hlen : (xs.map decI).length = k := by rw [List.length_map, ← HN.out]
      have HJN := hide (Tryd.strings_Join w.heap.size 0 k (xs.map decI) ⟨#[44]⟩ (xt w p) HC.out hlt2 (by omega) (by omega) (by
        have h3 : (Lib.join ((xs.map decI).map (·.data.toList)) (⟨#[44]⟩ : ByteArray).data.toList).length = (listT xs).size := by rw [← HJ.out]; rfl
        rw [h3]; have := HLZ.out; omega))
      have HJ2 := hide (show Calls Tryd.prog 69 #[.slice (some ⟨w.heap.size, 0, none⟩) k k, .string ⟨#[44]⟩] (xt w p) fun e w' => e = .returned (.string (listT xs)) ∧ Below (xt w p).heap.size (xt w p) w' from by
        have h := HJN.out; rw [hlen, HJ.out] at h; exact h)
      clear hfd hrd hB hcs hlen hlt2
      go_wp2_with (go_at_call 69; refine HJ2.out.mono ?_; rintro e w1 ⟨rfl, hbl⟩; have hx1 := IsX.of_below hbl; clear hbl)
      go_ret
      exact ⟨rfl, IsX.trans ⟨p, rfl⟩ hx1, HLZ.out⟩

def RingD.nums (x : RingD) : List Int := [x.Radius, x.Count, x.From, x.Step, x.Price]
def RingD.text (x : RingD) : ByteArray := listT x.nums
def textRingZ (x : RingD) : ByteArray := if x.okB = true then x.text else ⟨#[]⟩
theorem numsRing_ok {x : RingD} (h : x.okB = true) : ∀ z ∈ x.nums, 0 ≤ z ∧ z ≤ 1000000 := by
  simp only [RingD.okB, Bool.and_eq_true] at h
  have h0 := inB_true.1 h.1.1.1.1.1
  have h1 := inB_true.1 h.1.1.1.1.2
  have h2 := inB_true.1 h.1.1.1.2
  have h3 := inB_true.1 h.1.1.2
  have h4 := inB_true.1 h.1.2
  intro z hz
  simp only [RingD.nums, List.mem_cons, List.not_mem_nil, or_false] at hz
  rcases hz with rfl | rfl | rfl | rfl | rfl <;> omega

set_option maxRecDepth 100000 in
set_option maxHeartbeats 1600000 in
theorem c_l23Text (x : RingD) (b off : Nat) (w : World) (hok : x.okB = true) (hb : b < w.heap.size) (c0 : w.cell? ⟨b, off, none⟩ = some (.int .i64 x.Radius)) (c1 : w.cell? ⟨b, off + 1, none⟩ = some (.int .i64 x.Count)) (c2 : w.cell? ⟨b, off + 2, none⟩ = some (.int .i64 x.From)) (c3 : w.cell? ⟨b, off + 3, none⟩ = some (.int .i64 x.Step)) (c4 : w.cell? ⟨b, off + 4, none⟩ = some (.int .i64 x.Price)) :
    Calls Tryd.prog 40 #[.pointer (some ⟨b, off, none⟩)] w fun e w' => e = .returned (.string x.text) ∧ IsX w w' := by
  have HT := hide (show x.text = listT x.nums from rfl)
  have HK := hide (numsRing_ok hok)
  clear hok
  have hl := c_l01List (some ⟨w.heap.size, 0, none⟩) 5 x.nums ((w.alloc (.cells #[.int .i64 x.Radius, .int .i64 x.Count, .int .i64 x.From, .int .i64 x.Step, .int .i64 x.Price] 2)).drew) (by simp [RingD.nums]) (by simp [RingD.nums]) HK.out (Blk.rd intC_len ((Blk.new w 2 #[.int .i64 x.Radius, .int .i64 x.Count, .int .i64 x.From, .int .i64 x.Step, .int .i64 x.Price]).x (IsX.drew (IsX.refl _))))
  have HL : Hid (Calls Tryd.prog 68 #[.slice (some ⟨w.heap.size, 0, none⟩) 5 5] ((w.alloc (.cells #[.int .i64 x.Radius, .int .i64 x.Count, .int .i64 x.From, .int .i64 x.Step, .int .i64 x.Price] 2)).drew) _) := hide hl
  have hx : IsX w ((w.alloc (.cells #[.int .i64 x.Radius, .int .i64 x.Count, .int .i64 x.From, .int .i64 x.Step, .int .i64 x.Price] 2)).drew) := IsX.drew ((IsX.refl w).alloc _)
  clear hl
  go_enter Tryd.func40, Tryd.ntmps40
  go_wp2
  go_still_tail 20, (by kernel_rfl)
  change wpList _ _ _ _ _ w.drew
  go_wp2_with (go_at_call 68; refine HL.out.mono ?_; rintro e w1 ⟨rfl, hx1, hls⟩)
  go_ret
  exact ⟨by rw [HT.out]; rfl, hx.trans hx1⟩

theorem s_RingText (x0 : RingD) (w : World) (hx0 : x0.wf) : Calls Tryd.prog 19 #[.agg #[.int .i64 x0.Radius, .int .i64 x0.Count, .int .i64 x0.From, .int .i64 x0.Step, .int .i64 x0.Price]] w fun e w' => e = .returned (.string (textRingZ x0)) ∧ IsX w w' := by
  cases hok : x0.okB
  · have HR := hide (show textRingZ x0 = ⟨#[]⟩ by simp [textRingZ, hok])
    go_enter Tryd.func19, Tryd.ntmps19
    go_wp2_with fail
    obtain ⟨W, hW⟩ : ∃ W, W = w.alloc (.cells #[.int .i64 x0.Radius, .int .i64 x0.Count, .int .i64 x0.From, .int .i64 x0.Step, .int .i64 x0.Price] 43) := ⟨_, rfl⟩
    have hx : IsX w W := hW ▸ (IsX.refl w).alloc _
    have hB : Blk W w.heap.size 43 #[.int .i64 x0.Radius, .int .i64 x0.Count, .int .i64 x0.From, .int .i64 x0.Step, .int .i64 x0.Price] := hW ▸ Blk.new w _ _
    rw [← hW]
    clear hW
    refine (cb (c_l23One x0 w.heap.size 0 W hB.lt (hB.cell 0) (hB.cell 1) (hB.cell 2) (hB.cell 3) (hB.cell 4)) hok).mono ?_
    rintro e w' ⟨rfl, hx1⟩
    go_wp2_with fail
    go_ret
    exact ⟨by rw [HR.out]; rfl, hx.trans hx1⟩
  have HR := hide (show textRingZ x0 = x0.text by simp [textRingZ, hok])
  have HOK := hide hok
  go_enter Tryd.func19, Tryd.ntmps19
  go_wp2_with fail
  obtain ⟨W, hW⟩ : ∃ W, W = w.alloc (.cells #[.int .i64 x0.Radius, .int .i64 x0.Count, .int .i64 x0.From, .int .i64 x0.Step, .int .i64 x0.Price] 43) := ⟨_, rfl⟩
  have hx : IsX w W := hW ▸ (IsX.refl w).alloc _
  have hB : Blk W w.heap.size 43 #[.int .i64 x0.Radius, .int .i64 x0.Count, .int .i64 x0.From, .int .i64 x0.Step, .int .i64 x0.Price] := hW ▸ Blk.new w _ _
  rw [← hW]
  clear hW
  refine (cb (c_l23One x0 w.heap.size 0 W hB.lt (hB.cell 0) (hB.cell 1) (hB.cell 2) (hB.cell 3) (hB.cell 4)) hok).mono ?_
  rintro e w1 ⟨rfl, hx1⟩
  replace hB := hB.x hx1
  go_wp2_with fail
  refine (c_l23Text x0 w.heap.size 0 w1 HOK.out hB.lt (hB.cell 0) (hB.cell 1) (hB.cell 2) (hB.cell 3) (hB.cell 4)).mono ?_
  rintro e w2 ⟨rfl, hx2⟩
  go_wp2_with fail
  go_ret
  exact ⟨by rw [HR.out]; rfl, (hx.trans hx1).trans hx2⟩
set_option maxRecDepth 100000 in
set_option maxHeartbeats 1600000 in
theorem i_RingText (x0 : RingD) (w : World) (hx0 : x0.wf) (ht : Lib.TabIs Tryd.prog w "internal/strconv.uint64pow10" .u64 Lib.pow10Tab) : Calls Tryd.prog 21 #[.agg #[.int .i64 x0.Radius, .int .i64 x0.Count, .int .i64 x0.From, .int .i64 x0.Step, .int .i64 x0.Price]] w fun e w' => e = .returned (.string (textRingZ x0)) ∧ IsX w w' := by
  have HTB := hide ht
  clear ht
  cases hok : x0.okB
  · have HR := hide (show textRingZ x0 = ⟨#[]⟩ by simp [textRingZ, hok])
    go_enter Tryd.func21, Tryd.ntmps21
    go_wp2_with fail
    refine (cb (c_validRing x0 _) hok).mono ?_
    rintro e w' ⟨rfl, hx⟩
    go_wp2_with fail
    go_ret
    exact ⟨by rw [HR.out]; rfl, IsX.trans ((IsX.refl w).alloc _) hx⟩
  have HR := hide (show textRingZ x0 = listT x0.nums by simp [textRingZ, hok, RingD.text])
  have HK := hide (numsRing_ok hok)
  go_enter Tryd.func21, Tryd.ntmps21
  go_wp2_with fail
  obtain ⟨W, hW⟩ : ∃ W, W = w.alloc (.cells #[.int .i64 x0.Radius, .int .i64 x0.Count, .int .i64 x0.From, .int .i64 x0.Step, .int .i64 x0.Price] 43) := ⟨_, rfl⟩
  have hx : IsX w W := hW ▸ (IsX.refl w).alloc _
  have hB : Blk W w.heap.size 43 #[.int .i64 x0.Radius, .int .i64 x0.Count, .int .i64 x0.From, .int .i64 x0.Step, .int .i64 x0.Price] := hW ▸ Blk.new w _ _
  rw [← hW]
  clear hW
  refine (cb (c_validRing x0 W) hok).mono ?_
  rintro e w1 ⟨rfl, hx1⟩
  replace hB := hB.x hx1
  have HX := hide (hx.trans hx1)
  obtain ⟨bx, hbx⟩ : ∃ bx, bx = w.heap.size := ⟨_, rfl⟩
  rw [← hbx] at hB ⊢
  have d0 := hB.cell 0
  have d1 := hB.cell 1
  have d2 := hB.cell 2
  have d3 := hB.cell 3
  have d4 := hB.cell 4
  simp at d0 d1 d2 d3 d4
  have hlb := hB.lt
  have hx2 : IsX w1 (w1.alloc (.cells #[.int .i64 x0.Radius, .int .i64 x0.Count, .int .i64 x0.From, .int .i64 x0.Step, .int .i64 x0.Price] 2)) := (IsX.refl w1).alloc _
  have hl := c_ListText (some ⟨w1.heap.size, 0, none⟩) 5 x0.nums (w1.alloc (.cells #[.int .i64 x0.Radius, .int .i64 x0.Count, .int .i64 x0.From, .int .i64 x0.Step, .int .i64 x0.Price] 2)) (by simp [RingD.nums]) (by simp [RingD.nums]) HK.out (Blk.rd intC_len (Blk.new w1 2 #[.int .i64 x0.Radius, .int .i64 x0.Count, .int .i64 x0.From, .int .i64 x0.Step, .int .i64 x0.Price])) (tab_x HTB.out (HX.out.trans hx2))
  have HL : Hid (Calls Tryd.prog 42 #[.slice (some ⟨w1.heap.size, 0, none⟩) 5 5] (w1.alloc (.cells #[.int .i64 x0.Radius, .int .i64 x0.Count, .int .i64 x0.From, .int .i64 x0.Step, .int .i64 x0.Price] 2)) _) := hide hl
  have HX2 := hide hx2
  clear hB hx hx1 hok hbx hl hx2
  go_wp2_with (go_at_call 42; refine HL.out.mono ?_; rintro e w2 ⟨rfl, hx1, hls⟩)
  go_ret
  exact ⟨by rw [HR.out]; rfl, (HX.out.trans HX2.out).trans hx1⟩

end Go.Proofs.YtkepoedicgognaaDoor
