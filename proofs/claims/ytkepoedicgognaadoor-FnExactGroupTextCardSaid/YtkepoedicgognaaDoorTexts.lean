/- Numbers as text, with the library's table: what the reference and the program compute. Conditions: from -1 to 2^40; the table as the program's text lays it. -/
import Derived.Test.YtkepoedicgognaaDoorDec
import Derived.Test.YtkepoedicgognaaDoorFmt
import Derived.Test.YtkepoedicgognaaDoorGroups
import Derived.Lib.LaidTab
namespace Go.Proofs.YtkepoedicgognaaDoor
set_option linter.unusedVariables false
open Go.RowKit

theorem tab_x {w w' : World} (h : Lib.TabIs Tryd.prog w "internal/strconv.uint64pow10" .u64 Lib.pow10Tab) (hx : IsX w w') : Lib.TabIs Tryd.prog w' "internal/strconv.uint64pow10" .u64 Lib.pow10Tab := by
  unfold Lib.TabIs World.var? at h ⊢
  cases hg : Tryd.prog.globalNamed "internal/strconv.uint64pow10" with
  | none => simp [hg] at h
  | some g =>
    simp only [hg, Option.bind_some] at h ⊢
    have hlt : g < w.heap.size := by
      rcases Nat.lt_or_ge g w.heap.size with h' | h'
      · exact h'
      · rw [Array.getElem?_eq_none h'] at h; cases h
    rw [hx.below.block g hlt]; exact h
def decI (z : Int) : ByteArray := ⟨(Lib.itoa z).toArray⟩
theorem decI_nn {z : Int} (h : 0 ≤ z) : decI z = decText z.toNat := by
  unfold decI decText Lib.itoa
  rw [if_neg (by omega)]
theorem decI_neg : decI (-1) = minusText := by
  unfold decI minusText minusOne Lib.itoa
  rw [if_pos (by omega), show (-1 : Int).natAbs = 1 from rfl, Lib.decDigits_one (by omega)]; rfl
theorem decI_size {z : Int} (h : -1 ≤ z) (h1 : z ≤ 1099511627776) : (decI z).size ≤ 1099511627780 := by
  by_cases h0 : 0 ≤ z
  · rw [decI_nn h0]; have := decText_size z.toNat; omega
  · obtain rfl : z = -1 := by omega
    rw [decI_neg]; show 2 ≤ _; omega
theorem c_decI (z : Int) (w : World) (h0 : -1 ≤ z) (h1 : z ≤ 1099511627776) : Calls Tryd.prog 64 #[.int .i64 z] w fun e w' => e = .returned (.string (decI z)) ∧ IsX w w' := by
  by_cases h : 0 ≤ z
  · rw [decI_nn h]
    obtain ⟨n, rfl⟩ := Int.eq_ofNat_of_zero_le h
    exact c_l01Dec n w (by omega)
  · obtain rfl : z = -1 := by omega
    rw [decI_neg]; exact c_l01Dec_neg w
theorem c_DecimalI (z : Int) (w : World) (h0 : -1 ≤ z) (h1 : z ≤ 1099511627776) (ht : Lib.TabIs Tryd.prog w "internal/strconv.uint64pow10" .u64 Lib.pow10Tab) : Calls Tryd.prog 38 #[.int .i64 z] w fun e w' => e = .returned (.string (decI z)) ∧ IsX w w' := by
  go_enter Tryd.func38, Tryd.ntmps38
  go_wp2_with fail
  refine (Tryd.strconv_FormatInt_10 z (by omega) (by omega) w ht).mono ?_
  rintro e w' ⟨rfl, k, os, hw⟩
  have hx : IsX w w' := by rw [hw]; exact ⟨⟨_, os⟩, rfl⟩
  clear hw
  go_wp2_with fail
  go_ret
  exact ⟨rfl, hx⟩

def GroupD.text (x : GroupD) : ByteArray := x.Name ++ ⟨#[32]⟩ ++ decI x.Persons ++ ⟨#[32]⟩ ++ decI x.Wish
def groupZ (x : GroupD) : ByteArray := if x.okB = true then x.text else ⟨#[]⟩
theorem group_ok {x : GroupD} (h : x.okB = true) : (1 ≤ x.Name.size ∧ x.Name.size ≤ 10) ∧ 1 ≤ x.Persons ∧ x.Persons ≤ 40 ∧ -1 ≤ x.Wish ∧ x.Wish ≤ 9 := by
  simp only [GroupD.okB, Bool.and_eq_true] at h
  have h1 := name_size h.1.1
  have h2 := inB_true.1 h.1.2
  have h3 := inB_true.1 h.2
  omega
theorem group_sizes {x : GroupD} (h : x.okB = true) : (x.Name ++ (⟨#[32]⟩ : ByteArray)).size ≤ 11 ∧ (decI x.Persons).size ≤ 1099511627780 ∧ (decI x.Wish).size ≤ 1099511627780 ∧ (x.Name ++ (⟨#[32]⟩ : ByteArray) ++ decI x.Persons).size ≤ 1099511627800 ∧ (x.Name ++ (⟨#[32]⟩ : ByteArray) ++ decI x.Persons ++ (⟨#[32]⟩ : ByteArray)).size ≤ 1099511627801 ∧ (⟨#[32]⟩ : ByteArray).size = 1 ∧ x.Name.size ≤ 10 := by
  have h0 := group_ok h
  have z1 := decI_size (z := x.Persons) (by omega) (by omega)
  have z2 := decI_size (z := x.Wish) (by omega) (by omega)
  have z0 : (⟨#[32]⟩ : ByteArray).size = 1 := rfl
  refine ⟨?_, ?_, ?_, ?_, ?_, ?_, ?_⟩ <;> (try simp only [ByteArray.size_append, z0]) <;> omega
set_option maxHeartbeats 1600000 in
theorem c_l24Text (x : GroupD) (b off : Nat) (w : World) (hok : x.okB = true) (hb : b < w.heap.size) (c0 : w.cell? ⟨b, off, none⟩ = some (.string x.Name)) (c1 : w.cell? ⟨b, off + 1, none⟩ = some (.int .i64 x.Persons)) (c2 : w.cell? ⟨b, off + 2, none⟩ = some (.int .i64 x.Wish)) :
    Calls Tryd.prog 36 #[.pointer (some ⟨b, off, none⟩)] w fun e w' => e = .returned (.string x.text) ∧ IsX w w' := by
  have HT := hide (show x.text = x.Name ++ ⟨#[32]⟩ ++ decI x.Persons ++ ⟨#[32]⟩ ++ decI x.Wish from rfl)
  obtain ⟨z0, z1, z2, z3, z4, z5, z6⟩ := group_sizes hok
  have HK := hide (group_ok hok)
  clear hok
  go_enter Tryd.func36, Tryd.ntmps36
  go_wp2
  refine wp_region_x (by kernel_rfl) (by kernel_rfl) ?_
  repeat (first | go_big_quiet_step ((go_at_call 64; first | (with_reducible exact call_x (c_decI x.Persons _ (by have := HK.out; omega) (by have := HK.out; omega))) | (with_reducible exact call_x (c_decI x.Wish _ (by have := HK.out; omega) (by have := HK.out; omega))))) | quiet_step (fail))
  refine wpQuiet_nil ?_
  rintro _ ⟨q, rfl⟩
  go_wp2
  go_ret
  exact ⟨by rw [HT.out]; rfl, ⟨q, rfl⟩⟩
theorem s_GroupText (x0 : GroupD) (w : World) (hx0 : x0.wf) : Calls Tryd.prog 16 #[.agg #[.string x0.Name, .int .i64 x0.Persons, .int .i64 x0.Wish]] w fun e w' => e = .returned (.string (groupZ x0)) ∧ IsX w w' := by
  have hs0 : x0.Name.size ≤ maxLen := by have := hx0; simp only [GroupD.wf] at this; omega
  cases hok : x0.okB
  · have HR := hide (show groupZ x0 = ⟨#[]⟩ by simp [groupZ, hok])
    go_enter Tryd.func16, Tryd.ntmps16
    go_wp2_with fail
    obtain ⟨W, hW⟩ : ∃ W, W = w.alloc (.cells #[.string x0.Name, .int .i64 x0.Persons, .int .i64 x0.Wish] 37) := ⟨_, rfl⟩
    have hx : IsX w W := hW ▸ (IsX.refl w).alloc _
    have hB : Blk W w.heap.size 37 #[.string x0.Name, .int .i64 x0.Persons, .int .i64 x0.Wish] := hW ▸ Blk.new w _ _
    rw [← hW]
    clear hW
    refine (cb (c_l24One x0 w.heap.size 0 W hs0 (hB.cell 0) (hB.cell 1) (hB.cell 2)) hok).mono ?_
    rintro e w' ⟨rfl, rfl⟩
    go_wp2_with fail
    go_ret
    exact ⟨by rw [HR.out]; rfl, hx⟩
  have HR := hide (show groupZ x0 = x0.text by simp [groupZ, hok])
  have HOK := hide hok
  go_enter Tryd.func16, Tryd.ntmps16
  go_wp2_with fail
  obtain ⟨W, hW⟩ : ∃ W, W = w.alloc (.cells #[.string x0.Name, .int .i64 x0.Persons, .int .i64 x0.Wish] 37) := ⟨_, rfl⟩
  have hx : IsX w W := hW ▸ (IsX.refl w).alloc _
  have hB : Blk W w.heap.size 37 #[.string x0.Name, .int .i64 x0.Persons, .int .i64 x0.Wish] := hW ▸ Blk.new w _ _
  rw [← hW]
  clear hW
  refine (cb (c_l24One x0 w.heap.size 0 W hs0 (hB.cell 0) (hB.cell 1) (hB.cell 2)) hok).mono ?_
  rintro e w' ⟨rfl, rfl⟩
  go_wp2_with fail
  refine (c_l24Text x0 w.heap.size 0 W HOK.out hB.lt (hB.cell 0) (hB.cell 1) (hB.cell 2)).mono ?_
  rintro e w2 ⟨rfl, hx2⟩
  go_wp2_with fail
  go_ret
  exact ⟨by rw [HR.out]; rfl, hx.trans hx2⟩
set_option maxHeartbeats 1600000 in
theorem i_GroupText (x0 : GroupD) (w : World) (hx0 : x0.wf) (ht : Lib.TabIs Tryd.prog w "internal/strconv.uint64pow10" .u64 Lib.pow10Tab) : Calls Tryd.prog 18 #[.agg #[.string x0.Name, .int .i64 x0.Persons, .int .i64 x0.Wish]] w fun e w' => e = .returned (.string (groupZ x0)) ∧ IsX w w' := by
  have hs0 : x0.Name.size ≤ maxLen := by have := hx0; simp only [GroupD.wf] at this; omega
  have HTB := hide ht
  clear ht
  cases hok : x0.okB
  · have HR := hide (show groupZ x0 = ⟨#[]⟩ by simp [groupZ, hok])
    go_enter Tryd.func18, Tryd.ntmps18
    go_wp2_with fail
    refine (cb (c_validGroup x0 _ hs0) hok).mono ?_
    rintro e w' ⟨rfl, hx⟩
    go_wp2_with fail
    go_ret
    exact ⟨by rw [HR.out]; rfl, IsX.trans ((IsX.refl w).alloc _) hx⟩
  have HR := hide (show groupZ x0 = x0.Name ++ ⟨#[32]⟩ ++ decI x0.Persons ++ ⟨#[32]⟩ ++ decI x0.Wish by simp [groupZ, hok, GroupD.text])
  obtain ⟨z0, z1, z2, z3, z4, z5, z6⟩ := group_sizes hok
  have HK := hide (group_ok hok)
  go_enter Tryd.func18, Tryd.ntmps18
  go_wp2_with fail
  obtain ⟨W, hW⟩ : ∃ W, W = w.alloc (.cells #[.string x0.Name, .int .i64 x0.Persons, .int .i64 x0.Wish] 37) := ⟨_, rfl⟩
  have hx : IsX w W := hW ▸ (IsX.refl w).alloc _
  have hB : Blk W w.heap.size 37 #[.string x0.Name, .int .i64 x0.Persons, .int .i64 x0.Wish] := hW ▸ Blk.new w _ _
  rw [← hW]
  clear hW
  refine (cb (c_validGroup x0 W hs0) hok).mono ?_
  rintro e w1 ⟨rfl, hx1⟩
  replace hB := hB.x hx1
  have HX := hide (hx.trans hx1)
  obtain ⟨bx, hbx⟩ : ∃ bx, bx = w.heap.size := ⟨_, rfl⟩
  rw [← hbx] at hB ⊢
  have d0 := hB.cell 0
  have d1 := hB.cell 1
  have d2 := hB.cell 2
  simp at d0 d1 d2
  have hlb := hB.lt
  have HTW := hide (show ∀ p : Regrown, Lib.TabIs Tryd.prog (xt w1 p) "internal/strconv.uint64pow10" .u64 Lib.pow10Tab from fun p => tab_x HTB.out (IsX.xt (hx.trans hx1) p))
  clear hB hx hx1 hok hbx
  go_wp2
  refine wp_region_x (by kernel_rfl) (by kernel_rfl) ?_
  repeat (first | go_big_quiet_step ((go_at_call 38; first | (with_reducible exact call_x (c_DecimalI x0.Persons _ (by have := HK.out; omega) (by have := HK.out; omega) (HTW.out _))) | (with_reducible exact call_x (c_DecimalI x0.Wish _ (by have := HK.out; omega) (by have := HK.out; omega) (HTW.out _))))) | quiet_step (fail))
  refine wpQuiet_nil ?_
  rintro _ ⟨q, rfl⟩
  go_wp2
  go_ret
  exact ⟨by rw [HR.out]; rfl, HX.out.trans ⟨q, rfl⟩⟩

end Go.Proofs.YtkepoedicgognaaDoor
