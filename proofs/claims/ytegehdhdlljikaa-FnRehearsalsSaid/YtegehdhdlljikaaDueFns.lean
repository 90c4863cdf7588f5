/- The cues to be rehearsed again: CuesToRehearse of the reference and of the program. Conditions: lists no longer than 2^40. -/
import Derived.Test.YtegehdhdlljikaaCueList
import Derived.Test.YtegehdhdlljikaaLastRunFns
import Derived.Test.YtegehdhdlljikaaWhoFns
namespace Go.Proofs.Ytegehdhdlljikaa
set_option linter.unusedVariables false
open Go.RowKit

def dueB (runs : List RunD) (td dy : Int) (x : CueD) : Bool := decide (dayTo x.Id runs runs.length < 0) || decide (dayTo x.Id runs runs.length < td - dy)
def dueAll (runs : List RunD) (td dy : Int) (xs : List CueD) : List ByteArray := (xs.filter (dueB runs td dy)).map (·.Id)
def listsB (xs : List CueD) (runs : List RunD) : Bool := cueListB xs && runsB runs
def daysB (td dy : Int) : Bool := inB td 0 99999 && inB dy 0 99999
def dueZ (xs : List CueD) (runs : List RunD) (td dy : Int) : List ByteArray := if listsB xs runs = true then (if daysB td dy = true then dueAll runs td dy xs else []) else []
def dueC (xs : List CueD) (runs : List RunD) (td dy : Int) : Int := if listsB xs runs = true then (if daysB td dy = true then 0 else 2) else 1
section
variable {xs : List CueD} {runs : List RunD} {td dy : Int}
theorem due_bad (h : listsB xs runs = false) : dueZ xs runs td dy = [] ∧ dueC xs runs td dy = 1 := by simp [dueZ, dueC, h]
theorem due_range (h : listsB xs runs = true) (h2 : daysB td dy = false) : dueZ xs runs td dy = [] ∧ dueC xs runs td dy = 2 := by simp [dueZ, dueC, h, h2]
theorem due_ok (h : listsB xs runs = true) (h2 : daysB td dy = true) : dueZ xs runs td dy = dueAll runs td dy xs ∧ dueC xs runs td dy = 0 := by simp [dueZ, dueC, h, h2]
theorem due_yes {k : Nat} (h : k < xs.length) (hd : dueB runs td dy xs[k] = true) : dueAll runs td dy (xs.take (k + 1)) = dueAll runs td dy (xs.take k) ++ [xs[k].Id] := by
  rw [dueAll, List.take_succ_eq_append_getElem h, List.filter_append, List.map_append, List.filter_cons, if_pos hd]; rfl
theorem due_no {k : Nat} (h : k < xs.length) (hd : dueB runs td dy xs[k] = false) : dueAll runs td dy (xs.take (k + 1)) = dueAll runs td dy (xs.take k) := by
  rw [dueAll, List.take_succ_eq_append_getElem h, List.filter_append, List.map_append, List.filter_cons, if_neg (by rw [hd]; exact Bool.false_ne_true)]; exact List.append_nil _
theorem dueZ_len (xs : List CueD) (runs : List RunD) (td dy : Int) : (dueZ xs runs td dy).length ≤ 1099511627776 := by
  unfold dueZ
  split
  · split
    · rename_i h _
      simp only [listsB, Bool.and_eq_true] at h
      have h1 := cues_len h.1
      have h2 : (dueAll runs td dy xs).length ≤ xs.length := by
        rw [dueAll, List.length_map]; exact List.length_filter_le _ _
      omega
    · simp
  · simp
end

set_option maxRecDepth 100000 in
set_option maxHeartbeats 3200000 in
theorem i_CuesToRehearse (A0 : Option Addr) (K0 : Nat) (xs0 : List CueD) (A1 : Option Addr) (K1 : Nat) (xs1 : List RunD) (n2 : Int) (n3 : Int) (w : World) (hn0 : xs0.length ≤ 1099511627776) (hw0 : ∀ x ∈ xs0, x.wf) (hA0 : Rd CueD.cells 6 w A0 xs0) (hn1 : xs1.length ≤ 1099511627776) (hw1 : ∀ x ∈ xs1, x.wf) (hs1 : ∀ x ∈ xs1, x.small 1099511627776) (hA1 : RdRun 0 w A1 xs1) (hb2 : intWf n2) (hb3 : intWf n3) (hcap0 : xs0.length ≤ K0) : Calls Try.prog 13 #[.slice A0 xs0.length K0, .slice A1 xs1.length K1, .int .i64 n2, .int .i64 n3] w (SlPost strC 1 9 w (dueZ xs0 xs1 n2 n3) (dueC xs0 xs1 n2 n3)) := by
  cases hv : cueListB xs0
  · have HB := hide (due_bad (td := n2) (dy := n3) (show listsB xs0 xs1 = false by simp [listsB, hv]))
    go_enter Try.func13, Try.ntmps13
    go_wp2_with fail
    refine (cb (c_ValidCues A0 K0 xs0 w hn0 hw0 hA0 hcap0) hv).mono ?_
    rintro e w1 ⟨rfl, hx⟩
    go_wp2_with fail
    go_ret2
    exact SlPost.none HB.out.1 (by rw [HB.out.2]; rfl) hx
  cases hr : runsB xs1
  · have HB := hide (due_bad (td := n2) (dy := n3) (show listsB xs0 xs1 = false by simp [listsB, hr]))
    go_enter Try.func13, Try.ntmps13
    go_wp2_with fail
    refine (cb (c_ValidCues A0 K0 xs0 w hn0 hw0 hA0 hcap0) hv).mono ?_
    rintro e w1 ⟨rfl, hx⟩
    go_wp2_with fail
    refine (cb (c_ValidRuns A1 K1 xs1 w1 hn1 hw1 hs1 (hA1.x hx)) hr).mono ?_
    rintro e w2 ⟨rfl, hx2⟩
    replace hx := hx.trans hx2
    clear hx2
    go_wp2_with fail
    go_ret2
    exact SlPost.none HB.out.1 (by rw [HB.out.2]; rfl) hx
  have hls : listsB xs0 xs1 = true := by simp [listsB, hv, hr]
  cases hi : inB n2 0 99999
  · have HB := hide (due_range hls (show daysB n2 n3 = false by simp [daysB, hi]))
    go_enter Try.func13, Try.ntmps13
    go_wp2_with fail
    refine (cb (c_ValidCues A0 K0 xs0 w hn0 hw0 hA0 hcap0) hv).mono ?_
    rintro e w1 ⟨rfl, hx⟩
    go_wp2_with fail
    refine (cb (c_ValidRuns A1 K1 xs1 w1 hn1 hw1 hs1 (hA1.x hx)) hr).mono ?_
    rintro e w2 ⟨rfl, hx2⟩
    replace hx := hx.trans hx2
    clear hx2
    go_wp2_with fail
    refine (cb (c_within n2 0 99999 _) hi).mono ?_
    rintro e wu ⟨rfl, rfl⟩
    go_wp2_with fail
    go_ret2
    exact SlPost.none HB.out.1 (by rw [HB.out.2]; rfl) hx
  cases hj : inB n3 0 99999
  · have HB := hide (due_range hls (show daysB n2 n3 = false by simp [daysB, hj]))
    go_enter Try.func13, Try.ntmps13
    go_wp2_with fail
    refine (cb (c_ValidCues A0 K0 xs0 w hn0 hw0 hA0 hcap0) hv).mono ?_
    rintro e w1 ⟨rfl, hx⟩
    go_wp2_with fail
    refine (cb (c_ValidRuns A1 K1 xs1 w1 hn1 hw1 hs1 (hA1.x hx)) hr).mono ?_
    rintro e w2 ⟨rfl, hx2⟩
    replace hx := hx.trans hx2
    clear hx2
    go_wp2_with fail
    refine (cb (c_within n2 0 99999 _) hi).mono ?_
    rintro e wu ⟨rfl, rfl⟩
    go_wp2_with fail
    refine (cb (c_within n3 0 99999 _) hj).mono ?_
    rintro e wu ⟨rfl, rfl⟩
    go_wp2_with fail
    go_ret2
    exact SlPost.none HB.out.1 (by rw [HB.out.2]; rfl) hx
  have HB := hide (due_ok hls (show daysB n2 n3 = true by simp [daysB, hi, hj]))
  have HI := hide (info_parts String_info)
  have hcl := cues_len hv
  go_enter Try.func13, Try.ntmps13
  go_wp2_with fail
  refine (cb (c_ValidCues A0 K0 xs0 w hn0 hw0 hA0 hcap0) hv).mono ?_
  rintro e w1 ⟨rfl, hx⟩
  go_wp2_with fail
  refine (cb (c_ValidRuns A1 K1 xs1 w1 hn1 hw1 hs1 (hA1.x hx)) hr).mono ?_
  rintro e w2 ⟨rfl, hx2⟩
  replace hx := hx.trans hx2
  clear hx2
  go_wp2_with fail
  refine (cb (c_within n2 0 99999 _) hi).mono ?_
  rintro e wu ⟨rfl, rfl⟩
  go_wp2_with fail
  refine (cb (c_within n3 0 99999 _) hj).mono ?_
  rintro e wu ⟨rfl, rfl⟩
  go_wp2_with fail
  obtain ⟨a0, a1⟩ := inB_true.1 hi
  obtain ⟨a2, a3⟩ := inB_true.1 hj
  have HX := hide hx
  have HRA := hide (hA0.x hx)
  have HR1 := hide (hA1.x hx)
  have hw2 := hx.size
  obtain ⟨n, hnn⟩ : ∃ n, n = xs0.length := ⟨_, rfl⟩
  have HN := hide hnn
  rw [← hnn] at hcl ⊢
  clear hnn hv hr hls hi hj hw0 hA0 hw1 hA1 hx hn0
  have HO8 : Hid (w2.ownsRow w2.heap.size 9 1 (.slice none 0 0) 0 []) := hide (World.ownsRow_nil _ _ _ _)
  go_loopw [10, 32] (fun ov iv wr => ∃ (k l : Nat), k ≤ n ∧ l ≤ k ∧ iv = .int .i64 k ∧ Hid (l = (dueAll xs1 n2 n3 (xs0.take k)).length) ∧ Hid (wr.ownsRow w2.heap.size 9 1 ov l ((dueAll xs1 n2 n3 (xs0.take k)).flatMap strC)) ∧ IsX w2 wr) (fun _ iv _ => n - (intOf iv).toNat)
  case atStart => exact ⟨0, 0, Nat.zero_le _, Nat.le_refl _, rfl, hide rfl, HO8, IsX.refl w2⟩
  case round =>
    clear HO8
    obtain ⟨k, l, hk, hlk, rfl, HL, HO, p, rfl⟩ := hrel
    by_cases hlt : k < n
    · have hltx : k < xs0.length := HN.out ▸ hlt
      obtain ⟨b, off, rfl, hb, c0, c1, c2, c3, c4, c5⟩ := CueD.rd HRA.out (show xs0[k]? = some xs0[k] from List.getElem?_eq_getElem _)
      obtain ⟨f0, hf0⟩ : ∃ z, z = xs0[k].Id := ⟨_, rfl⟩
      rw [← hf0] at c0
      obtain ⟨f1, hf1⟩ : ∃ z, z = xs0[k].Time := ⟨_, rfl⟩
      rw [← hf1] at c1
      obtain ⟨f2, hf2⟩ : ∃ z, z = xs0[k].Length := ⟨_, rfl⟩
      rw [← hf2] at c2
      obtain ⟨f3, hf3⟩ : ∃ z, z = xs0[k].Target := ⟨_, rfl⟩
      rw [← hf3] at c3
      obtain ⟨f4, hf4⟩ : ∃ z, z = xs0[k].Action := ⟨_, rfl⟩
      rw [← hf4] at c4
      obtain ⟨f5, hf5⟩ : ∃ z, z = xs0[k].Val := ⟨_, rfl⟩
      rw [← hf5] at c5
      obtain ⟨dv, hdv⟩ : ∃ z, z = dayTo f0 xs1 xs1.length := ⟨_, rfl⟩
      have HDV := hide hdv
      have hdu : dueB xs1 n2 n3 xs0[k] = (decide (dv < 0) || decide (dv < n2 - n3)) := by rw [dueB, ← hf0, ← hdv]
      have HF0 := hide hf0
      clear hdv hf0 hf1 hf2 hf3 hf4 hf5
      cases h1 : decide (dv < 0)
      · cases h2 : decide (dv < n2 - n3)
        · have HS := hide (due_no (runs := xs1) (td := n2) (dy := n3) hltx (by rw [hdu]; simp [h1, h2]))
          clear hdu
          go_wp2_with fail
          obtain ⟨W1, hW1⟩ : ∃ W1, W1 = (xt w2 p).alloc (.cells #[.string f0, .int .i64 f1, .int .i64 f2, .string f3, .int .i64 f4, .int .i64 f5] 60) := ⟨_, rfl⟩
          have hix : IsX (xt w2 p) W1 := hW1 ▸ (IsX.refl _).alloc _
          have hBk : Blk W1 (xt w2 p).heap.size 60 #[.string f0, .int .i64 f1, .int .i64 f2, .string f3, .int .i64 f4, .int .i64 f5] := hW1 ▸ Blk.new (xt w2 p) _ _
          rw [← hW1]
          clear hW1
          have hbk := hBk.lt
          have k0 : W1.cell? ⟨(xt w2 p).heap.size, 0, none⟩ = some (.string f0) := hBk.cell 0
          clear hBk
          generalize (xt w2 p).heap.size = g at *
          refine (c_lastRehearsed A1 K1 xs1 f0 W1 hn1 hs1 (HR1.out.x (IsX.trans ⟨p, rfl⟩ hix))).mono ?_
          rintro e w5 ⟨rfl, hx5⟩
          rw [← HDV.out]
          have HO5 := hide (own_x (own_x HO.out hix) hx5)
          have hxx : IsX w2 w5 := IsX.trans ⟨p, rfl⟩ (hix.trans hx5)
          have HXX := hide hxx
          replace k0 := keep hx5 hbk k0
          replace hbk := Nat.lt_of_lt_of_le hbk hx5.size
          clear hx5 hxx hix c0 c1 c2 c3 c4 c5 hb
          go_wp2_with fail
          go_roundw
          case rel => exact ⟨k + 1, l, by omega, by omega, by go_num, hide (by rw [HS.out]; exact HL.out), hide (by rw [HS.out]; exact HO5.out), HXX.out⟩
          case measure => simp [intOf]; omega
        · skip
          have HS := hide (due_yes (runs := xs1) (td := n2) (dy := n3) hltx (by rw [hdu]; simp [h1, h2]))
          clear hdu
          go_wp2_with fail
          obtain ⟨W1, hW1⟩ : ∃ W1, W1 = (xt w2 p).alloc (.cells #[.string f0, .int .i64 f1, .int .i64 f2, .string f3, .int .i64 f4, .int .i64 f5] 60) := ⟨_, rfl⟩
          have hix : IsX (xt w2 p) W1 := hW1 ▸ (IsX.refl _).alloc _
          have hBk : Blk W1 (xt w2 p).heap.size 60 #[.string f0, .int .i64 f1, .int .i64 f2, .string f3, .int .i64 f4, .int .i64 f5] := hW1 ▸ Blk.new (xt w2 p) _ _
          rw [← hW1]
          clear hW1
          have hbk := hBk.lt
          have k0 : W1.cell? ⟨(xt w2 p).heap.size, 0, none⟩ = some (.string f0) := hBk.cell 0
          clear hBk
          generalize (xt w2 p).heap.size = g at *
          refine (c_lastRehearsed A1 K1 xs1 f0 W1 hn1 hs1 (HR1.out.x (IsX.trans ⟨p, rfl⟩ hix))).mono ?_
          rintro e w5 ⟨rfl, hx5⟩
          rw [← HDV.out]
          have HO5 := hide (own_x (own_x HO.out hix) hx5)
          have hxx : IsX w2 w5 := IsX.trans ⟨p, rfl⟩ (hix.trans hx5)
          have HXX := hide hxx
          replace k0 := keep hx5 hbk k0
          replace hbk := Nat.lt_of_lt_of_le hbk hx5.size
          clear hx5 hxx hix c0 c1 c2 c3 c4 c5 hb
          go_wp2_with (at_builtin; obtain ⟨i0, hi0, hz0, hz1, hz2⟩ := HI.out; refine wpList_append_any _ rfl (.tmp 49) (.tmp 52) _ rfl w2.heap.size 9 i0 _ 1 16 Try.underlying26 hi0 hz0 hz1 hz2 rfl (by omega) _ l ((dueAll xs1 n2 n3 (xs0.take k)).flatMap strC) rfl (HO5.out.alloc _) _ (some ⟨w5.heap.size, 0, none⟩) 1 1 [Value.string f0] rfl (str_reads w5 _ _) (str_oneW f0) (by simp only [maxLen]; omega) (by omega) (by have := HXX.out.size; simp; omega) ?_; clear hi0 hz0 hz1 hz2; intro v1 w7 hown1 hg1 hat1; have HO1 := hide hown1; have HX7 : Hid (IsX w2 w7) := hide (IsX.grown (HXX.out.alloc _) hg1 (by intro z hz; exact (HO5.out.lt z hz).1)); clear hown1 hg1 hat1)
          go_roundw
          case rel => exact ⟨k + 1, l + 1, by omega, by omega, by go_num, hide (by rw [HS.out, HL.out]; simp), hide (by rw [HS.out, List.flatMap_append, ← HF0.out]; exact HO1.out), HX7.out⟩
          case measure => simp [intOf]; omega
      · skip
        have HS := hide (due_yes (runs := xs1) (td := n2) (dy := n3) hltx (by rw [hdu]; simp [h1]))
        clear hdu
        go_wp2_with fail
        obtain ⟨W1, hW1⟩ : ∃ W1, W1 = (xt w2 p).alloc (.cells #[.string f0, .int .i64 f1, .int .i64 f2, .string f3, .int .i64 f4, .int .i64 f5] 60) := ⟨_, rfl⟩
        have hix : IsX (xt w2 p) W1 := hW1 ▸ (IsX.refl _).alloc _
        have hBk : Blk W1 (xt w2 p).heap.size 60 #[.string f0, .int .i64 f1, .int .i64 f2, .string f3, .int .i64 f4, .int .i64 f5] := hW1 ▸ Blk.new (xt w2 p) _ _
        rw [← hW1]
        clear hW1
        have hbk := hBk.lt
        have k0 : W1.cell? ⟨(xt w2 p).heap.size, 0, none⟩ = some (.string f0) := hBk.cell 0
        clear hBk
        generalize (xt w2 p).heap.size = g at *
        refine (c_lastRehearsed A1 K1 xs1 f0 W1 hn1 hs1 (HR1.out.x (IsX.trans ⟨p, rfl⟩ hix))).mono ?_
        rintro e w5 ⟨rfl, hx5⟩
        rw [← HDV.out]
        have HO5 := hide (own_x (own_x HO.out hix) hx5)
        have hxx : IsX w2 w5 := IsX.trans ⟨p, rfl⟩ (hix.trans hx5)
        have HXX := hide hxx
        replace k0 := keep hx5 hbk k0
        replace hbk := Nat.lt_of_lt_of_le hbk hx5.size
        clear hx5 hxx hix c0 c1 c2 c3 c4 c5 hb
        go_wp2_with (at_builtin; obtain ⟨i0, hi0, hz0, hz1, hz2⟩ := HI.out; refine wpList_append_any _ rfl (.tmp 49) (.tmp 52) _ rfl w2.heap.size 9 i0 _ 1 16 Try.underlying26 hi0 hz0 hz1 hz2 rfl (by omega) _ l ((dueAll xs1 n2 n3 (xs0.take k)).flatMap strC) rfl (HO5.out.alloc _) _ (some ⟨w5.heap.size, 0, none⟩) 1 1 [Value.string f0] rfl (str_reads w5 _ _) (str_oneW f0) (by simp only [maxLen]; omega) (by omega) (by have := HXX.out.size; simp; omega) ?_; clear hi0 hz0 hz1 hz2; intro v1 w7 hown1 hg1 hat1; have HO1 := hide hown1; have HX7 : Hid (IsX w2 w7) := hide (IsX.grown (HXX.out.alloc _) hg1 (by intro z hz; exact (HO5.out.lt z hz).1)); clear hown1 hg1 hat1)
        go_roundw
        case rel => exact ⟨k + 1, l + 1, by omega, by omega, by go_num, hide (by rw [HS.out, HL.out]; simp), hide (by rw [HS.out, List.flatMap_append, ← HF0.out]; exact HO1.out), HX7.out⟩
        case measure => simp [intOf]; omega
    · obtain rfl : k = n := by omega
      have hT : xs0.take k = xs0 := by rw [HN.out]; exact List.take_length
      rw [hT] at HL HO
      clear hT
      obtain ⟨Ao, co, hform⟩ := row_slice HO.out
      subst hform
      have HLL := hide (show l = (dueZ xs0 xs1 n2 n3).length by rw [HB.out.1]; exact HL.out)
      go_wp2_with fail
      go_ret2
      refine ⟨Ao, co, by rw [HB.out.2, ← HLL.out]; rfl, ?_, HX.out.trans ⟨p, rfl⟩⟩
      have h := HO.out
      rw [HLL.out] at h
      rw [← HB.out.1] at h
      exact row_le h hw2

end Go.Proofs.Ytegehdhdlljikaa
