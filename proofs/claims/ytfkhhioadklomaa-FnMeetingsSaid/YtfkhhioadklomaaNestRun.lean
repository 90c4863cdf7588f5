/- Lists of Run, a struct with slices among its fields: copies, sizes, comparisons of equal data, arguments opened. Conditions: strings no longer than 2^63 - 1 bytes, lists no longer than 2^40. -/
import Derived.Test.YtfkhhioadklomaaProg
import Derived.Test.YtfkhhioadklomaaLString
import Derived.Test.YtfkhhioadklomaaFlatRemark
namespace Go.Proofs.Ytfkhhioadklomaa
set_option linter.unusedVariables false
open Go.RowKit Go.ChangeShapes

structure RunD where
  Day : Int
  Cues : List ByteArray
  Remarks : List RemarkD
structure RunR where
  Day : Int
  CuesA : Option Addr
  CuesC : Nat
  Cues : List ByteArray
  RemarksA : Option Addr
  RemarksC : Nat
  Remarks : List RemarkD
def RunR.data (r : RunR) : RunD := ⟨r.Day, r.Cues, r.Remarks⟩
def RunR.cells (r : RunR) : List Value := [.int .i64 r.Day, .slice r.CuesA r.Cues.length r.CuesC, .slice r.RemarksA r.Remarks.length r.RemarksC]
theorem RunR.cells_len (r : RunR) : r.cells.length = 3 := rfl
def RunD.wf (x : RunD) : Prop := (-9223372036854775808 ≤ x.Day ∧ x.Day ≤ 9223372036854775807) ∧ (x.Cues.length ≤ maxLen ∧ ∀ y ∈ x.Cues, strWf y) ∧ (x.Remarks.length ≤ maxLen ∧ ∀ y ∈ x.Remarks, y.wf)
def RunD.small (left : Int) (x : RunD) : Prop := ((x.Cues.length : Nat) : Int) ≤ left ∧ ((x.Remarks.length : Nat) : Int) ≤ left
def RunR.ok (lo : Nat) (w : World) (r : RunR) : Prop := (Rd strC 1 w r.CuesA r.Cues ∧ From lo r.CuesA) ∧ (Rd RemarkD.cells 4 w r.RemarksA r.Remarks ∧ From lo r.RemarksA)
theorem RunR.ok.x {lo : Nat} {w w' : World} {r : RunR} (h : r.ok lo w) (hx : IsX w w') : r.ok lo w' := ⟨⟨h.1.1.x hx, h.1.2⟩, ⟨h.2.1.x hx, h.2.2⟩⟩
/-- A slice of Run reads as the list xs; what lies in its elements' own slices lies from block lo on. -/
def RdRun (lo : Nat) (w : World) (A : Option Addr) (xs : List RunD) : Prop := ∃ rs : List RunR, rs.map RunR.data = xs ∧ Rd RunR.cells 3 w A rs ∧ ∀ r ∈ rs, r.ok lo w
theorem RdRun.x {lo : Nat} {w w' : World} {A : Option Addr} {xs : List RunD} (h : RdRun lo w A xs) (hx : IsX w w') : RdRun lo w' A xs := by
  obtain ⟨rs, e, hr, ho⟩ := h
  exact ⟨rs, e, hr.x hx, fun r hm => (ho r hm).x hx⟩
theorem RdRun.rd {lo : Nat} {w : World} {A : Option Addr} {xs : List RunD} (h : RdRun lo w A xs) {i : Nat} {x : RunD} (hx : xs[i]? = some x) :
    ∃ b off qCuesA qRemarksA qCuesC qRemarksC, A = some ⟨b, off, none⟩ ∧ b < w.heap.size ∧ w.cell? ⟨b, off + i * 3, none⟩ = some (.int .i64 x.Day) ∧ w.cell? ⟨b, off + i * 3 + 1, none⟩ = some (.slice qCuesA x.Cues.length qCuesC) ∧ w.cell? ⟨b, off + i * 3 + 2, none⟩ = some (.slice qRemarksA x.Remarks.length qRemarksC) ∧ Rd strC 1 w qCuesA x.Cues ∧ Rd RemarkD.cells 4 w qRemarksA x.Remarks := by
  obtain ⟨rs, rfl, hr, ho⟩ := h
  rw [List.getElem?_map, Option.map_eq_some_iff] at hx
  obtain ⟨r, hri, rfl⟩ := hx
  obtain ⟨b, off, e, hb, hc⟩ := hr i r hri
  have hok := ho r (List.mem_of_getElem? hri)
  exact ⟨b, off, r.CuesA, r.RemarksA, r.CuesC, r.RemarksC, e, hb, hc 0 _ rfl, hc 1 _ rfl, hc 2 _ rfl, hok.1.1, hok.2.1⟩

theorem open_Run {H : Type} {enc : TypeId × Value → H} {w : World} {base : Nat} {spare : Nat → Bool} {held : Bool} (cs : List Value) (n : Nat) (y : DataW H × List MemPlace) (hl : cs.length = 3) (h : DataW.trod enc Try.prog w base spare held n 81 cs = some y) :
    ∃ r : RunR, (r.data.wf ∧ r.ok 0 w) ∧ r.cells = cs := by
  have hf := open_fields Try.underlying81 (by kernel_rfl) (by rw [hl]; rfl) h
  obtain ⟨v0, m0, z0, e0, g0⟩ := hf 0 _ rfl
  obtain ⟨v1, m1, z1, e1, g1⟩ := hf 1 _ rfl
  obtain ⟨v2, m2, z2, e2, g2⟩ := hf 2 _ rfl
  obtain ⟨x0, rfl, b0, t0⟩ := field_int Try.underlying2 g0
  obtain ⟨A1, c1, x1, q1, l1, b1, t1, r1⟩ := open_strs' g1
  simp at q1
  subst q1
  obtain ⟨A2, c2, x2, q2, l2, b2, t2, r2⟩ := open_RemarkS g2
  simp at q2
  subst q2
  refine ⟨⟨x0, A1, c1, x1, A2, c2, x2⟩, ⟨⟨⟨b0, t0⟩, ⟨Nat.le_trans l1 b1, t1⟩, ⟨Nat.le_trans l2 b2, t2⟩⟩, ⟨r1, fun _ _ _ _ => Nat.zero_le _⟩, ⟨r2, fun _ _ _ _ => Nat.zero_le _⟩⟩, ?_⟩
  apply List.ext_getElem?
  intro j
  rcases j with _ | _ | _ | j
  · exact e0.symm
  · exact e1.symm
  · exact e2.symm
  · rw [List.getElem?_eq_none (by simp [RunR.cells]), List.getElem?_eq_none (by omega)]
theorem open_RunS {H : Type} {enc : TypeId × Value → H} {w : World} {base : Nat} {spare : Nat → Bool} {held : Bool} {fuel : Nat} {cs : List Value} {x : DataW H × List MemPlace} (h : DataW.trod enc Try.prog w base spare held fuel 38 cs = some x) :
    ∃ (A : Option Addr) (cap : Nat) (xs : List RunD), cs = [.slice A xs.length cap] ∧ xs.length ≤ cap ∧ cap ≤ maxLen ∧ (∀ x ∈ xs, x.wf) ∧ RdRun 0 w A xs := by
  obtain ⟨A, cap, rs, e, h1, h2, h3, h4⟩ := open_list RunR.cells (fun r : RunR => r.data.wf ∧ r.ok 0 w) Try.underlying38 (by kernel_rfl) (by omega) RunR.cells_len (fun cs' m y hl h => open_Run cs' m y hl h) h
  refine ⟨A, cap, rs.map RunR.data, by rw [List.length_map]; exact e, by rw [List.length_map]; exact h1, h2, fun x hx => ?_, rs, rfl, h4, fun r hr => (h3 r hr).2⟩
  obtain ⟨r, hr, rfl⟩ := List.mem_map.1 hx
  exact (h3 r hr).1

set_option maxHeartbeats 800000 in
theorem c_szRun (x : RunD) (qCuesA qRemarksA : Option Addr) (qCuesC qRemarksC : Nat) (left : Int) (w : World) (hx : x.wf) (h0 : 0 ≤ left) (h1 : left ≤ 1099511627776) (hR0 : Rd strC 1 w qCuesA x.Cues) (hR1 : Rd RemarkD.cells 4 w qRemarksA x.Remarks) : Calls Try.prog 47 #[.agg #[.int .i64 x.Day, .slice qCuesA x.Cues.length qCuesC, .slice qRemarksA x.Remarks.length qRemarksC], .int .i64 left] w (SzQ left (x.small left) w) := by
  have bl0 : x.Cues.length ≤ maxLen := by have := hx; simp only [RunD.wf] at this; omega
  have bl1 : x.Remarks.length ≤ maxLen := by have := hx; simp only [RunD.wf] at this; omega
  have HX := hide hx
  clear hx
  go_enter Try.func47, Try.ntmps47
  go_wp2_with fail
  refine (c_szStringS qCuesA qCuesC x.Cues left _ bl0 (by have := HX.out; simp only [RunD.wf] at this; exact this.2.1.2) (by omega) (by omega) (hR0.x ((IsX.refl _).alloc _))).mono ?_
  rintro e w0 ⟨m0, rfl, a0, b0, d0, x0⟩
  have u0_1 : w0.cell? ⟨w.heap.size, 2, none⟩ = some (.slice qRemarksA x.Remarks.length qRemarksC) := keep x0 (by simp) (by simp [go_sem])
  by_cases hm0 : m0 < 0
  · go_wp2_with fail
    go_ret
    exact ⟨-1, rfl, by omega, by omega, by omega, IsX.trans ((IsX.refl _).alloc _) x0⟩
  go_wp2_with fail
  refine (c_szRemarkS qRemarksA qRemarksC x.Remarks m0 _ bl1 (by have := HX.out; simp only [RunD.wf] at this; exact this.2.2.2) (by omega) (by omega) (hR1.x (IsX.trans ((IsX.refl _).alloc _) x0))).mono ?_
  rintro e w1 ⟨m1, rfl, a1, b1, d1, x1⟩
  by_cases hm1 : m1 < 0
  · go_wp2_with fail
    go_ret
    exact ⟨-1, rfl, by omega, by omega, by omega, IsX.trans (IsX.trans ((IsX.refl _).alloc _) x0) x1⟩
  go_wp2_with fail
  go_ret
  exact ⟨m1, rfl, by omega, by omega, Or.inr (by simp only [RunD.small]; omega), IsX.trans (IsX.trans ((IsX.refl _).alloc _) x0) x1⟩

set_option maxHeartbeats 800000 in
theorem c_szRunS (A : Option Addr) (c : Nat) (xs : List RunD) (left : Int) (w : World) (hn : xs.length ≤ maxLen) (hw : ∀ x ∈ xs, x.wf) (h0 : 0 ≤ left) (h1 : left ≤ 1099511627776) (hA : RdRun 0 w A xs) :
    Calls Try.prog 19 #[.slice A xs.length c, .int .i64 left] w (SzQ left ((xs.length : Int) ≤ left ∧ ∀ x ∈ xs, x.small left) w) := by
  obtain ⟨n, hnn⟩ : ∃ n, n = xs.length := ⟨_, rfl⟩
  have HN := hide hnn
  rw [← hnn] at hn ⊢
  clear hnn
  have HW := hide hw
  clear hw
  unfold maxLen at hn
  by_cases hl : left - n < 0
  · go_enter Try.func19, Try.ntmps19
    go_wp2
    go_ret
    exact ⟨-1, rfl, by omega, by omega, by omega, IsX.refl _⟩
  go_enter Try.func19, Try.ntmps19
  go_wp2
  go_loopw [1, 5] (fun l i wr => ∃ (k : Nat) (m : Int), k ≤ n ∧ i = .int .i64 k ∧ l = .int .i64 m ∧ 0 ≤ m ∧ m ≤ left ∧ (∀ i (h : i < xs.length), i < k → xs[i].small left) ∧ IsX w wr) (fun _ i _ => n - (intOf i).toNat)
  case atStart => exact ⟨0, left - n, Nat.zero_le _, rfl, rfl, by omega, by omega, fun i h hi => absurd hi (by omega), IsX.refl _⟩
  case round =>
    obtain ⟨k, m, hk, rfl, rfl, hm0, hm1, hall, p, rfl⟩ := hrel
    have HA := hide hall
    clear hall
    by_cases hlt : k < n
    · have hltx : k < xs.length := HN.out ▸ hlt
      obtain ⟨b, off, qCuesA, qRemarksA, qCuesC, qRemarksC, rfl, hb, c0, c1, c2, r0, r1⟩ := RdRun.rd hA (show xs[k]? = some xs[k] from List.getElem?_eq_getElem _)
      clear hA
      go_wp2_with (go_at_call 47; refine (c_szRun xs[k] _ _ _ _ _ _ (HW.out _ (List.getElem_mem _)) (by omega) (by omega) (r0.x ⟨p, rfl⟩) (r1.x ⟨p, rfl⟩)).mono ?_; rintro e w1 ⟨m1, rfl, e1, e2, e3, q, rfl⟩)
      · go_ret
        exact ⟨-1, rfl, by omega, by omega, by omega, IsX.xt ⟨p, rfl⟩ q⟩
      · have hst : ∀ i (h : i < xs.length), i < k + 1 → xs[i].small left := by
          intro i hi hik
          by_cases e : i = k
          · subst e
            rcases e3 with e3 | e3
            · omega
            · simp only [RunD.small] at e3 ⊢; omega
          · exact HA.out i hi (by omega)
        have HS := hide hst
        clear hst
        go_roundw
        case rel => exact ⟨k + 1, m1, by omega, by go_num, rfl, by omega, by omega, HS.out, IsX.xt ⟨p, rfl⟩ q⟩
        case measure => simp [intOf]; omega
    · have hfin : ∀ x ∈ xs, x.small left := by
        intro x hx
        obtain ⟨i, hi, rfl⟩ := List.getElem_of_mem hx
        exact HA.out i hi (by have := HN.out; omega)
      have HF := hide hfin
      clear hfin
      go_wp2
      go_ret
      exact ⟨m, rfl, by omega, by omega, Or.inr ⟨by omega, HF.out⟩, ⟨p, rfl⟩⟩

set_option maxHeartbeats 800000 in
theorem c_toRun (x : RunD) (qCuesA qRemarksA : Option Addr) (qCuesC qRemarksC : Nat) (w : World) (hx : x.small 1099511627776) (hR0 : Rd strC 1 w qCuesA x.Cues) (hR1 : Rd RemarkD.cells 4 w qRemarksA x.Remarks) : Calls Try.prog 50 #[.agg #[.int .i64 x.Day, .slice qCuesA x.Cues.length qCuesC, .slice qRemarksA x.Remarks.length qRemarksC]] w fun e w' => ∃ gCues gRemarks, e = .returned (.agg #[.int .i64 x.Day, .slice (some ⟨gCues, 0, none⟩) x.Cues.length x.Cues.length, .slice (some ⟨gRemarks, 0, none⟩) x.Remarks.length x.Remarks.length]) ∧ w.heap.size ≤ gCues ∧ Blk w' gCues 9 (x.Cues.flatMap strC).toArray ∧ w.heap.size ≤ gRemarks ∧ Blk w' gRemarks 107 (x.Remarks.flatMap RemarkD.cells).toArray ∧ IsX w w' := by
  have bl0 : x.Cues.length ≤ 1099511627776 := by have := hx; simp only [RunD.small] at this; omega
  have bl1 : x.Remarks.length ≤ 1099511627776 := by have := hx; simp only [RunD.small] at this; omega
  clear hx
  go_enter Try.func50, Try.ntmps50
  go_wp2_with fail
  obtain ⟨W, hW⟩ : ∃ W, W = ((w.alloc (.cells #[.int .i64 x.Day, .slice qCuesA x.Cues.length qCuesC, .slice qRemarksA x.Remarks.length qRemarksC] 81)).alloc (.cells #[.int .i64 0, .slice none 0 0, .slice none 0 0] 86)).alloc (.cells #[.int .i64 x.Day, .slice none 0 0, .slice none 0 0] 86) := ⟨_, rfl⟩
  first | rw [← hW] | rw [show Value.string (⟨#[]⟩ : ByteArray) = Value.string ByteArray.empty from rfl, ← hW]
  have hx0' : IsX w W := hW ▸ ((((IsX.refl w).alloc _).alloc _).alloc _)
  have hsz : W.heap.size = w.heap.size + 3 := by rw [hW]; simp
  have k1 : W.cell? ⟨w.heap.size, 2, none⟩ = some (.slice qRemarksA x.Remarks.length qRemarksC) := by rw [hW]; simp [go_sem]
  have hO : Blk W (w.heap.size + 1 + 1) 86 #[.int .i64 x.Day, .slice none 0 0, .slice none 0 0] := by
    rw [hW]; have := Blk.new ((w.alloc (.cells #[.int .i64 x.Day, .slice qCuesA x.Cues.length qCuesC, .slice qRemarksA x.Remarks.length qRemarksC] 81)).alloc (.cells #[.int .i64 0, .slice none 0 0, .slice none 0 0] 86)) 86 #[.int .i64 x.Day, .slice none 0 0, .slice none 0 0]; simpa using this
  have hP : Blk W (w.heap.size + 1) 86 #[.int .i64 0, .slice none 0 0, .slice none 0 0] := by
    rw [hW]; have := (Blk.new (w.alloc (.cells #[.int .i64 x.Day, .slice qCuesA x.Cues.length qCuesC, .slice qRemarksA x.Remarks.length qRemarksC] 81)) 86 #[.int .i64 0, .slice none 0 0, .slice none 0 0]).alloc (.cells #[.int .i64 x.Day, .slice none 0 0, .slice none 0 0] 86); simpa using this
  clear hW
  refine (c_toStringS qCuesA qCuesC x.Cues W bl0 (hR0.x hx0')).mono ?_
  rintro e w0 ⟨gCues, rfl, hg0, hB0, hx0⟩
  have hh0 : w.heap.size + 3 ≤ gCues := by have := hg0; omega
  have sz0 := hx0.size
  replace hO := hO.x hx0
  replace hP := hP.x hx0
  have hxx0 := IsX.trans hx0' hx0
  replace k1 := keep hx0 (by omega) k1
  have o0_0 := hO.cell 0
  have o0_1 := hO.cell 1
  have o0_2 := hO.cell 2
  have z0 := hO.frozen 1
  simp at o0_0 o0_1 o0_2
  go_wp2_with fail
  clear z0 o0_0 o0_1 o0_2
  replace hO := hO.set_ 1 (.slice (some ⟨gCues, 0, none⟩) x.Cues.length x.Cues.length)
  replace hP := hP.far (p := ⟨w.heap.size + 1 + 1, 1, none⟩) (by simp) (.slice (some ⟨gCues, 0, none⟩) x.Cues.length x.Cues.length)
  replace hB0 := hB0.far (p := ⟨w.heap.size + 1 + 1, 1, none⟩) (by simp; omega) (.slice (some ⟨gCues, 0, none⟩) x.Cues.length x.Cues.length)
  replace k1 : (w0.setCell ⟨w.heap.size + 1 + 1, 1, none⟩ (.slice (some ⟨gCues, 0, none⟩) x.Cues.length x.Cues.length)).cell? ⟨w.heap.size, 2, none⟩ = _ := (World.cell?_setCell_other _ _ _ _ (by intro e; injection e; omega)).trans k1
  have hy0 : IsX w (w0.setCell ⟨w.heap.size + 1 + 1, 1, none⟩ (.slice (some ⟨gCues, 0, none⟩) x.Cues.length x.Cues.length)) := IsX.setCell (a := ⟨w.heap.size + 1 + 1, 1, none⟩) hxx0 (by simp; omega) _
  refine (c_toRemarkS qRemarksA qRemarksC x.Remarks (w0.setCell ⟨w.heap.size + 1 + 1, 1, none⟩ (.slice (some ⟨gCues, 0, none⟩) x.Cues.length x.Cues.length)) bl1 (hR1.x hy0)).mono ?_
  rintro e w1 ⟨gRemarks, rfl, hg1, hB1, hx1⟩
  have hh1 : w.heap.size + 3 ≤ gRemarks := by have := hg1; simp [World.setCell] at this; omega
  have sz1 := hx1.size
  simp [World.setCell] at sz1
  replace hO := hO.x hx1
  replace hP := hP.x hx1
  replace hB0 := hB0.x hx1
  have hxx1 := IsX.trans hy0 hx1
  have o1_0 := hO.cell 0
  have o1_1 := hO.cell 1
  have o1_2 := hO.cell 2
  have z1 := hO.frozen 2
  simp at o1_0 o1_1 o1_2
  have r0 := hP.cell 0
  have y0 := hP.frozen 0
  have r1 := hP.cell 1
  have y1 := hP.frozen 1
  have r2 := hP.cell 2
  have y2 := hP.frozen 2
  simp at r0 r1 r2
  clear hg0 hx0 hg1 hx1 hx0'
  go_wp2_with fail
  have hPA := hP.far (p := ⟨w.heap.size + 1 + 1, 2, none⟩) (by simp) (.slice (some ⟨gRemarks, 0, none⟩) x.Remarks.length x.Remarks.length)
  have f0 := (hPA.set_ 0 (.int .i64 x.Day)).cell 0
  have f1 := ((hPA.set_ 0 (.int .i64 x.Day)).set_ 1 (.slice (some ⟨gCues, 0, none⟩) x.Cues.length x.Cues.length)).cell 1
  have f2 := (((hPA.set_ 0 (.int .i64 x.Day)).set_ 1 (.slice (some ⟨gCues, 0, none⟩) x.Cues.length x.Cues.length)).set_ 2 (.slice (some ⟨gRemarks, 0, none⟩) x.Remarks.length x.Remarks.length)).cell 2
  simp at f0 f1 f2
  exact bodyPost_ret (v := .agg #[.int .i64 x.Day, .slice (some ⟨gCues, 0, none⟩) x.Cues.length x.Cues.length, .slice (some ⟨gRemarks, 0, none⟩) x.Remarks.length x.Remarks.length]) (by simp [results, Try.results50, go_sem, f0, f1, f2]) rfl ⟨_, _, rfl, (by omega), (by repeat (first | exact hB0 | refine Blk.far ?_ (by first | omega | (simp; omega)) _)), (by omega), (by repeat (first | exact hB1 | refine Blk.far ?_ (by first | omega | (simp; omega)) _)), (by repeat (first | exact hxx1 | exact IsX.refl _ | refine IsX.setCell ?_ (by first | (simp; done) | (simp; omega)) _))⟩

def RunR.own (lo : Nat) (w : World) (r : RunR) : Prop := (∃ g, r.CuesA = some ⟨g, 0, none⟩ ∧ lo ≤ g ∧ r.CuesC = r.Cues.length ∧ Blk w g 9 (r.Cues.flatMap strC).toArray) ∧ (∃ g, r.RemarksA = some ⟨g, 0, none⟩ ∧ lo ≤ g ∧ r.RemarksC = r.Remarks.length ∧ Blk w g 107 (r.Remarks.flatMap RemarkD.cells).toArray)
theorem RunR.own.x {lo : Nat} {w w' : World} {r : RunR} (h : r.own lo w) (hx : IsX w w') : r.own lo w' := by
  obtain ⟨g0, e0, l0, q0, b0⟩ := h.1
  obtain ⟨g1, e1, l1, q1, b1⟩ := h.2
  exact ⟨⟨g0, e0, l0, q0, b0.x hx⟩, ⟨g1, e1, l1, q1, b1.x hx⟩⟩
theorem RunR.own.ok {lo : Nat} {w : World} {r : RunR} (h : r.own lo w) : r.ok lo w := by
  obtain ⟨g0, e0, l0, q0, b0⟩ := h.1
  obtain ⟨g1, e1, l1, q1, b1⟩ := h.2
  exact ⟨⟨by rw [e0]; exact b0.rd strC_len, fun b off s h => by rw [e0] at h; injection h with h; injection h with h; omega⟩, ⟨by rw [e1]; exact b1.rd RemarkD.cells_len, fun b off s h => by rw [e1] at h; injection h with h; injection h with h; omega⟩⟩
theorem RunR.own.put {lo g : Nat} {w : World} {r : RunR} (h : r.own lo w) (hg : g < lo) (vs : List Value) (o : Nat) : r.own lo (putAll w g o vs) := by
  obtain ⟨g0, e0, l0, q0, b0⟩ := h.1
  obtain ⟨g1, e1, l1, q1, b1⟩ := h.2
  exact ⟨⟨g0, e0, l0, q0, putAll_blk_far g (by omega) vs o w b0⟩, ⟨g1, e1, l1, q1, putAll_blk_far g (by omega) vs o w b1⟩⟩
/-- A list of Run in memory of its own: block g is its row, its elements' slices lie in later blocks. -/
def MadeRun (w : World) (g : Nat) (xs : List RunD) : Prop := ∃ rs : List RunR, rs.map RunR.data = xs ∧ Blk w g 86 (rs.flatMap RunR.cells).toArray ∧ ∀ r ∈ rs, r.own (g + 1) w
theorem MadeRun.x {w w' : World} {g : Nat} {xs : List RunD} (h : MadeRun w g xs) (hx : IsX w w') : MadeRun w' g xs := by
  obtain ⟨rs, e, hb, ho⟩ := h
  exact ⟨rs, e, hb.x hx, fun r hr => (ho r hr).x hx⟩
theorem MadeRun.rd {w : World} {g : Nat} {xs : List RunD} (h : MadeRun w g xs) : RdRun 0 w (some ⟨g, 0, none⟩) xs := by
  obtain ⟨rs, e, hb, ho⟩ := h
  exact ⟨rs, e, hb.rd RunR.cells_len, fun r hr => let h := (ho r hr).ok; ⟨⟨h.1.1, fun _ _ _ _ => Nat.zero_le _⟩, ⟨h.2.1, fun _ _ _ _ => Nat.zero_le _⟩⟩⟩

set_option maxHeartbeats 800000 in
theorem c_eqRun (x : RunD) (qCuesA qRemarksA : Option Addr) (qCuesC qRemarksC : Nat) (uCuesA uRemarksA : Option Addr) (uCuesC uRemarksC : Nat) (w : World) (hx : x.small 1099511627776) (hR0 : Rd strC 1 w qCuesA x.Cues) (hR1 : Rd RemarkD.cells 4 w qRemarksA x.Remarks) (hU0 : Rd strC 1 w uCuesA x.Cues) (hU1 : Rd RemarkD.cells 4 w uRemarksA x.Remarks) : Calls Try.prog 53 #[.agg #[.int .i64 x.Day, .slice qCuesA x.Cues.length qCuesC, .slice qRemarksA x.Remarks.length qRemarksC], .agg #[.int .i64 x.Day, .slice uCuesA x.Cues.length uCuesC, .slice uRemarksA x.Remarks.length uRemarksC]] w fun e w' => e = .returned (.bool true) ∧ IsX w w' := by
  have bl0 : x.Cues.length ≤ 1099511627776 := by have := hx; simp only [RunD.small] at this; omega
  have bl1 : x.Remarks.length ≤ 1099511627776 := by have := hx; simp only [RunD.small] at this; omega
  clear hx
  go_enter Try.func53, Try.ntmps53
  go_wp2_with fail
  refine (c_eqStringS qCuesA uCuesA qCuesC uCuesC x.Cues _ bl0 (hR0.x (((IsX.refl w).alloc _).alloc _)) (hU0.x (((IsX.refl w).alloc _).alloc _))).mono ?_
  rintro e w0 ⟨rfl, p0, rfl⟩
  go_wp2_with fail
  refine (c_eqRemarkS qRemarksA uRemarksA qRemarksC uRemarksC x.Remarks _ bl1 (hR1.x (IsX.xt (((IsX.refl w).alloc _).alloc _) p0)) (hU1.x (IsX.xt (((IsX.refl w).alloc _).alloc _) p0))).mono ?_
  rintro e w1 ⟨rfl, p1, rfl⟩
  go_wp2_with fail
  go_ret
  exact ⟨rfl, IsX.xt (IsX.xt (((IsX.refl w).alloc _).alloc _) p0) p1⟩

theorem Run_info : (Try.prog.info? 86).map (fun i => (i.zero, i.size, i.bytes)) = some (some (.agg #[.int .i64 0, .slice none 0 0, .slice none 0 0]), 3, 56) := by kernel_rfl
theorem rs_stepRun {xs : List RunD} {rs : List RunR} {k : Nat} {r : RunR} (h : rs.map RunR.data = xs.take k) (hk : k < xs.length) (hr : r.data = xs[k]) : (rs ++ [r]).map RunR.data = xs.take (k + 1) := by
  rw [List.map_append, h, List.take_succ_eq_append_getElem hk, List.map_cons, List.map_nil, hr]
set_option maxHeartbeats 800000 in
theorem c_toRunS (A : Option Addr) (c : Nat) (xs : List RunD) (w : World) (hn : xs.length ≤ 1099511627776) (hs : ∀ x ∈ xs, x.small 1099511627776) (hA : RdRun 0 w A xs) :
    Calls Try.prog 21 #[.slice A xs.length c] w fun e w' => ∃ g, e = .returned (.slice (some ⟨g, 0, none⟩) xs.length xs.length) ∧ w.heap.size ≤ g ∧ MadeRun w' g xs ∧ IsX w w' := by
  obtain ⟨i0, hi0, hz0, hz1, hz2⟩ := info_parts Run_info
  obtain ⟨n, hnn⟩ : ∃ n, n = xs.length := ⟨_, rfl⟩
  have HN := hide hnn
  rw [← hnn] at hn ⊢
  clear hnn
  have HS := hide hs
  clear hs
  have hmk := fun W => run_make_rowN (P := Try.prog) 42 86 i0 _ Try.underlying42 hi0 hz0 .i64 .i64 n n (Nat.le_refl _) (by rw [hz2]; omega) (by omega) W
  rw [hz1] at hmk
  clear hz0 hz1 hz2 hi0
  go_enter Try.func21, Try.ntmps21
  go_wp2
  go_loopw [4] (fun i wr => ∃ (k : Nat) (rs : List RunR), k ≤ n ∧ i = .int .i64 k ∧ rs.length = k ∧ rs.map RunR.data = xs.take k ∧ (∀ r ∈ rs, r.own (w.heap.size + 1) wr) ∧ FillN RunR.cells 3 86 n w wr w.heap.size rs) (fun i _ => n - (intOf i).toNat)
  case atStart => exact ⟨0, [], Nat.zero_le _, rfl, rfl, rfl, fun r hr => (List.not_mem_nil hr).elim, FillN.start w (IsX.refl _) _ (size_madeCells _ _)⟩
  case round =>
    obtain ⟨k, rs, hk, rfl, hrl, hrd, hro, ⟨⟨p, rfl⟩, cur, hB, hcs, hcur⟩⟩ := hrel
    have H1 := hide hrl
    have H2 := hide hrd
    have H3 := hide hro
    have H4 := hide hcur
    clear hrl hrd hro hcur
    by_cases hlt : k < n
    · have hltx : k < xs.length := HN.out ▸ hlt
      obtain ⟨b, off, qCuesA, qRemarksA, qCuesC, qRemarksC, rfl, hb, c0, c1, c2, r0, r1⟩ := RdRun.rd hA (show xs[k]? = some xs[k] from List.getElem?_eq_getElem _)
      clear hA
      have hgl := hB.lt
      go_wp2_with (go_at_call 50; refine (c_toRun xs[k] _ _ _ _ _ (HS.out _ (List.getElem_mem _)) (r0.x ⟨p, rfl⟩) (r1.x ⟨p, rfl⟩)).mono ?_; rintro e w1 ⟨g0, g1, rfl, l0, b0, l1, b1, hx1⟩; have hB1 := hB.x hx1; clear hB; obtain ⟨v0, s0⟩ := hB1.has (i := k * 3) (by rw [hcs]; omega); have z0 := hB1.frozen (k * 3); obtain ⟨v1, s1⟩ := hB1.has (i := k * 3 + 1) (by rw [hcs]; omega); have z1 := hB1.frozen (k * 3 + 1); obtain ⟨v2, s2⟩ := hB1.has (i := k * 3 + 2) (by rw [hcs]; omega); have z2 := hB1.frozen (k * 3 + 2))
      have hst := FillN.step (cells := RunR.cells) (x := (⟨xs[k].Day, some ⟨g0, 0, none⟩, xs[k].Cues.length, xs[k].Cues, some ⟨g1, 0, none⟩, xs[k].Remarks.length, xs[k].Remarks⟩ : RunR)) hB1 hcs H4.out H1.out hlt RunR.cells_len (IsX.trans ⟨p, rfl⟩ hx1) (Nat.le_refl _)
      have how : ∀ r ∈ rs ++ [(⟨xs[k].Day, some ⟨g0, 0, none⟩, xs[k].Cues.length, xs[k].Cues, some ⟨g1, 0, none⟩, xs[k].Remarks.length, xs[k].Remarks⟩ : RunR)], r.own (w.heap.size + 1) (putAll w1 w.heap.size (k * 3) (RunR.cells ⟨xs[k].Day, some ⟨g0, 0, none⟩, xs[k].Cues.length, xs[k].Cues, some ⟨g1, 0, none⟩, xs[k].Remarks.length, xs[k].Remarks⟩)) := by
        intro r hr
        rcases List.mem_append.1 hr with hr | hr
        · exact ((H3.out r hr).x hx1).put (by omega) _ _
        · rw [List.mem_singleton] at hr
          subst hr
          exact RunR.own.put (lo := w.heap.size + 1) ⟨⟨g0, rfl, by omega, rfl, b0⟩, ⟨g1, rfl, by omega, rfl, b1⟩⟩ (by omega) _ _
      have H5 := hide hst
      have H6 := hide how
      clear hst how
      go_roundw
      case rel => exact ⟨k + 1, _, by omega, by go_num, by rw [List.length_append, H1.out]; rfl, rs_stepRun H2.out hltx rfl, H6.out, H5.out⟩
      case measure => simp [intOf]; omega
    · obtain rfl : k = n := by omega
      have hdn := FillN.done (cells := RunR.cells) (n := k) (rs := rs) (w := w) ⟨⟨p, rfl⟩, cur, hB, hcs, H4.out⟩ H1.out RunR.cells_len
      have H5 := hide hdn
      clear hdn
      go_wp2
      go_ret
      exact ⟨w.heap.size, rfl, Nat.le_refl _, ⟨rs, by rw [H2.out, HN.out, List.take_length], H5.out.1, H3.out⟩, ⟨p, rfl⟩⟩

set_option maxHeartbeats 800000 in
theorem c_eqRunS (A A' : Option Addr) (c c' : Nat) (xs : List RunD) (w : World) (hn : xs.length ≤ 1099511627776) (hs : ∀ x ∈ xs, x.small 1099511627776) (hA : RdRun 0 w A xs) (hA' : RdRun 0 w A' xs) :
    Calls Try.prog 23 #[.slice A xs.length c, .slice A' xs.length c'] w fun e w' => e = .returned (.bool true) ∧ IsX w w' := by
  obtain ⟨n, hnn⟩ : ∃ n, n = xs.length := ⟨_, rfl⟩
  have HN := hide hnn
  rw [← hnn] at hn ⊢
  clear hnn
  have HS := hide hs
  clear hs
  go_enter Try.func23, Try.ntmps23
  go_wp2
  go_loopw [5] (fun i wr => ∃ k : Nat, k ≤ n ∧ i = .int .i64 k ∧ IsX w wr) (fun i _ => n - (intOf i).toNat)
  case atStart => exact ⟨0, Nat.zero_le _, rfl, IsX.refl _⟩
  case round =>
    obtain ⟨k, hk, rfl, p, rfl⟩ := hrel
    by_cases hlt : k < n
    · have hltx : k < xs.length := HN.out ▸ hlt
      obtain ⟨b, off, qCuesA, qRemarksA, qCuesC, qRemarksC, rfl, hb, c0, c1, c2, r0, r1⟩ := RdRun.rd hA (show xs[k]? = some xs[k] from List.getElem?_eq_getElem _)
      obtain ⟨b', off', uCuesA, uRemarksA, uCuesC, uRemarksC, rfl, hb', d0, d1, d2, t0, t1⟩ := RdRun.rd hA' (show xs[k]? = some xs[k] from List.getElem?_eq_getElem _)
      clear hA hA'
      go_wp2
      refine wp_region_x (by kernel_rfl) (by kernel_rfl) ?_
      repeat (go_big_quiet_step ((go_at_call 53; exact call_x (c_eqRun xs[k] _ _ _ _ _ _ _ _ _ (HS.out _ (List.getElem_mem _)) (r0.x (IsX.xt ⟨p, rfl⟩ _)) (r1.x (IsX.xt ⟨p, rfl⟩ _)) (t0.x (IsX.xt ⟨p, rfl⟩ _)) (t1.x (IsX.xt ⟨p, rfl⟩ _))))))
      refine wpQuiet_nil ?_
      rintro _ ⟨q, rfl⟩
      go_wp2
      go_roundw
      case rel => exact ⟨k + 1, by omega, by go_num, IsX.xt ⟨p, rfl⟩ q⟩
      case measure => simp [intOf]; omega
    · obtain rfl : k = n := by omega
      go_wp2
      go_ret
      exact ⟨rfl, ⟨p, rfl⟩⟩

end Go.Proofs.Ytfkhhioadklomaa
