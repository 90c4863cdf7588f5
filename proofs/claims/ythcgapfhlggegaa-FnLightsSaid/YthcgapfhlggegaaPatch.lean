/- PatchAll of the program: first fit. Conditions: lists no longer than 2^40. -/
import Derived.Test.YthcgapfhlggegaaUniProg
import Derived.Test.YthcgapfhlggegaaUniFnLaw
import Derived.Test.YthcgapfhlggegaaPairs
namespace Go.Proofs.Ythcgapfhlggegaa
set_option linter.unusedVariables false
open Go.RowKit

theorem flat_ints (us : List Int) : us.flatMap intC = us.map (Value.int .i64) := by
  induction us with
  | nil => rfl
  | cons a us ih => simp [intC, List.flatMap_cons, ih]
def intArr (us : List Int) : Array Value := (us.flatMap intC).toArray
theorem intArr_len (us : List Int) : (intArr us).size = us.length := by simp [intArr, flat_ints]
theorem intArr_get {us : List Int} {j : Nat} {v : Int} (h : us[j]? = some v) : (intArr us)[j]? = some (.int .i64 v) := by simp [intArr, flat_ints, h]
theorem intArr_set (us : List Int) (j : Nat) (v : Int) : (intArr us).setIfInBounds j (.int .i64 v) = intArr (us.set j v) := by simp [intArr, flat_ints, List.map_set]
theorem blk_set {w : World} {g t j : Nat} {us : List Int} (h : Blk w g t (intArr us)) (v : Int) : Blk (w.setCell ⟨g, j, none⟩ (.int .i64 v)) g t (intArr (us.set j v)) := by
  have := h.set_ j (.int .i64 v)
  rwa [intArr_set] at this
def patchZ (us : List Nat) : List Int := us.map (fun u => ((u + 1 : Nat) : Int))
theorem padU_get {used : List Int} {u : Nat} (h : used.length ≤ 8) (hu : u < 8) : (padU 8 used)[u]? = some (loadU used u) := by
  unfold padU loadU
  rcases Nat.lt_or_ge u used.length with h1 | h1
  · rw [List.getElem?_append_left h1, List.getD_eq_getElem?_getD, List.getElem?_eq_getElem h1]; rfl
  · rw [List.getElem?_append_right h1, List.getElem?_replicate, if_pos (by omega), List.getD_eq_getElem?_getD, List.getElem?_eq_none h1]; rfl
theorem padU_step {used : List Int} {u : Nat} {wd : Int} (h : u ≤ used.length) (h8 : used.length ≤ 8) (hu : u < 8) : (padU 8 used).set u (loadU used u + wd) = padU 8 (bump used u wd) := by
  have h2 : u < (padU 8 used).length := by rw [padU_len h8]; exact hu
  rw [padU_bump h hu h2]
  have e := padU_get h8 hu
  rw [List.getElem?_eq_getElem h2] at e
  rw [Option.some.inj e]
/-- what PatchAll answers -/
def PatchQ (w : World) (xs : List Int) (e : Ending) (w' : World) : Prop := ∃ (A : Option Addr) (c : Nat) (zs : List (Int × Int)) (gs : List Nat) (code : Int), e = .returned (.tuple #[.slice A zs.length c, .int .i64 code]) ∧ ((code ≠ 0 ∧ zs = []) ∨ (code = 0 ∧ zs.map Prod.fst = patchZ (ffPath xs []))) ∧ zs.length ≤ 16 ∧ PairRow w' w.heap.size (.slice A zs.length c) zs gs ∧ IsX w w'
theorem PatchQ.bad {w w' : World} {xs : List Int} {code : Int} (hx : IsX w w') (hc : code ≠ 0) : PatchQ w xs (.returned (.tuple #[.slice none 0 0, .int .i64 code])) w' :=
  ⟨none, 0, [], [], code, rfl, .inl ⟨hc, rfl⟩, by simp, PairRow.nil _ _, hx⟩
set_option maxHeartbeats 6400000 in
set_option maxRecDepth 100000 in
theorem c_PatchAll (A : Option Addr) (c : Nat) (xs : List Int) (w : World) (hn : xs.length ≤ 1099511627776) (hA : Rd intC 1 w A xs) :
    Calls Try.prog 14 #[.slice A xs.length c] w (PatchQ w xs) := by
  have HOKC := hide (c_areWidths A c xs w hn hA)
  cases hv : widthsB xs
  · rw [hv] at HOKC
    clear hv
    go_enter Try.func14, Try.ntmps14
    go_wp2_with fail
    refine HOKC.out.mono ?_
    rintro e w1 ⟨rfl, hx⟩
    go_wp2_with fail
    go_ret2
    exact PatchQ.bad hx (by omega)
  have HV := hide (widths_of hv)
  rw [hv] at HOKC
  clear hv
  obtain ⟨n, hnn⟩ : ∃ n, n = xs.length := ⟨_, rfl⟩
  have HN := hide hnn
  have hn16 : n ≤ 16 := by rw [hnn]; exact HV.out.1
  rw [← hnn] at hn HOKC ⊢
  clear hnn
  have HA := hide hA
  have HIS := hide (info_parts PairS_info)
  clear hA
  go_enter Try.func14, Try.ntmps14
  go_wp2_with fail
  refine HOKC.out.mono ?_
  rintro e w1 ⟨rfl, hx⟩
  have HX1 := hide hx
  clear hx HOKC
  go_wp2_with fail
  obtain ⟨AB, hAB⟩ : ∃ AB, AB = w1.heap.size := ⟨_, rfl⟩
  generalize hw2 : World.alloc w1 _ = w2
  have hB2 : Blk w2 AB 65 (intArr (padU 8 [])) := by rw [← hw2, hAB]; exact Blk.new w1 _ _
  have hx2 : IsX w w2 := by rw [← hw2]; exact HX1.out.alloc _
  have hwA : w.heap.size ≤ AB := by rw [hAB]; exact HX1.out.size
  rw [← hAB]
  have HX2 := hide hx2
  have HB2 := hide hB2
  have HP2 : Hid (PairRow w2 (AB + 1) (.slice none 0 0) [] []) := hide (PairRow.nil _ _)
  clear hw2 hAB hx2 hB2 HX1
  go_loopw [5, 14] (fun pv iv wr => ∃ (k : Nat) (zs : List (Int × Int)) (gs : List Nat) (A' : Option Addr) (c' : Nat) (used : List Int), k ≤ n ∧ iv = .int .i64 k ∧ pv = .slice A' zs.length c' ∧ zs.length = k ∧ used.length ≤ 8 ∧ Hid (∀ v, 0 ≤ loadU used v ∧ loadU used v ≤ 512) ∧ Hid (zs.map Prod.fst ++ patchZ (ffPath (xs.drop k) used) = patchZ (ffPath xs [])) ∧ Hid (Blk wr AB 65 (intArr (padU 8 used))) ∧ Hid (PairRow wr (AB + 1) pv zs gs) ∧ Hid (IsX w wr)) (fun _ iv _ => n - (intOf iv).toNat)
  case atStart => exact ⟨0, [], [], none, 0, [], Nat.zero_le _, rfl, rfl, rfl, by simp, hide (fun v => by simp [loadU]), hide (by simp), HB2, HP2, HX2⟩
  case round =>
    clear HX2 HB2 HP2
    obtain ⟨k, zs, gs, A', c', used, hk, rfl, rfl, hzl, hul, HLD, HPATH, HB, HP, HX⟩ := hrel
    have HM := hide hzl.symm
    rw [hzl]
    clear hzl
    by_cases hlt : k < n
    · have hltx : k < xs.length := HN.out ▸ hlt
      obtain ⟨b, off, e, hb, c0⟩ := int_rd (HA.out.x HX.out) (show xs[k]? = some xs[k] from List.getElem?_eq_getElem _)
      subst e
      have hwd := HV.out.2 _ (List.getElem_mem hltx)
      have HD := hide (List.drop_eq_getElem_cons hltx)
      generalize hwx : xs[k] = wd at c0 hwd HD
      have HWD := hide hwx
      obtain ⟨hw1, hw2⟩ := hwd
      clear hwx
      have HP0 : Hid (PairRow wr (AB + 1) (.slice A' k c') zs gs) := hide (by have h := HP.out; rw [← HM.out] at h; exact h)
      clear HP
      go_wp2_with fail
      go_loopw [8] (fun uv wr2 => ∃ u : Nat, u ≤ 8 ∧ u ≤ used.length ∧ uv = .int .i64 u ∧ Hid (∀ v, v < u → 512 < loadU used v + wd) ∧ Hid (IsX wr wr2)) (fun uv _ => 8 - (intOf uv).toNat)
      case atStart => exact ⟨0, by omega, Nat.zero_le _, rfl, hide (fun v hv => absurd hv (by omega)), hide (IsX.refl _)⟩
      case round =>
        obtain ⟨u, hu8, hul2, rfl, HLOW, HX3⟩ := hrel
        clear c0
        by_cases hu : u < 8
        · have hB3 := HB.out.x HX3.out
          have cU : wr.cell? ⟨AB, u, none⟩ = some (.int .i64 (loadU used u)) := (hB3.cell u).trans (intArr_get (padU_get hul hu))
          have lU := hB3.lt
          have HB3 := hide hB3
          clear hB3
          have HPS := hide (fun (hfit : loadU used u + wd ≤ 512) => show (padU 8 used).set u (loadU used u + wd) = padU 8 (bump used u wd) from padU_step hul2 hul hu)
          have HFF := hide (fun (hfit : loadU used u + wd ≤ 512) => show ffit used wd = u from ffit_of hul2 HLOW.out hfit)
          have HBP := hide (fun v => load_bump (w := wd) hul2 v)
          have hlen : loadU used u = 0 ∨ u < used.length := by
            rcases Nat.lt_or_ge u used.length with h | h
            · exact .inr h
            · left; unfold loadU; rw [List.getD_eq_getElem?_getD, List.getElem?_eq_none h]; rfl
          obtain ⟨y0, y1⟩ := HLD.out u
          generalize hy : loadU used u = y at cU y0 y1 hlen HPS HFF
          have HY := hide hy
          clear hy
          by_cases hbig : 512 < y + wd
          · go_wp2_with fail
            go_roundw
            case rel => exact ⟨u + 1, by omega, by omega, by go_num, hide (fun v hv => by
              rcases Nat.lt_or_ge v u with h | h
              · exact HLOW.out v h
              · obtain rfl : v = u := by omega
                rw [HY.out]; exact hbig), HX3⟩
            case measure => simp [intOf]; omega
          · have hPS := HPS.out (by omega)
            have hFF := HFF.out (by omega)
            have HPS' := hide hPS
            have HFF' := hide hFF
            clear hPS hFF HPS HFF
            have HP3 := hide (HP0.out.x HX3.out)
            have HXX := hide (HX.out.trans HX3.out)
            have hbase : AB + 1 ≤ wr.heap.size := lU
            go_wp2_with (
              at_builtin
              obtain ⟨i0, hi0, hz0, hz1, hz2⟩ := HIS.out
              refine wpList_append_any _ rfl (.tmp 32) (.tmp 40) _ rfl (AB + 1) 27 i0 _ 1 24 Try.underlying39 hi0 hz0 hz1 hz2 rfl (by omega) (.slice A' k c') k (gs.map pairV) rfl (((HM.out ▸ HP3.out.row : wr.ownsRow (AB + 1) 27 1 (.slice A' k c') k (gs.map pairV)).alloc _).alloc _) _ (some ⟨wr.heap.size + 1, 0, none⟩) 1 1 [pairV wr.heap.size] rfl (pair_reads wr _ _ _) (pair_one _) (by simp only [maxLen]; omega) (by omega) (by simp; omega) ?_
              clear hi0 hz0 hz1 hz2
              intro v1 w4 hown1 hg1 hat1
              obtain ⟨A2, c2, rfl⟩ := own_form hown1
              have HP4 := hide (HP3.out.push (z := ((u : Int) + 1, y + 1)) hbase (by rw [← HM.out]; exact hown1) hg1 hat1)
              have hB4 : Blk w4 AB 65 (intArr (padU 8 used)) := ((HB3.out.alloc _).alloc _).grown hg1 (fun e => by have := (HP3.out.row.lt AB e.symm).1; omega)
              have HX4 : Hid (IsX w w4) := hide (IsX.grown ((HXX.out.alloc _).alloc _) hg1 (by intro z hz; have := (HP3.out.row.lt z hz).1; omega))
              have HB4 := hide hB4
              clear hown1 hg1 hat1 cU lU
              have cU : w4.cell? ⟨AB, u, none⟩ = some (.int .i64 y) := (hB4.cell u).trans (intArr_get (by rw [padU_get hul hu, HY.out]))
              have lU := hB4.lt
              have fU := hB4.frozen u
              clear hB4)
            go_roundw
            case rel => exact ⟨k + 1, zs ++ [((u : Int) + 1, y + 1)], _, A2, c2, bump used u wd, by omega, by go_num, by simp [← HM.out], by simp [← HM.out], by rw [bump_len]; split <;> omega, hide (fun v => by
                have h1 := HBP.out v
                have h2 := HLD.out v
                rw [h1]
                by_cases e : v = u
                · subst e; rw [if_pos rfl, HY.out]; omega
                · rw [if_neg e]; omega), hide (by
                have h := HPATH.out
                rw [HD.out, ffPath, HFF'.out] at h
                rw [List.map_append, ← h]
                simp [patchZ]), hide (by have h := blk_set (j := u) HB4.out (y + wd); rw [HPS'.out] at h; exact h), hide (by have h := HP4.out.under (gr_of_set w4 AB u (.int .i64 (y + wd))) (Nat.lt_succ_self AB); simpa [← HM.out] using h), hide (HX4.out.setCell (a := ⟨AB, u, none⟩) hwA _)⟩
            case measure => simp [intOf]; omega
        · obtain rfl : u = 8 := by omega
          rw [show (((8 : Nat) : Int)) = 8 from rfl]
          go_wp2_with fail
          go_ret2
          exact PatchQ.bad (HX.out.trans HX3.out) (by omega)
    · obtain rfl : k = n := by omega
      go_wp2_with fail
      go_ret2
      refine ⟨A', c', zs, gs, 0, by rw [← HM.out]; rfl, .inr ⟨rfl, ?_⟩, by rw [← HM.out]; exact hn16, HP.out.mono (by omega), HX.out⟩
      have h := HPATH.out
      rw [show xs.drop k = [] from List.drop_eq_nil_of_le (by rw [← HN.out]; exact Nat.le_refl _)] at h
      simpa [ffPath, patchZ] using h
end Go.Proofs.Ythcgapfhlggegaa
